import Derived.Test.YtefejkhcbelahaaDoorKp1
import Derived.Test.YtefejkhcbelahaaDoorKp8
import Derived.Test.YtefejkhcbelahaaDoorKp21
import Derived.Test.YtefejkhcbelahaaDoorKp22
import Derived.Test.YtefejkhcbelahaaDoorKp18
import Derived.Test.YtefejkhcbelahaaDoorKp16
import Derived.Test.YtefejkhcbelahaaDoorKp26
namespace Go.Proofs.YtefejkhcbelahaaDoor.Q
open Go.RowKit Go.Proofs.YtefejkhcbelahaaDoorW.PrintWords Go.Proofs.YtefejkhcbelahaaDoorW.PrintLast Go.Proofs.YtefejkhcbelahaaDoorW.PrintMore
attribute [local go_sem] max2_int min2_int max_two min_two max_three min_three max_four min_four   -- for this text's walks alone
set_option linter.unusedVariables false
set_option linter.unusedSimpArgs false
mutual
def quipulaw16_DigitsPieces.l0 : Nat → Int → Int → Bool → ByteArray → ByteArray → Int → Bool → ByteArray → ByteArray → ByteArray → ByteArray → ByteArray → ByteArray → ByteArray → ByteArray → ByteArray → ByteArray → ByteArray → ByteArray → ByteArray → ByteArray → ByteArray → ByteArray → ByteArray → ByteArray → ByteArray → ByteArray → ByteArray → Int → Int → Int → Bool → Option (Bool)
  | 0, _, _, _, _, _, _, _, _, _, _, _, _, _, _, _, _, _, _, _, _, _, _, _, _, _, _, _, _, _, _, _, _ => none
  | k + 1, x7, x279000, x279001, x279002, x279003, x279004, x279005, x280000, x280001, x280002, x280003, x280004, x280005, x280006, x280007, x280008, x280009, x280010, x280011, x280012, x280013, x280014, x280015, x280016, x280017, x280018, x280019, x280020, x281000, x281001, x281002, x281003 => if x7 < 2 then ((quipulaw16_pieces.f x279000 x279001 x279002 x279003 x279004 x279005 x280000 x280001 x280002 x280003 x280004 x280005 x280006 x280007 x280008 x280009 x280010 x280011 x280012 x280013 x280014 x280015 x280016 x280017 x280018 x280019 x280020 x281000 x281001 x281002 x281003).bind fun t282 => ((quipuref16_Pieces.f k x279000 x279001 x279002 x279003 x279004 x279005 x280000 x280001 x280002 x280003 x280004 x280005 x280006 x280007 x280008 x280009 x280010 x280011 x280012 x280013 x280014 x280015 x280016 x280017 x280018 x280019 x280020 x281000 x281001 x281002 x281003).bind fun t285 => ((quipuref16_Same.f k t282 t285).bind fun t288 => (if t288 = true then (quipulaw16_DigitsPieces.l1 k x7 t282 0 x279000 x279001 x279002 x279003 x279004 x279005 x280000 x280001 x280002 x280003 x280004 x280005 x280006 x280007 x280008 x280009 x280010 x280011 x280012 x280013 x280014 x280015 x280016 x280017 x280018 x280019 x280020 x281000 x281001 x281002 x281003) else (some false))))) else ((quipulaw16_awake.f k).bind fun t281 => (some t281))
def quipulaw16_DigitsPieces.l1 : Nat → Int → List (S34) → Int → Int → Bool → ByteArray → ByteArray → Int → Bool → ByteArray → ByteArray → ByteArray → ByteArray → ByteArray → ByteArray → ByteArray → ByteArray → ByteArray → ByteArray → ByteArray → ByteArray → ByteArray → ByteArray → ByteArray → ByteArray → ByteArray → ByteArray → ByteArray → ByteArray → ByteArray → Int → Int → Int → Bool → Option (Bool)
  | 0, _, _, _, _, _, _, _, _, _, _, _, _, _, _, _, _, _, _, _, _, _, _, _, _, _, _, _, _, _, _, _, _, _, _ => none
  | k + 1, x7, x8, x9, x279000, x279001, x279002, x279003, x279004, x279005, x280000, x280001, x280002, x280003, x280004, x280005, x280006, x280007, x280008, x280009, x280010, x280011, x280012, x280013, x280014, x280015, x280016, x280017, x280018, x280019, x280020, x281000, x281001, x281002, x281003 => if x9 < (x8.length : Int) then (if 0 ≤ x9 then (quipulaw16_DigitsPieces.l1 k x7 (x8.set (x9 : Int).toNat (⟨(⟨#[115, 112, 111, 105, 108, 116]⟩ : ByteArray), 0⟩ : S34)) (wrap64 (x9 + 1)) x279000 x279001 x279002 x279003 x279004 x279005 x280000 x280001 x280002 x280003 x280004 x280005 x280006 x280007 x280008 x280009 x280010 x280011 x280012 x280013 x280014 x280015 x280016 x280017 x280018 x280019 x280020 x281000 x281001 x281002 x281003) else (none)) else (if x8.length < 5864062014805 then (quipulaw16_DigitsPieces.l0 k (wrap64 (x7 + 1)) x279000 x279001 x279002 x279003 x279004 x279005 x280000 x280001 x280002 x280003 x280004 x280005 x280006 x280007 x280008 x280009 x280010 x280011 x280012 x280013 x280014 x280015 x280016 x280017 x280018 x280019 x280020 x281000 x281001 x281002 x281003) else (none))
end
def quipulaw16_DigitsPieces.f (k : Nat) (a0_0 : Int) (a0_1 : Bool) (a0_2 : ByteArray) (a0_3 : ByteArray) (a0_4 : Int) (a0_5 : Bool) (a1_0 : ByteArray) (a1_1 : ByteArray) (a1_2 : ByteArray) (a1_3 : ByteArray) (a1_4 : ByteArray) (a1_5 : ByteArray) (a1_6 : ByteArray) (a1_7 : ByteArray) (a1_8 : ByteArray) (a1_9 : ByteArray) (a1_10 : ByteArray) (a1_11 : ByteArray) (a1_12 : ByteArray) (a1_13 : ByteArray) (a1_14 : ByteArray) (a1_15 : ByteArray) (a1_16 : ByteArray) (a1_17 : ByteArray) (a1_18 : ByteArray) (a1_19 : ByteArray) (a1_20 : ByteArray) (a2_0 : Int) (a2_1 : Int) (a2_2 : Int) (a2_3 : Bool) : Option (Bool) := quipulaw16_DigitsPieces.l0 k 0 a0_0 a0_1 a0_2 a0_3 a0_4 a0_5 a1_0 a1_1 a1_2 a1_3 a1_4 a1_5 a1_6 a1_7 a1_8 a1_9 a1_10 a1_11 a1_12 a1_13 a1_14 a1_15 a1_16 a1_17 a1_18 a1_19 a1_20 a2_0 a2_1 a2_2 a2_3
set_option maxHeartbeats 8000000 in
set_option maxRecDepth 100000 in
theorem quipulaw16_DigitsPieces.calls (k : Nat) (a0_0 : Int) (a0_1 : Bool) (a0_2 : ByteArray) (a0_3 : ByteArray) (a0_4 : Int) (a0_5 : Bool) (a1_0 : ByteArray) (a1_1 : ByteArray) (a1_2 : ByteArray) (a1_3 : ByteArray) (a1_4 : ByteArray) (a1_5 : ByteArray) (a1_6 : ByteArray) (a1_7 : ByteArray) (a1_8 : ByteArray) (a1_9 : ByteArray) (a1_10 : ByteArray) (a1_11 : ByteArray) (a1_12 : ByteArray) (a1_13 : ByteArray) (a1_14 : ByteArray) (a1_15 : ByteArray) (a1_16 : ByteArray) (a1_17 : ByteArray) (a1_18 : ByteArray) (a1_19 : ByteArray) (a1_20 : ByteArray) (a2_0 : Int) (a2_1 : Int) (a2_2 : Int) (a2_3 : Bool) (r : Bool) (w : World) (hG : Gd w) (h : quipulaw16_DigitsPieces.f k a0_0 a0_1 a0_2 a0_3 a0_4 a0_5 a1_0 a1_1 a1_2 a1_3 a1_4 a1_5 a1_6 a1_7 a1_8 a1_9 a1_10 a1_11 a1_12 a1_13 a1_14 a1_15 a1_16 a1_17 a1_18 a1_19 a1_20 a2_0 a2_1 a2_2 a2_3 = some r) :
    Calls Tryd.prog 3 #[.agg #[.int .i64 a0_0, .bool a0_1, .string a0_2, .string a0_3, .int .i64 a0_4, .bool a0_5], .agg #[.string a1_0, .string a1_1, .string a1_2, .string a1_3, .string a1_4, .string a1_5, .string a1_6, .string a1_7, .string a1_8, .string a1_9, .string a1_10, .string a1_11, .string a1_12, .string a1_13, .string a1_14, .string a1_15, .string a1_16, .string a1_17, .string a1_18, .string a1_19, .string a1_20], .agg #[.int .i64 a2_0, .int .i64 a2_1, .int .i64 a2_2, .bool a2_3]] w fun e w' => e = .returned (.bool r) ∧ Below w.heap.size w w' := by
  have hu23 := Tryd.underlying23
  have hu26 := Tryd.underlying26
  have hu28 := Tryd.underlying28
  have hu34 := Tryd.underlying34
  have HB := Aside0.mk (Below.refl w.heap.size w)
  have HG := Aside0.mk hG
  clear hG
  have H : (quipulaw16_DigitsPieces.l0 k 0 a0_0 a0_1 a0_2 a0_3 a0_4 a0_5 a1_0 a1_1 a1_2 a1_3 a1_4 a1_5 a1_6 a1_7 a1_8 a1_9 a1_10 a1_11 a1_12 a1_13 a1_14 a1_15 a1_16 a1_17 a1_18 a1_19 a1_20 a2_0 a2_1 a2_2 a2_3) = some r := h
  clear h
  have H' := Aside0.mk H
  clear H
  go_enter Tryd.func3, Tryd.ntmps3
  go_wp2_with (first | ((with_reducible refine gate_dst (N := 15) rfl ?_); refine wpList_load_row rfl 26 (.tmp 4) rfl gb279 rfl 26 #[.string a1_0, .string a1_1, .string a1_2, .string a1_3, .string a1_4, .string a1_5, .string a1_6, .string a1_7, .string a1_8, .string a1_9, .string a1_10, .string a1_11, .string a1_12, .string a1_13, .string a1_14, .string a1_15, .string a1_16, .string a1_17, .string a1_18, .string a1_19, .string a1_20] (0, 0) _ (by (with_reducible repeat (first | refine blk_drewN ?_ _ | refine blk_drew ?_ | refine blk_alloc ?_ _)); exact BK279.out) Tryd.underlying26 rfl size26 ?_) | ((with_reducible refine gate_dst (N := 20) rfl ?_); refine wpList_load_row rfl 26 (.tmp 4) rfl gb279 rfl 26 #[.string a1_0, .string a1_1, .string a1_2, .string a1_3, .string a1_4, .string a1_5, .string a1_6, .string a1_7, .string a1_8, .string a1_9, .string a1_10, .string a1_11, .string a1_12, .string a1_13, .string a1_14, .string a1_15, .string a1_16, .string a1_17, .string a1_18, .string a1_19, .string a1_20] (0, 0) _ (by (with_reducible repeat (first | refine blk_drewN ?_ _ | refine blk_drew ?_ | refine blk_alloc ?_ _)); exact BK279.out) Tryd.underlying26 rfl size26 ?_) | ((with_reducible refine gate_dst (N := 3) rfl ?_); refine box_event ?hg (N := 3) ?hd (cs := #[.int .i64 a0_0, .bool a0_1, .string a0_2, .string a0_3, .int .i64 a0_4, .bool a0_5]) (t := 23) ?hr ?_; (case hd => rfl); (case hg => rfl); (case hr => first | (go_simp; done) | (go_simp; rfl)); intro gb278 hg w4 hbox hb; have n0_ := Aside0.mk (below_step (by repeat (first | (with_reducible first | exact HB.out | apply below_alloc | apply pw_below_drewN | apply below_drew1) | exact HB.out)) hb); have n1_ := Aside0.mk (hbox); have n2_ := Aside0.mk ((by rw [hg]; exact (below_size (by repeat (first | (with_reducible first | exact HB.out | apply below_alloc | apply pw_below_drewN | apply below_drew1) | exact HB.out))) : w.heap.size ≤ gb278)); have n3_ := Aside0.mk ((by rw [hg]; exact (below_size (by repeat (first | (with_reducible first | exact HB.out | apply below_alloc | apply pw_below_drewN | apply below_drew1) | exact HB.out))) : w.heap.size ≤ gb278)); clear HB; have HB := n0_; have BK278 := n1_; have GW278 := n2_; have GE278 := n3_; clear n0_ n1_ n2_ n3_; clear hb hbox hg) | ((with_reducible refine gate_dst (N := 4) rfl ?_); refine box_event ?hg (N := 4) ?hd (cs := #[.string a1_0, .string a1_1, .string a1_2, .string a1_3, .string a1_4, .string a1_5, .string a1_6, .string a1_7, .string a1_8, .string a1_9, .string a1_10, .string a1_11, .string a1_12, .string a1_13, .string a1_14, .string a1_15, .string a1_16, .string a1_17, .string a1_18, .string a1_19, .string a1_20]) (t := 26) ?hr ?_; (case hd => rfl); (case hg => rfl); (case hr => first | (go_simp; done) | (go_simp; rfl)); intro gb279 hg w5 hbox hb; have n0_ := Aside0.mk (blk_below (g := gb278) (o := .cells #[.int .i64 a0_0, .bool a0_1, .string a0_2, .string a0_3, .int .i64 a0_4, .bool a0_5] 23 (0, 0)) (by (with_reducible repeat (first | refine blk_drewN ?_ _ | refine blk_drew ?_ | refine blk_alloc ?_ _)); exact BK278.out) hb); have n1_ := Aside0.mk (below_step (by repeat (first | (with_reducible first | exact HB.out | apply below_alloc | apply pw_below_drewN | apply below_drew1 | refine below_set ?_ GE278.out) | exact HB.out)) hb); have n2_ := Aside0.mk (hbox); have n3_ := Aside0.mk ((by rw [hg]; exact (below_size (by repeat (first | (with_reducible first | exact HB.out | apply below_alloc | apply pw_below_drewN | apply below_drew1 | refine below_set ?_ GE278.out) | exact HB.out))) : w.heap.size ≤ gb279)); have n4_ := Aside0.mk ((by rw [hg]; exact (below_size (by repeat (first | (with_reducible first | exact HB.out | apply below_alloc | apply pw_below_drewN | apply below_drew1 | refine below_set ?_ GE278.out) | exact HB.out))) : w.heap.size ≤ gb279)); have n5_ := Aside0.mk ((by rw [hg]; exact Nat.ne_of_lt (blk_lt (g := gb278) (o := .cells #[.int .i64 a0_0, .bool a0_1, .string a0_2, .string a0_3, .int .i64 a0_4, .bool a0_5] 23 (0, 0)) (by (with_reducible repeat (first | refine blk_drewN ?_ _ | refine blk_drew ?_ | refine blk_alloc ?_ _)); exact BK278.out)) : gb278 ≠ gb279)); have n6_ := Aside0.mk ((by rw [hg]; exact Nat.ne_of_gt (blk_lt (g := gb278) (o := .cells #[.int .i64 a0_0, .bool a0_1, .string a0_2, .string a0_3, .int .i64 a0_4, .bool a0_5] 23 (0, 0)) (by (with_reducible repeat (first | refine blk_drewN ?_ _ | refine blk_drew ?_ | refine blk_alloc ?_ _)); exact BK278.out)) : gb279 ≠ gb278)); clear BK278; clear HB; have BK278 := n0_; have HB := n1_; have BK279 := n2_; have GW279 := n3_; have GE279 := n4_; have NB278_279 := n5_; have NB279_278 := n6_; clear n0_ n1_ n2_ n3_ n4_ n5_ n6_; clear hb hbox hg) | ((with_reducible refine gate_dst (N := 5) rfl ?_); refine box_event ?hg (N := 5) ?hd (cs := #[.int .i64 a2_0, .int .i64 a2_1, .int .i64 a2_2, .bool a2_3]) (t := 28) ?hr ?_; (case hd => rfl); (case hg => rfl); (case hr => first | (go_simp; done) | (go_simp; rfl)); intro gb280 hg w6 hbox hb; have n0_ := Aside0.mk (blk_below (g := gb278) (o := .cells #[.int .i64 a0_0, .bool a0_1, .string a0_2, .string a0_3, .int .i64 a0_4, .bool a0_5] 23 (0, 0)) (by (with_reducible repeat (first | refine blk_drewN ?_ _ | refine blk_drew ?_ | refine blk_alloc ?_ _)); exact BK278.out) hb); have n1_ := Aside0.mk (blk_below (g := gb279) (o := .cells #[.string a1_0, .string a1_1, .string a1_2, .string a1_3, .string a1_4, .string a1_5, .string a1_6, .string a1_7, .string a1_8, .string a1_9, .string a1_10, .string a1_11, .string a1_12, .string a1_13, .string a1_14, .string a1_15, .string a1_16, .string a1_17, .string a1_18, .string a1_19, .string a1_20] 26 (0, 0)) (by (with_reducible repeat (first | refine blk_drewN ?_ _ | refine blk_drew ?_ | refine blk_alloc ?_ _)); exact BK279.out) hb); have n2_ := Aside0.mk (below_step (by repeat (first | (with_reducible first | exact HB.out | apply below_alloc | apply pw_below_drewN | apply below_drew1 | refine below_set ?_ GE278.out | refine below_set ?_ GE279.out) | exact HB.out)) hb); have n3_ := Aside0.mk (hbox); have n4_ := Aside0.mk ((by rw [hg]; exact (below_size (by repeat (first | (with_reducible first | exact HB.out | apply below_alloc | apply pw_below_drewN | apply below_drew1 | refine below_set ?_ GE278.out | refine below_set ?_ GE279.out) | exact HB.out))) : w.heap.size ≤ gb280)); have n5_ := Aside0.mk ((by rw [hg]; exact (below_size (by repeat (first | (with_reducible first | exact HB.out | apply below_alloc | apply pw_below_drewN | apply below_drew1 | refine below_set ?_ GE278.out | refine below_set ?_ GE279.out) | exact HB.out))) : w.heap.size ≤ gb280)); have n6_ := Aside0.mk ((by rw [hg]; exact Nat.ne_of_lt (blk_lt (g := gb278) (o := .cells #[.int .i64 a0_0, .bool a0_1, .string a0_2, .string a0_3, .int .i64 a0_4, .bool a0_5] 23 (0, 0)) (by (with_reducible repeat (first | refine blk_drewN ?_ _ | refine blk_drew ?_ | refine blk_alloc ?_ _)); exact BK278.out)) : gb278 ≠ gb280)); have n7_ := Aside0.mk ((by rw [hg]; exact Nat.ne_of_gt (blk_lt (g := gb278) (o := .cells #[.int .i64 a0_0, .bool a0_1, .string a0_2, .string a0_3, .int .i64 a0_4, .bool a0_5] 23 (0, 0)) (by (with_reducible repeat (first | refine blk_drewN ?_ _ | refine blk_drew ?_ | refine blk_alloc ?_ _)); exact BK278.out)) : gb280 ≠ gb278)); have n8_ := Aside0.mk ((by rw [hg]; exact Nat.ne_of_lt (blk_lt (g := gb279) (o := .cells #[.string a1_0, .string a1_1, .string a1_2, .string a1_3, .string a1_4, .string a1_5, .string a1_6, .string a1_7, .string a1_8, .string a1_9, .string a1_10, .string a1_11, .string a1_12, .string a1_13, .string a1_14, .string a1_15, .string a1_16, .string a1_17, .string a1_18, .string a1_19, .string a1_20] 26 (0, 0)) (by (with_reducible repeat (first | refine blk_drewN ?_ _ | refine blk_drew ?_ | refine blk_alloc ?_ _)); exact BK279.out)) : gb279 ≠ gb280)); have n9_ := Aside0.mk ((by rw [hg]; exact Nat.ne_of_gt (blk_lt (g := gb279) (o := .cells #[.string a1_0, .string a1_1, .string a1_2, .string a1_3, .string a1_4, .string a1_5, .string a1_6, .string a1_7, .string a1_8, .string a1_9, .string a1_10, .string a1_11, .string a1_12, .string a1_13, .string a1_14, .string a1_15, .string a1_16, .string a1_17, .string a1_18, .string a1_19, .string a1_20] 26 (0, 0)) (by (with_reducible repeat (first | refine blk_drewN ?_ _ | refine blk_drew ?_ | refine blk_alloc ?_ _)); exact BK279.out)) : gb280 ≠ gb279)); clear BK278; clear BK279; clear HB; have BK278 := n0_; have BK279 := n1_; have HB := n2_; have BK280 := n3_; have GW280 := n4_; have GE280 := n5_; have NB278_280 := n6_; have NB280_278 := n7_; have NB279_280 := n8_; have NB280_279 := n9_; clear n0_ n1_ n2_ n3_ n4_ n5_ n6_ n7_ n8_ n9_; clear hb hbox hg))
  go_loopg [7] k (fun kq v7 w' => ∃ (x7_1 : Int), v7 = .int .i64 x7_1 ∧ Aside0 (quipulaw16_DigitsPieces.l0 kq x7_1 a0_0 a0_1 a0_2 a0_3 a0_4 a0_5 a1_0 a1_1 a1_2 a1_3 a1_4 a1_5 a1_6 a1_7 a1_8 a1_9 a1_10 a1_11 a1_12 a1_13 a1_14 a1_15 a1_16 a1_17 a1_18 a1_19 a1_20 a2_0 a2_1 a2_2 a2_3 = some r) ∧ Aside0 (kq ≤ k) ∧ Aside0 (w'.heap[gb278]? = some (.cells #[.int .i64 a0_0, .bool a0_1, .string a0_2, .string a0_3, .int .i64 a0_4, .bool a0_5] 23 (0, 0))) ∧ Aside0 (w'.heap[gb279]? = some (.cells #[.string a1_0, .string a1_1, .string a1_2, .string a1_3, .string a1_4, .string a1_5, .string a1_6, .string a1_7, .string a1_8, .string a1_9, .string a1_10, .string a1_11, .string a1_12, .string a1_13, .string a1_14, .string a1_15, .string a1_16, .string a1_17, .string a1_18, .string a1_19, .string a1_20] 26 (0, 0))) ∧ Aside0 (w'.heap[gb280]? = some (.cells #[.int .i64 a2_0, .int .i64 a2_1, .int .i64 a2_2, .bool a2_3] 28 (0, 0))) ∧ Aside0 (Below w.heap.size w w'))
  case atStart => exact ⟨(0), (by first | rfl | (simp; done) | (simp [*]; done)), H', ⟨Nat.le_refl _⟩, ⟨by (with_reducible repeat (first | refine blk_drewN ?_ _ | refine blk_drew ?_ | refine blk_alloc ?_ _)); exact BK278.out⟩, ⟨by (with_reducible repeat (first | refine blk_drewN ?_ _ | refine blk_drew ?_ | refine blk_alloc ?_ _)); exact BK279.out⟩, ⟨by (with_reducible repeat (first | refine blk_drewN ?_ _ | refine blk_drew ?_ | refine blk_alloc ?_ _)); exact BK280.out⟩, ⟨by repeat (first | (with_reducible first | exact HB.out | apply below_alloc | apply pw_below_drewN | apply below_drew1 | refine below_set ?_ GE278.out | refine below_set ?_ GE279.out | refine below_set ?_ GE280.out) | exact HB.out)⟩⟩
  case round =>
    clear H'
    try clear p2
    try clear c3
    obtain ⟨x7_1, rfl, HA, HK1, BK278, BK279, BK280, HB⟩ := hrel
    cases gk with
    | zero => exact absurd HA.out (by simp [quipulaw16_DigitsPieces.l0])
    | succ k1 =>
      have H := HA.out
      clear HA
      simp only [quipulaw16_DigitsPieces.l0] at H
      by_cases c7 : x7_1 < 2
      · rw [if_pos c7] at H
        have c7b0 : decide (x7_1 < 2) = true := decide_eq_true c7
        clear c7
        replace H := Option.bind_eq_some_iff.mp H
        obtain ⟨t282, A80, H⟩ := H
        replace H : ((quipuref16_Pieces.f k1 a0_0 a0_1 a0_2 a0_3 a0_4 a0_5 a1_0 a1_1 a1_2 a1_3 a1_4 a1_5 a1_6 a1_7 a1_8 a1_9 a1_10 a1_11 a1_12 a1_13 a1_14 a1_15 a1_16 a1_17 a1_18 a1_19 a1_20 a2_0 a2_1 a2_2 a2_3).bind fun t285 => ((quipuref16_Same.f k1 t282 t285).bind fun t288 => (if t288 = true then (quipulaw16_DigitsPieces.l1 k1 x7_1 t282 0 a0_0 a0_1 a0_2 a0_3 a0_4 a0_5 a1_0 a1_1 a1_2 a1_3 a1_4 a1_5 a1_6 a1_7 a1_8 a1_9 a1_10 a1_11 a1_12 a1_13 a1_14 a1_15 a1_16 a1_17 a1_18 a1_19 a1_20 a2_0 a2_1 a2_2 a2_3) else (some false)))) = some r := H
        have A8 := Aside0.mk A80
        clear A80
        replace H := Option.bind_eq_some_iff.mp H
        obtain ⟨t285, A90, H⟩ := H
        replace H : ((quipuref16_Same.f k1 t282 t285).bind fun t288 => (if t288 = true then (quipulaw16_DigitsPieces.l1 k1 x7_1 t282 0 a0_0 a0_1 a0_2 a0_3 a0_4 a0_5 a1_0 a1_1 a1_2 a1_3 a1_4 a1_5 a1_6 a1_7 a1_8 a1_9 a1_10 a1_11 a1_12 a1_13 a1_14 a1_15 a1_16 a1_17 a1_18 a1_19 a1_20 a2_0 a2_1 a2_2 a2_3) else (some false))) = some r := H
        have A9 := Aside0.mk A90
        clear A90
        replace H := Option.bind_eq_some_iff.mp H
        obtain ⟨t288, A100, H⟩ := H
        replace H : (if t288 = true then (quipulaw16_DigitsPieces.l1 k1 x7_1 t282 0 a0_0 a0_1 a0_2 a0_3 a0_4 a0_5 a1_0 a1_1 a1_2 a1_3 a1_4 a1_5 a1_6 a1_7 a1_8 a1_9 a1_10 a1_11 a1_12 a1_13 a1_14 a1_15 a1_16 a1_17 a1_18 a1_19 a1_20 a2_0 a2_1 a2_2 a2_3) else (some false)) = some r := H
        have A10 := Aside0.mk A100
        clear A100
        by_cases c11 : t288 = true
        · subst c11
          have H1 : (quipulaw16_DigitsPieces.l1 k1 x7_1 t282 0 a0_0 a0_1 a0_2 a0_3 a0_4 a0_5 a1_0 a1_1 a1_2 a1_3 a1_4 a1_5 a1_6 a1_7 a1_8 a1_9 a1_10 a1_11 a1_12 a1_13 a1_14 a1_15 a1_16 a1_17 a1_18 a1_19 a1_20 a2_0 a2_1 a2_2 a2_3) = some r := by rw [if_pos rfl] at H; exact H
          clear H
          have H := H1
          clear H1
          have H' := Aside0.mk H
          clear H
          have hnb12 := NB278_279.out
          have hnc12 := NB279_278.out
          have hnb13 := NB278_280.out
          have hnc13 := NB280_278.out
          have hcz14_0 : wr.cell? ⟨gb278, 0, none⟩ = some (.int .i64 a0_0) := (blk_cell BK278.out 0).trans rfl
          have hcz14_1 : wr.cell? ⟨gb278, 1, none⟩ = some (.bool a0_1) := (blk_cell BK278.out 1).trans rfl
          have hcz14_2 : wr.cell? ⟨gb278, 2, none⟩ = some (.string a0_2) := (blk_cell BK278.out 2).trans rfl
          have hcz14_3 : wr.cell? ⟨gb278, 3, none⟩ = some (.string a0_3) := (blk_cell BK278.out 3).trans rfl
          have hcz14_4 : wr.cell? ⟨gb278, 4, none⟩ = some (.int .i64 a0_4) := (blk_cell BK278.out 4).trans rfl
          have hcz14_5 : wr.cell? ⟨gb278, 5, none⟩ = some (.bool a0_5) := (blk_cell BK278.out 5).trans rfl
          have hfz14_0 := blk_frozen BK278.out 0
          have hfz14_1 := blk_frozen BK278.out 1
          have hfz14_2 := blk_frozen BK278.out 2
          have hfz14_3 := blk_frozen BK278.out 3
          have hfz14_4 := blk_frozen BK278.out 4
          have hfz14_5 := blk_frozen BK278.out 5
          have hnb15 := NB279_280.out
          have hnc15 := NB280_279.out
          have hcz16_0 : wr.cell? ⟨gb279, 0, none⟩ = some (.string a1_0) := (blk_cell BK279.out 0).trans rfl
          have hcz16_1 : wr.cell? ⟨gb279, 1, none⟩ = some (.string a1_1) := (blk_cell BK279.out 1).trans rfl
          have hcz16_2 : wr.cell? ⟨gb279, 2, none⟩ = some (.string a1_2) := (blk_cell BK279.out 2).trans rfl
          have hcz16_3 : wr.cell? ⟨gb279, 3, none⟩ = some (.string a1_3) := (blk_cell BK279.out 3).trans rfl
          have hcz16_4 : wr.cell? ⟨gb279, 4, none⟩ = some (.string a1_4) := (blk_cell BK279.out 4).trans rfl
          have hcz16_5 : wr.cell? ⟨gb279, 5, none⟩ = some (.string a1_5) := (blk_cell BK279.out 5).trans rfl
          have hcz16_6 : wr.cell? ⟨gb279, 6, none⟩ = some (.string a1_6) := (blk_cell BK279.out 6).trans rfl
          have hcz16_7 : wr.cell? ⟨gb279, 7, none⟩ = some (.string a1_7) := (blk_cell BK279.out 7).trans rfl
          have hcz16_8 : wr.cell? ⟨gb279, 8, none⟩ = some (.string a1_8) := (blk_cell BK279.out 8).trans rfl
          have hcz16_9 : wr.cell? ⟨gb279, 9, none⟩ = some (.string a1_9) := (blk_cell BK279.out 9).trans rfl
          have hcz16_10 : wr.cell? ⟨gb279, 10, none⟩ = some (.string a1_10) := (blk_cell BK279.out 10).trans rfl
          have hcz16_11 : wr.cell? ⟨gb279, 11, none⟩ = some (.string a1_11) := (blk_cell BK279.out 11).trans rfl
          have hcz16_12 : wr.cell? ⟨gb279, 12, none⟩ = some (.string a1_12) := (blk_cell BK279.out 12).trans rfl
          have hcz16_13 : wr.cell? ⟨gb279, 13, none⟩ = some (.string a1_13) := (blk_cell BK279.out 13).trans rfl
          have hcz16_14 : wr.cell? ⟨gb279, 14, none⟩ = some (.string a1_14) := (blk_cell BK279.out 14).trans rfl
          have hcz16_15 : wr.cell? ⟨gb279, 15, none⟩ = some (.string a1_15) := (blk_cell BK279.out 15).trans rfl
          have hcz16_16 : wr.cell? ⟨gb279, 16, none⟩ = some (.string a1_16) := (blk_cell BK279.out 16).trans rfl
          have hcz16_17 : wr.cell? ⟨gb279, 17, none⟩ = some (.string a1_17) := (blk_cell BK279.out 17).trans rfl
          have hcz16_18 : wr.cell? ⟨gb279, 18, none⟩ = some (.string a1_18) := (blk_cell BK279.out 18).trans rfl
          have hcz16_19 : wr.cell? ⟨gb279, 19, none⟩ = some (.string a1_19) := (blk_cell BK279.out 19).trans rfl
          have hcz16_20 : wr.cell? ⟨gb279, 20, none⟩ = some (.string a1_20) := (blk_cell BK279.out 20).trans rfl
          have hfz16_0 := blk_frozen BK279.out 0
          have hfz16_1 := blk_frozen BK279.out 1
          have hfz16_2 := blk_frozen BK279.out 2
          have hfz16_3 := blk_frozen BK279.out 3
          have hfz16_4 := blk_frozen BK279.out 4
          have hfz16_5 := blk_frozen BK279.out 5
          have hfz16_6 := blk_frozen BK279.out 6
          have hfz16_7 := blk_frozen BK279.out 7
          have hfz16_8 := blk_frozen BK279.out 8
          have hfz16_9 := blk_frozen BK279.out 9
          have hfz16_10 := blk_frozen BK279.out 10
          have hfz16_11 := blk_frozen BK279.out 11
          have hfz16_12 := blk_frozen BK279.out 12
          have hfz16_13 := blk_frozen BK279.out 13
          have hfz16_14 := blk_frozen BK279.out 14
          have hfz16_15 := blk_frozen BK279.out 15
          have hfz16_16 := blk_frozen BK279.out 16
          have hfz16_17 := blk_frozen BK279.out 17
          have hfz16_18 := blk_frozen BK279.out 18
          have hfz16_19 := blk_frozen BK279.out 19
          have hfz16_20 := blk_frozen BK279.out 20
          have hcz17_0 : wr.cell? ⟨gb280, 0, none⟩ = some (.int .i64 a2_0) := (blk_cell BK280.out 0).trans rfl
          have hcz17_1 : wr.cell? ⟨gb280, 1, none⟩ = some (.int .i64 a2_1) := (blk_cell BK280.out 1).trans rfl
          have hcz17_2 : wr.cell? ⟨gb280, 2, none⟩ = some (.int .i64 a2_2) := (blk_cell BK280.out 2).trans rfl
          have hcz17_3 : wr.cell? ⟨gb280, 3, none⟩ = some (.bool a2_3) := (blk_cell BK280.out 3).trans rfl
          have hfz17_0 := blk_frozen BK280.out 0
          have hfz17_1 := blk_frozen BK280.out 1
          have hfz17_2 := blk_frozen BK280.out 2
          have hfz17_3 := blk_frozen BK280.out 3
          go_wp2_with (first | ((with_reducible refine gate_dst (N := 15) rfl ?_); refine wpList_load_row rfl 26 (.tmp 4) rfl gb279 rfl 26 #[.string a1_0, .string a1_1, .string a1_2, .string a1_3, .string a1_4, .string a1_5, .string a1_6, .string a1_7, .string a1_8, .string a1_9, .string a1_10, .string a1_11, .string a1_12, .string a1_13, .string a1_14, .string a1_15, .string a1_16, .string a1_17, .string a1_18, .string a1_19, .string a1_20] (0, 0) _ (by (with_reducible repeat (first | refine blk_drewN ?_ _ | refine blk_drew ?_ | refine blk_alloc ?_ _)); exact BK279.out) Tryd.underlying26 rfl size26 ?_) | ((with_reducible refine gate_dst (N := 20) rfl ?_); refine wpList_load_row rfl 26 (.tmp 4) rfl gb279 rfl 26 #[.string a1_0, .string a1_1, .string a1_2, .string a1_3, .string a1_4, .string a1_5, .string a1_6, .string a1_7, .string a1_8, .string a1_9, .string a1_10, .string a1_11, .string a1_12, .string a1_13, .string a1_14, .string a1_15, .string a1_16, .string a1_17, .string a1_18, .string a1_19, .string a1_20] (0, 0) _ (by (with_reducible repeat (first | refine blk_drewN ?_ _ | refine blk_drew ?_ | refine blk_alloc ?_ _)); exact BK279.out) Tryd.underlying26 rfl size26 ?_) | ((with_reducible refine gate_callee (f := 8) rfl ?_); refine goesL_ (some 17) rfl rfl Tryd.func8 (by kernel_rfl) rfl #[.agg #[.int .i64 a0_0, .bool a0_1, .string a0_2, .string a0_3, .int .i64 a0_4, .bool a0_5], .agg #[.string a1_0, .string a1_1, .string a1_2, .string a1_3, .string a1_4, .string a1_5, .string a1_6, .string a1_7, .string a1_8, .string a1_9, .string a1_10, .string a1_11, .string a1_12, .string a1_13, .string a1_14, .string a1_15, .string a1_16, .string a1_17, .string a1_18, .string a1_19, .string a1_20], .agg #[.int .i64 a2_0, .int .i64 a2_1, .int .i64 a2_2, .bool a2_3]] rfl (by (try simp only [List.map_toArray, List.map_cons, List.map_nil]); first | done | rfl | (simp only [List.length_drop, List.length_take]; rfl)) ?_; (with_reducible refine (quipulaw16_pieces.calls a0_0 a0_1 a0_2 a0_3 a0_4 a0_5 a1_0 a1_1 a1_2 a1_3 a1_4 a1_5 a1_6 a1_7 a1_8 a1_9 a1_10 a1_11 a1_12 a1_13 a1_14 a1_15 a1_16 a1_17 a1_18 a1_19 a1_20 a2_0 a2_1 a2_2 a2_3 t282 _ A8.out).mono ?_); rintro e w18 ⟨v283, rfl, ho0, hb⟩; refine ⟨_, rfl, ?_⟩; have n0_ := Aside0.mk (Kd.R_lower ho0 (below_size (by repeat (first | (with_reducible first | exact HB.out | apply below_alloc | apply pw_below_drewN | apply below_drew1 | refine below_set ?_ GE278.out | refine below_set ?_ GE279.out | refine below_set ?_ GE280.out) | exact HB.out)))); have n1_ := Aside0.mk (blk_below (g := gb278) (o := .cells #[.int .i64 a0_0, .bool a0_1, .string a0_2, .string a0_3, .int .i64 a0_4, .bool a0_5] 23 (0, 0)) (by (with_reducible repeat (first | refine blk_drewN ?_ _ | refine blk_drew ?_ | refine blk_alloc ?_ _)); exact BK278.out) hb); have n2_ := Aside0.mk (blk_below (g := gb279) (o := .cells #[.string a1_0, .string a1_1, .string a1_2, .string a1_3, .string a1_4, .string a1_5, .string a1_6, .string a1_7, .string a1_8, .string a1_9, .string a1_10, .string a1_11, .string a1_12, .string a1_13, .string a1_14, .string a1_15, .string a1_16, .string a1_17, .string a1_18, .string a1_19, .string a1_20] 26 (0, 0)) (by (with_reducible repeat (first | refine blk_drewN ?_ _ | refine blk_drew ?_ | refine blk_alloc ?_ _)); exact BK279.out) hb); have n3_ := Aside0.mk (blk_below (g := gb280) (o := .cells #[.int .i64 a2_0, .int .i64 a2_1, .int .i64 a2_2, .bool a2_3] 28 (0, 0)) (by (with_reducible repeat (first | refine blk_drewN ?_ _ | refine blk_drew ?_ | refine blk_alloc ?_ _)); exact BK280.out) hb); have n4_ := Aside0.mk (below_step (by repeat (first | (with_reducible first | exact HB.out | apply below_alloc | apply pw_below_drewN | apply below_drew1 | refine below_set ?_ GE278.out | refine below_set ?_ GE279.out | refine below_set ?_ GE280.out) | exact HB.out)) hb); clear BK278; clear BK279; clear BK280; clear HB; have HO284 := n0_; have BK278 := n1_; have BK279 := n2_; have BK280 := n3_; have HB := n4_; clear n0_ n1_ n2_ n3_ n4_; (try clear hb); (try clear hb2); (try clear hk); (try clear hi); (try clear ho0); have hcz19_0 : w18.cell? ⟨gb278, 0, none⟩ = some (.int .i64 a0_0) := (blk_cell BK278.out 0).trans rfl; have hcz19_1 : w18.cell? ⟨gb278, 1, none⟩ = some (.bool a0_1) := (blk_cell BK278.out 1).trans rfl; have hcz19_2 : w18.cell? ⟨gb278, 2, none⟩ = some (.string a0_2) := (blk_cell BK278.out 2).trans rfl; have hcz19_3 : w18.cell? ⟨gb278, 3, none⟩ = some (.string a0_3) := (blk_cell BK278.out 3).trans rfl; have hcz19_4 : w18.cell? ⟨gb278, 4, none⟩ = some (.int .i64 a0_4) := (blk_cell BK278.out 4).trans rfl; have hcz19_5 : w18.cell? ⟨gb278, 5, none⟩ = some (.bool a0_5) := (blk_cell BK278.out 5).trans rfl; have hfz19_0 := blk_frozen BK278.out 0; have hfz19_1 := blk_frozen BK278.out 1; have hfz19_2 := blk_frozen BK278.out 2; have hfz19_3 := blk_frozen BK278.out 3; have hfz19_4 := blk_frozen BK278.out 4; have hfz19_5 := blk_frozen BK278.out 5; have hcz20_0 : w18.cell? ⟨gb279, 0, none⟩ = some (.string a1_0) := (blk_cell BK279.out 0).trans rfl; have hcz20_1 : w18.cell? ⟨gb279, 1, none⟩ = some (.string a1_1) := (blk_cell BK279.out 1).trans rfl; have hcz20_2 : w18.cell? ⟨gb279, 2, none⟩ = some (.string a1_2) := (blk_cell BK279.out 2).trans rfl; have hcz20_3 : w18.cell? ⟨gb279, 3, none⟩ = some (.string a1_3) := (blk_cell BK279.out 3).trans rfl; have hcz20_4 : w18.cell? ⟨gb279, 4, none⟩ = some (.string a1_4) := (blk_cell BK279.out 4).trans rfl; have hcz20_5 : w18.cell? ⟨gb279, 5, none⟩ = some (.string a1_5) := (blk_cell BK279.out 5).trans rfl; have hcz20_6 : w18.cell? ⟨gb279, 6, none⟩ = some (.string a1_6) := (blk_cell BK279.out 6).trans rfl; have hcz20_7 : w18.cell? ⟨gb279, 7, none⟩ = some (.string a1_7) := (blk_cell BK279.out 7).trans rfl; have hcz20_8 : w18.cell? ⟨gb279, 8, none⟩ = some (.string a1_8) := (blk_cell BK279.out 8).trans rfl; have hcz20_9 : w18.cell? ⟨gb279, 9, none⟩ = some (.string a1_9) := (blk_cell BK279.out 9).trans rfl; have hcz20_10 : w18.cell? ⟨gb279, 10, none⟩ = some (.string a1_10) := (blk_cell BK279.out 10).trans rfl; have hcz20_11 : w18.cell? ⟨gb279, 11, none⟩ = some (.string a1_11) := (blk_cell BK279.out 11).trans rfl; have hcz20_12 : w18.cell? ⟨gb279, 12, none⟩ = some (.string a1_12) := (blk_cell BK279.out 12).trans rfl; have hcz20_13 : w18.cell? ⟨gb279, 13, none⟩ = some (.string a1_13) := (blk_cell BK279.out 13).trans rfl; have hcz20_14 : w18.cell? ⟨gb279, 14, none⟩ = some (.string a1_14) := (blk_cell BK279.out 14).trans rfl; have hcz20_15 : w18.cell? ⟨gb279, 15, none⟩ = some (.string a1_15) := (blk_cell BK279.out 15).trans rfl; have hcz20_16 : w18.cell? ⟨gb279, 16, none⟩ = some (.string a1_16) := (blk_cell BK279.out 16).trans rfl; have hcz20_17 : w18.cell? ⟨gb279, 17, none⟩ = some (.string a1_17) := (blk_cell BK279.out 17).trans rfl; have hcz20_18 : w18.cell? ⟨gb279, 18, none⟩ = some (.string a1_18) := (blk_cell BK279.out 18).trans rfl; have hcz20_19 : w18.cell? ⟨gb279, 19, none⟩ = some (.string a1_19) := (blk_cell BK279.out 19).trans rfl; have hcz20_20 : w18.cell? ⟨gb279, 20, none⟩ = some (.string a1_20) := (blk_cell BK279.out 20).trans rfl; have hfz20_0 := blk_frozen BK279.out 0; have hfz20_1 := blk_frozen BK279.out 1; have hfz20_2 := blk_frozen BK279.out 2; have hfz20_3 := blk_frozen BK279.out 3; have hfz20_4 := blk_frozen BK279.out 4; have hfz20_5 := blk_frozen BK279.out 5; have hfz20_6 := blk_frozen BK279.out 6; have hfz20_7 := blk_frozen BK279.out 7; have hfz20_8 := blk_frozen BK279.out 8; have hfz20_9 := blk_frozen BK279.out 9; have hfz20_10 := blk_frozen BK279.out 10; have hfz20_11 := blk_frozen BK279.out 11; have hfz20_12 := blk_frozen BK279.out 12; have hfz20_13 := blk_frozen BK279.out 13; have hfz20_14 := blk_frozen BK279.out 14; have hfz20_15 := blk_frozen BK279.out 15; have hfz20_16 := blk_frozen BK279.out 16; have hfz20_17 := blk_frozen BK279.out 17; have hfz20_18 := blk_frozen BK279.out 18; have hfz20_19 := blk_frozen BK279.out 19; have hfz20_20 := blk_frozen BK279.out 20; have hcz21_0 : w18.cell? ⟨gb280, 0, none⟩ = some (.int .i64 a2_0) := (blk_cell BK280.out 0).trans rfl; have hcz21_1 : w18.cell? ⟨gb280, 1, none⟩ = some (.int .i64 a2_1) := (blk_cell BK280.out 1).trans rfl; have hcz21_2 : w18.cell? ⟨gb280, 2, none⟩ = some (.int .i64 a2_2) := (blk_cell BK280.out 2).trans rfl; have hcz21_3 : w18.cell? ⟨gb280, 3, none⟩ = some (.bool a2_3) := (blk_cell BK280.out 3).trans rfl; have hfz21_0 := blk_frozen BK280.out 0; have hfz21_1 := blk_frozen BK280.out 1; have hfz21_2 := blk_frozen BK280.out 2; have hfz21_3 := blk_frozen BK280.out 3) | ((with_reducible refine gate_callee (f := 10) rfl ?_); refine goesL_ (some 29) rfl rfl Tryd.func10 (by kernel_rfl) rfl #[.agg #[.int .i64 a0_0, .bool a0_1, .string a0_2, .string a0_3, .int .i64 a0_4, .bool a0_5], .agg #[.string a1_0, .string a1_1, .string a1_2, .string a1_3, .string a1_4, .string a1_5, .string a1_6, .string a1_7, .string a1_8, .string a1_9, .string a1_10, .string a1_11, .string a1_12, .string a1_13, .string a1_14, .string a1_15, .string a1_16, .string a1_17, .string a1_18, .string a1_19, .string a1_20], .int .i64 a2_0, .int .i64 a2_1, .int .i64 a2_2, .bool a2_3] rfl (by (try simp only [List.map_toArray, List.map_cons, List.map_nil]); first | done | rfl | (simp only [List.length_drop, List.length_take]; rfl)) ?_; (with_reducible refine (quipuref16_Pieces.calls k1 a0_0 a0_1 a0_2 a0_3 a0_4 a0_5 a1_0 a1_1 a1_2 a1_3 a1_4 a1_5 a1_6 a1_7 a1_8 a1_9 a1_10 a1_11 a1_12 a1_13 a1_14 a1_15 a1_16 a1_17 a1_18 a1_19 a1_20 a2_0 a2_1 a2_2 a2_3 t285 _ A9.out).mono ?_); rintro e w22 ⟨v286, rfl, ho0, hb⟩; refine ⟨_, rfl, ?_⟩; have n0_ := Aside0.mk (Kd.R_elder' (by (with_reducible repeat (first | apply Kd.R_alloc | apply Kd.R_drewN | apply Kd.R_drew)); exact HO284.out) (Kd.R_base ho0) hb); have n1_ := Aside0.mk (Kd.R_lower (Kd.R_new' ho0 (Kd.R_lt (by (with_reducible repeat (first | apply Kd.R_alloc | apply Kd.R_drewN | apply Kd.R_drew)); exact HO284.out))) (below_size (by repeat (first | (with_reducible first | exact HB.out | apply below_alloc | apply pw_below_drewN | apply below_drew1 | refine below_set ?_ GE278.out | refine below_set ?_ GE279.out | refine below_set ?_ GE280.out) | exact HB.out)))); have n2_ := Aside0.mk (blk_below (g := gb278) (o := .cells #[.int .i64 a0_0, .bool a0_1, .string a0_2, .string a0_3, .int .i64 a0_4, .bool a0_5] 23 (0, 0)) (by (with_reducible repeat (first | refine blk_drewN ?_ _ | refine blk_drew ?_ | refine blk_alloc ?_ _)); exact BK278.out) hb); have n3_ := Aside0.mk (blk_below (g := gb279) (o := .cells #[.string a1_0, .string a1_1, .string a1_2, .string a1_3, .string a1_4, .string a1_5, .string a1_6, .string a1_7, .string a1_8, .string a1_9, .string a1_10, .string a1_11, .string a1_12, .string a1_13, .string a1_14, .string a1_15, .string a1_16, .string a1_17, .string a1_18, .string a1_19, .string a1_20] 26 (0, 0)) (by (with_reducible repeat (first | refine blk_drewN ?_ _ | refine blk_drew ?_ | refine blk_alloc ?_ _)); exact BK279.out) hb); have n4_ := Aside0.mk (blk_below (g := gb280) (o := .cells #[.int .i64 a2_0, .int .i64 a2_1, .int .i64 a2_2, .bool a2_3] 28 (0, 0)) (by (with_reducible repeat (first | refine blk_drewN ?_ _ | refine blk_drew ?_ | refine blk_alloc ?_ _)); exact BK280.out) hb); have n5_ := Aside0.mk (below_step (by repeat (first | (with_reducible first | exact HB.out | apply below_alloc | apply pw_below_drewN | apply below_drew1 | refine below_set ?_ GE278.out | refine below_set ?_ GE279.out | refine below_set ?_ GE280.out) | exact HB.out)) hb); clear HO284; clear BK278; clear BK279; clear BK280; clear HB; have HO284 := n0_; have HO287 := n1_; have BK278 := n2_; have BK279 := n3_; have BK280 := n4_; have HB := n5_; clear n0_ n1_ n2_ n3_ n4_ n5_; (try clear hb); (try clear hb2); (try clear hk); (try clear hi); (try clear ho0); obtain ⟨Ao23, co23, eo23⟩ := Kd.R_slice HO284.out; subst eo23; obtain ⟨Ao24, co24, eo24⟩ := Kd.R_slice HO287.out; subst eo24) | ((with_reducible refine gate_callee (f := 9) rfl ?_); refine goesL_ (some 30) rfl rfl Tryd.func9 (by kernel_rfl) rfl #[.slice Ao23 t282.length co23, .slice Ao24 t285.length co24] rfl (by (try simp only [List.map_toArray, List.map_cons, List.map_nil]); first | done | rfl | (simp only [List.length_drop, List.length_take]; rfl)) ?_; (with_reducible refine (quipuref16_Same.calls k1 _ _ t282 _ _ t285 true _ ?side1 ?side2 ?side3 ?side4 A10.out).mono ?_); (case side1 => repeat (first | exact (Kd.R_reads' HO284.out).2.2 | (with_reducible refine Kd.C_alloc ?_ _) | (with_reducible refine Kd.C_drewN ?_ _) | (with_reducible refine Kd.C_drew ?_))); (case side2 => exact (Kd.R_reads' HO284.out).2.1); (case side3 => repeat (first | exact (Kd.R_reads' HO287.out).2.2 | (with_reducible refine Kd.C_alloc ?_ _) | (with_reducible refine Kd.C_drewN ?_ _) | (with_reducible refine Kd.C_drew ?_))); (case side4 => exact (Kd.R_reads' HO287.out).2.1); rintro e w' ⟨rfl, ⟨nd, rfl⟩⟩; refine ⟨_, rfl, ?_⟩))
          go_loopg [9] k1 (fun kq v9 w' => ∃ (x8_2 : List (S34)) (x9_2 : Int), v9 = .int .i64 x9_2 ∧ Aside0 (quipulaw16_DigitsPieces.l1 kq x7_1 x8_2 x9_2 a0_0 a0_1 a0_2 a0_3 a0_4 a0_5 a1_0 a1_1 a1_2 a1_3 a1_4 a1_5 a1_6 a1_7 a1_8 a1_9 a1_10 a1_11 a1_12 a1_13 a1_14 a1_15 a1_16 a1_17 a1_18 a1_19 a1_20 a2_0 a2_1 a2_2 a2_3 = some r) ∧ Aside0 (kq ≤ k1) ∧ Aside0 (Kd.R k34 34 w' w.heap.size (fun _ => True) (.slice Ao23 t282.length co23) x8_2) ∧ Aside0 (w'.heap[gb278]? = some (.cells #[.int .i64 a0_0, .bool a0_1, .string a0_2, .string a0_3, .int .i64 a0_4, .bool a0_5] 23 (0, 0))) ∧ Aside0 (w'.heap[gb279]? = some (.cells #[.string a1_0, .string a1_1, .string a1_2, .string a1_3, .string a1_4, .string a1_5, .string a1_6, .string a1_7, .string a1_8, .string a1_9, .string a1_10, .string a1_11, .string a1_12, .string a1_13, .string a1_14, .string a1_15, .string a1_16, .string a1_17, .string a1_18, .string a1_19, .string a1_20] 26 (0, 0))) ∧ Aside0 (w'.heap[gb280]? = some (.cells #[.int .i64 a2_0, .int .i64 a2_1, .int .i64 a2_2, .bool a2_3] 28 (0, 0))) ∧ Aside0 (Below w.heap.size w w'))
          case atStart => exact ⟨(t282), (0), (by first | rfl | (simp; done) | (simp [*]; done)), H', ⟨Nat.le_refl _⟩, ⟨by (with_reducible repeat (first | apply Kd.R_alloc | apply Kd.R_drewN | apply Kd.R_drew)); exact Kd.R_mono HO284.out (fun _ hk => trivial)⟩, ⟨by (with_reducible repeat (first | refine blk_drewN ?_ _ | refine blk_drew ?_ | refine blk_alloc ?_ _)); exact BK278.out⟩, ⟨by (with_reducible repeat (first | refine blk_drewN ?_ _ | refine blk_drew ?_ | refine blk_alloc ?_ _)); exact BK279.out⟩, ⟨by (with_reducible repeat (first | refine blk_drewN ?_ _ | refine blk_drew ?_ | refine blk_alloc ?_ _)); exact BK280.out⟩, ⟨by repeat (first | (with_reducible first | exact HB.out | apply below_alloc | apply pw_below_drewN | apply below_drew1 | refine below_set ?_ GE278.out | refine below_set ?_ GE279.out | refine below_set ?_ GE280.out) | exact HB.out)⟩⟩
          case round =>
            clear H'
            try clear c1
            try clear p2
            try clear c3
            try clear c7
            try clear c7b0
            try clear c8
            try clear c9
            try clear c10
            try clear c11
            try clear c12
            try clear c13
            try clear c15
            try clear hcz14_0
            try clear hcz14_1
            try clear hcz14_2
            try clear hcz14_3
            try clear hcz14_4
            try clear hcz14_5
            try clear hcz16_0
            try clear hcz16_1
            try clear hcz16_10
            try clear hcz16_11
            try clear hcz16_12
            try clear hcz16_13
            try clear hcz16_14
            try clear hcz16_15
            try clear hcz16_16
            try clear hcz16_17
            try clear hcz16_18
            try clear hcz16_19
            try clear hcz16_2
            try clear hcz16_20
            try clear hcz16_3
            try clear hcz16_4
            try clear hcz16_5
            try clear hcz16_6
            try clear hcz16_7
            try clear hcz16_8
            try clear hcz16_9
            try clear hcz17_0
            try clear hcz17_1
            try clear hcz17_2
            try clear hcz17_3
            try clear hcz19_0
            try clear hcz19_1
            try clear hcz19_2
            try clear hcz19_3
            try clear hcz19_4
            try clear hcz19_5
            try clear hcz20_0
            try clear hcz20_1
            try clear hcz20_10
            try clear hcz20_11
            try clear hcz20_12
            try clear hcz20_13
            try clear hcz20_14
            try clear hcz20_15
            try clear hcz20_16
            try clear hcz20_17
            try clear hcz20_18
            try clear hcz20_19
            try clear hcz20_2
            try clear hcz20_20
            try clear hcz20_3
            try clear hcz20_4
            try clear hcz20_5
            try clear hcz20_6
            try clear hcz20_7
            try clear hcz20_8
            try clear hcz20_9
            try clear hcz21_0
            try clear hcz21_1
            try clear hcz21_2
            try clear hcz21_3
            try clear hfz14_0
            try clear hfz14_1
            try clear hfz14_2
            try clear hfz14_3
            try clear hfz14_4
            try clear hfz14_5
            try clear hfz16_0
            try clear hfz16_1
            try clear hfz16_10
            try clear hfz16_11
            try clear hfz16_12
            try clear hfz16_13
            try clear hfz16_14
            try clear hfz16_15
            try clear hfz16_16
            try clear hfz16_17
            try clear hfz16_18
            try clear hfz16_19
            try clear hfz16_2
            try clear hfz16_20
            try clear hfz16_3
            try clear hfz16_4
            try clear hfz16_5
            try clear hfz16_6
            try clear hfz16_7
            try clear hfz16_8
            try clear hfz16_9
            try clear hfz17_0
            try clear hfz17_1
            try clear hfz17_2
            try clear hfz17_3
            try clear hfz19_0
            try clear hfz19_1
            try clear hfz19_2
            try clear hfz19_3
            try clear hfz19_4
            try clear hfz19_5
            try clear hfz20_0
            try clear hfz20_1
            try clear hfz20_10
            try clear hfz20_11
            try clear hfz20_12
            try clear hfz20_13
            try clear hfz20_14
            try clear hfz20_15
            try clear hfz20_16
            try clear hfz20_17
            try clear hfz20_18
            try clear hfz20_19
            try clear hfz20_2
            try clear hfz20_20
            try clear hfz20_3
            try clear hfz20_4
            try clear hfz20_5
            try clear hfz20_6
            try clear hfz20_7
            try clear hfz20_8
            try clear hfz20_9
            try clear hfz21_0
            try clear hfz21_1
            try clear hfz21_2
            try clear hfz21_3
            try clear p2
            obtain ⟨x8_2, x9_2, rfl, HA, HK2, HO_8, BK278, BK279, BK280, HB⟩ := hrel
            have hl8_2 := (Kd.R_reads' HO_8.out).1
            rw [hl8_2] at HO_8
            (try simp only [hl8_2])
            (try simp only [hl8_2] at BK278)
            (try simp only [hl8_2] at BK279)
            (try simp only [hl8_2] at BK280)
            cases gk with
            | zero => exact absurd HA.out (by simp [quipulaw16_DigitsPieces.l1])
            | succ k2 =>
              have H := HA.out
              clear HA
              simp only [quipulaw16_DigitsPieces.l1] at H
              by_cases c25 : x9_2 < (x8_2.length : Int)
              · rw [if_pos c25] at H
                have c25b0 : decide (x9_2 < (x8_2.length : Int)) = true := decide_eq_true c25
                clear c25
                by_cases c26 : 0 ≤ x9_2
                · rw [if_pos c26] at H
                  have c26b0 : decide (0 ≤ x9_2) = true := decide_eq_true c26
                  clear c26
                  obtain ⟨y289, hy289⟩ : ∃ y_ : List (S34), y_ = (x8_2.set (x9_2 : Int).toNat (⟨(⟨#[115, 112, 111, 105, 108, 116]⟩ : ByteArray), 0⟩ : S34)) := ⟨_, rfl⟩
                  replace H : (quipulaw16_DigitsPieces.l1 k2 x7_1 y289 (wrap64 (x9_2 + 1)) a0_0 a0_1 a0_2 a0_3 a0_4 a0_5 a1_0 a1_1 a1_2 a1_3 a1_4 a1_5 a1_6 a1_7 a1_8 a1_9 a1_10 a1_11 a1_12 a1_13 a1_14 a1_15 a1_16 a1_17 a1_18 a1_19 a1_20 a2_0 a2_1 a2_2 a2_3) = some r := by first | (rw [hy289]; with_reducible exact H) | (have H2_ := (Option.bind_some _ _).symm.trans H; rw [hy289]; with_reducible exact H2_) | (have H2_ := (Option.bind_some _ _).symm.trans H; with_reducible exact H2_) | with_reducible exact H | (rw [hy289]; exact H) | exact H
                  have Ny289 := Aside0.mk hy289
                  clear hy289
                  have H' := Aside0.mk H
                  clear H
                  have p27 : 0 ≤ (x9_2 : Int) := of_decide_eq_true (by first | (with_reducible assumption) | assumption)
                  have q27 : (x9_2 : Int) < ((x8_2.length : Int) : Int) := of_decide_eq_true (by first | (with_reducible assumption) | assumption)
                  obtain ⟨go27, co27, eo27, gb27, gl27, cl27, HG27⟩ := Kd.R_form HO_8.out (by omega)
                  (first | cases eo27 | (injection eo27 with ea_ en_ ec_; (first | subst ea_ | (injection ea_ with ea_; subst ea_)); subst ec_; clear en_))
                  have GB27 := Aside0.mk gb27
                  have GG27 := Aside0.mk HG27
                  clear gb27 gl27 HG27
                  obtain ⟨ce27, hcl27, hM27, hcc27, hfr27⟩ := Kd.R_elem HO_8.out z34 (x9_2 : Int) p27 q27
                  obtain rfl := k34_openM hM27
                  have hx27_0 : wr.cell? ⟨go27, (x9_2 : Int).toNat * 2, none⟩ = some (.string ((rd_T34 x8_2 x9_2).f0)) := hcc27 0 _ rfl
                  have hx27_1 : wr.cell? ⟨go27, (x9_2 : Int).toNat * 2 + 1, none⟩ = some (.int .i64 ((rd_T34 x8_2 x9_2).f1)) := hcc27 1 _ rfl
                  have hf27_0 : wr.frozen? ⟨go27, (x9_2 : Int).toNat * 2, none⟩ = false := hfr27 0
                  have hf27_1 : wr.frozen? ⟨go27, (x9_2 : Int).toNat * 2 + 1, none⟩ = false := hfr27 1
                  clear hcl27 hcc27 hfr27 hM27
                  replace p27 := eq_true p27
                  replace q27 := eq_true q27
                  have HX28 := Aside0.mk (show Kd.R k34 34 wr w.heap.size (fun _ => True) (.slice (some ⟨go27, 0, none⟩) x8_2.length co23) x8_2 from (by (with_reducible repeat (first | apply Kd.R_alloc | apply Kd.R_drewN | apply Kd.R_drew)); exact HO_8.out))
                  obtain ⟨ce28, hcl28, hM28, hcc28, hfr28⟩ := Kd.R_elem HX28.out z34 (x9_2 : Int) (of_decide_eq_true (by first | (with_reducible assumption) | assumption)) (by have h_ : (x9_2 : Int) < ((x8_2.length : Int) : Int) := of_decide_eq_true (by first | (with_reducible assumption) | assumption); first | exact h_ | (have e_ := (Kd.R_reads' HO_8.out).1; omega) | simpa using h_)
                  obtain rfl := k34_openM hM28
                  have HP28 := Kd.R_seg HX28.out (x9_2 : Int) (of_decide_eq_true (by first | (with_reducible assumption) | assumption)) (by have h_ : (x9_2 : Int) < ((x8_2.length : Int) : Int) := of_decide_eq_true (by first | (with_reducible assumption) | assumption); first | exact h_ | (have e_ := (Kd.R_reads' HO_8.out).1; omega) | simpa using h_) (seg := [.string (⟨#[115, 112, 111, 105, 108, 116]⟩ : ByteArray), .int .i64 0]) (j := 0) hcl28 hcc28 (show 2 ≤ 2 from by decide) (x' := (⟨(⟨#[115, 112, 111, 105, 108, 116]⟩ : ByteArray), 0⟩ : S34)) (k34_mkM _ _ _ (⟨(⟨#[115, 112, 111, 105, 108, 116]⟩ : ByteArray), 0⟩ : S34) ) (fun _ hk => hk)
                  have hx28_0 := hcc28 0 _ rfl
                  (try simp only [show (k34).sz = 2 from rfl, Nat.mul_one, Nat.add_zero] at hx28_0)
                  have hf28_0 := hfr28 0
                  (try simp only [show (k34).sz = 2 from rfl, Nat.mul_one, Nat.add_zero] at hf28_0)
                  have hx28_1 := hcc28 1 _ rfl
                  (try simp only [show (k34).sz = 2 from rfl, Nat.mul_one, Nat.add_zero] at hx28_1)
                  have hf28_1 := hfr28 1
                  (try simp only [show (k34).sz = 2 from rfl, Nat.mul_one, Nat.add_zero] at hf28_1)
                  clear hcl28 hcc28 hfr28 hM28
                  go_wp2_with (first | ((with_reducible refine gate_dst (N := 15) rfl ?_); refine wpList_load_row rfl 26 (.tmp 4) rfl gb279 rfl 26 #[.string a1_0, .string a1_1, .string a1_2, .string a1_3, .string a1_4, .string a1_5, .string a1_6, .string a1_7, .string a1_8, .string a1_9, .string a1_10, .string a1_11, .string a1_12, .string a1_13, .string a1_14, .string a1_15, .string a1_16, .string a1_17, .string a1_18, .string a1_19, .string a1_20] (0, 0) _ (by (with_reducible repeat (first | refine blk_drewN ?_ _ | refine blk_drew ?_ | refine blk_alloc ?_ _)); exact BK279.out) Tryd.underlying26 rfl size26 ?_) | ((with_reducible refine gate_dst (N := 20) rfl ?_); refine wpList_load_row rfl 26 (.tmp 4) rfl gb279 rfl 26 #[.string a1_0, .string a1_1, .string a1_2, .string a1_3, .string a1_4, .string a1_5, .string a1_6, .string a1_7, .string a1_8, .string a1_9, .string a1_10, .string a1_11, .string a1_12, .string a1_13, .string a1_14, .string a1_15, .string a1_16, .string a1_17, .string a1_18, .string a1_19, .string a1_20] (0, 0) _ (by (with_reducible repeat (first | refine blk_drewN ?_ _ | refine blk_drew ?_ | refine blk_alloc ?_ _)); exact BK279.out) Tryd.underlying26 rfl size26 ?_) | ((with_reducible refine gate_store (t := 34) (p := 41) rfl ?_); refine store_event (t := 34) (p := 41) (v := ?vo_w29) (w1 := ((wr.setCell ⟨go27, (x9_2 : Int).toNat * 2, none⟩ (.string (⟨#[115, 112, 111, 105, 108, 116]⟩ : ByteArray))).setCell ⟨go27, (x9_2 : Int).toNat * 2 + 1, none⟩ (.int .i64 0))) ?hg ?ho ?hn ?hr ?_; (case ho => rfl); (case hg => rfl); (case hn => rfl); (case hr => first | (go_simp; done) | (go_simp; rfl)); intro w29 hw; have hg : wr.grownBy w29 (some go27) := (by rw [hw]; exact HP28.2); have hp_ : Kd.R k34 34 w29 w.heap.size (fun _ => True) (.slice (some ⟨go27, 0, none⟩) x8_2.length co23) y289 := (by rw [hw, Ny289.out]; exact HP28.1); clear HP28; have n0_ := Aside0.mk (hp_); have n1_ := Aside0.mk (blk_grown (g := gb278) (o := .cells #[.int .i64 a0_0, .bool a0_1, .string a0_2, .string a0_3, .int .i64 a0_4, .bool a0_5] 23 (0, 0)) (by (with_reducible repeat (first | refine blk_drewN ?_ _ | refine blk_drew ?_ | refine blk_alloc ?_ _)); exact BK278.out) hg (Kd.R_ne HO_8.out BK278.out (by decide))); have n2_ := Aside0.mk (blk_grown (g := gb279) (o := .cells #[.string a1_0, .string a1_1, .string a1_2, .string a1_3, .string a1_4, .string a1_5, .string a1_6, .string a1_7, .string a1_8, .string a1_9, .string a1_10, .string a1_11, .string a1_12, .string a1_13, .string a1_14, .string a1_15, .string a1_16, .string a1_17, .string a1_18, .string a1_19, .string a1_20] 26 (0, 0)) (by (with_reducible repeat (first | refine blk_drewN ?_ _ | refine blk_drew ?_ | refine blk_alloc ?_ _)); exact BK279.out) hg (Kd.R_ne HO_8.out BK279.out (by decide))); have n3_ := Aside0.mk (blk_grown (g := gb280) (o := .cells #[.int .i64 a2_0, .int .i64 a2_1, .int .i64 a2_2, .bool a2_3] 28 (0, 0)) (by (with_reducible repeat (first | refine blk_drewN ?_ _ | refine blk_drew ?_ | refine blk_alloc ?_ _)); exact BK280.out) hg (Kd.R_ne HO_8.out BK280.out (by decide))); have n4_ := Aside0.mk ((by rw [hw]; exact below_set (below_set (HB.out) GB27.out) GB27.out : Below w.heap.size w w29)); clear HO_8; clear BK278; clear BK279; clear BK280; clear HB; have HO_8 := n0_; have BK278 := n1_; have BK279 := n2_; have BK280 := n3_; have HB := n4_; clear n0_ n1_ n2_ n3_ n4_; clear hg hw hp_))
                  (try simp only [← hl8_2])
                  go_roundg k2
                  case measure => have := HK1.out; have := HK2.out; omega
                  case rel => exact ⟨(y289), (wrap64 (x9_2 + 1)), (by first | rfl | (simp; done) | (simp [*]; done)), H', ⟨by have := HK1.out; have := HK2.out; omega⟩, ⟨by (try simp only [hl8_2]); (with_reducible repeat (first | apply Kd.R_alloc | apply Kd.R_drewN | apply Kd.R_drew)); exact HO_8.out⟩, ⟨by (try simp only [hl8_2]); (with_reducible repeat (first | refine blk_drewN ?_ _ | refine blk_drew ?_ | refine blk_alloc ?_ _)); exact BK278.out⟩, ⟨by (try simp only [hl8_2]); (with_reducible repeat (first | refine blk_drewN ?_ _ | refine blk_drew ?_ | refine blk_alloc ?_ _)); exact BK279.out⟩, ⟨by (try simp only [hl8_2]); (with_reducible repeat (first | refine blk_drewN ?_ _ | refine blk_drew ?_ | refine blk_alloc ?_ _)); exact BK280.out⟩, ⟨by repeat (first | (with_reducible first | exact HB.out | apply below_alloc | apply pw_below_drewN | apply below_drew1 | refine below_set ?_ GE278.out | refine below_set ?_ GE279.out | refine below_set ?_ GE280.out) | exact HB.out)⟩⟩
                · rw [if_neg c26] at H
                  exact absurd H (by simp)
              · rw [if_neg c25] at H
                have c25b0 : decide (x9_2 < (x8_2.length : Int)) = false := decide_eq_false c25
                clear c25
                by_cases c30 : x8_2.length < 5864062014805
                · rw [if_pos c30] at H
                  have LMc30 := Aside0.mk c30
                  clear c30
                  obtain ⟨y290, hy290⟩ : ∃ y_ : List (S34), y_ = (x8_2 ++ [(⟨(⟨#[]⟩ : ByteArray), (x8_2.length : Int)⟩ : S34)]) := ⟨_, rfl⟩
                  replace H : (quipulaw16_DigitsPieces.l0 k2 (wrap64 (x7_1 + 1)) a0_0 a0_1 a0_2 a0_3 a0_4 a0_5 a1_0 a1_1 a1_2 a1_3 a1_4 a1_5 a1_6 a1_7 a1_8 a1_9 a1_10 a1_11 a1_12 a1_13 a1_14 a1_15 a1_16 a1_17 a1_18 a1_19 a1_20 a2_0 a2_1 a2_2 a2_3) = some r := by first | (rw [hy290]; with_reducible exact H) | (have H2_ := (Option.bind_some _ _).symm.trans H; rw [hy290]; with_reducible exact H2_) | (have H2_ := (Option.bind_some _ _).symm.trans H; with_reducible exact H2_) | with_reducible exact H | (rw [hy290]; exact H) | exact H
                  have Ny290 := Aside0.mk hy290
                  clear hy290
                  have H' := Aside0.mk H
                  clear H
                  go_wp2_with (first | ((with_reducible refine gate_dst (N := 15) rfl ?_); refine wpList_load_row rfl 26 (.tmp 4) rfl gb279 rfl 26 #[.string a1_0, .string a1_1, .string a1_2, .string a1_3, .string a1_4, .string a1_5, .string a1_6, .string a1_7, .string a1_8, .string a1_9, .string a1_10, .string a1_11, .string a1_12, .string a1_13, .string a1_14, .string a1_15, .string a1_16, .string a1_17, .string a1_18, .string a1_19, .string a1_20] (0, 0) _ (by (with_reducible repeat (first | refine blk_drewN ?_ _ | refine blk_drew ?_ | refine blk_alloc ?_ _)); exact BK279.out) Tryd.underlying26 rfl size26 ?_) | ((with_reducible refine gate_dst (N := 20) rfl ?_); refine wpList_load_row rfl 26 (.tmp 4) rfl gb279 rfl 26 #[.string a1_0, .string a1_1, .string a1_2, .string a1_3, .string a1_4, .string a1_5, .string a1_6, .string a1_7, .string a1_8, .string a1_9, .string a1_10, .string a1_11, .string a1_12, .string a1_13, .string a1_14, .string a1_15, .string a1_16, .string a1_17, .string a1_18, .string a1_19, .string a1_20] (0, 0) _ (by (with_reducible repeat (first | refine blk_drewN ?_ _ | refine blk_drew ?_ | refine blk_alloc ?_ _)); exact BK279.out) Tryd.underlying26 rfl size26 ?_) | ((with_reducible refine gate_builtin (b := .append) (xs := #[.tmp 42, .tmp 46]) rfl ?_); at_builtin; refine Kd.R_append k34 (w0 := w) w.heap.size rfl (.tmp 42) (.tmp 46) 29 34 (.agg #[(.string ⟨#[]⟩), (.int .i64 0)]) 24 rfl Tryd.underlying29 info34 rfl (by decide) (by omega) (.slice Ao23 x8_2.length co23) x8_2 (⟨(⟨#[]⟩ : ByteArray), (x8_2.length : Int)⟩ : S34) [.string (⟨#[]⟩ : ByteArray), .int .i64 (x8_2.length : Int)] (fun _ => True) (fun _ => False) rfl rfl ?aP (fun _ hk => hk.elim) ?aF ?aO ?aB ?aS ?aL ?_; (case aP => exact k34_mkM _ _ _ (⟨(⟨#[]⟩ : ByteArray), (x8_2.length : Int)⟩ : S34)); (case aB => exact (by repeat (first | (with_reducible first | exact HB.out | apply below_alloc | apply pw_below_drewN | apply below_drew1 | refine below_set ?_ GE278.out | refine below_set ?_ GE279.out | refine below_set ?_ GE280.out) | exact HB.out))); (case aF => exact (fun _ _ => trivial)); (case aO => exact (by (with_reducible repeat (first | apply Kd.R_alloc | apply Kd.R_drewN | apply Kd.R_drew)); exact HO_8.out)); (case aS => exact (below_size (by repeat (first | (with_reducible first | exact HB.out | apply below_alloc | apply pw_below_drewN | apply below_drew1 | refine below_set ?_ GE278.out | refine below_set ?_ GE279.out | refine below_set ?_ GE280.out) | exact HB.out)))); (case aL => have := LMc30.out; omega); intro v291 w31 ho hb hg hat; rw [← Ny290.out] at ho; have n0_ := Aside0.mk (blk_grown (g := gb278) (o := .cells #[.int .i64 a0_0, .bool a0_1, .string a0_2, .string a0_3, .int .i64 a0_4, .bool a0_5] 23 (0, 0)) (by (with_reducible repeat (first | refine blk_drewN ?_ _ | refine blk_drew ?_ | refine blk_alloc ?_ _)); exact BK278.out) hg (Kd.R_ne HO_8.out BK278.out (by decide))); have n1_ := Aside0.mk (blk_grown (g := gb279) (o := .cells #[.string a1_0, .string a1_1, .string a1_2, .string a1_3, .string a1_4, .string a1_5, .string a1_6, .string a1_7, .string a1_8, .string a1_9, .string a1_10, .string a1_11, .string a1_12, .string a1_13, .string a1_14, .string a1_15, .string a1_16, .string a1_17, .string a1_18, .string a1_19, .string a1_20] 26 (0, 0)) (by (with_reducible repeat (first | refine blk_drewN ?_ _ | refine blk_drew ?_ | refine blk_alloc ?_ _)); exact BK279.out) hg (Kd.R_ne HO_8.out BK279.out (by decide))); have n2_ := Aside0.mk (blk_grown (g := gb280) (o := .cells #[.int .i64 a2_0, .int .i64 a2_1, .int .i64 a2_2, .bool a2_3] 28 (0, 0)) (by (with_reducible repeat (first | refine blk_drewN ?_ _ | refine blk_drew ?_ | refine blk_alloc ?_ _)); exact BK280.out) hg (Kd.R_ne HO_8.out BK280.out (by decide))); have n3_ := Aside0.mk (hb); have n4_ := Aside0.mk (ho); clear BK278; clear BK279; clear BK280; clear HB; clear HO_8; have BK278 := n0_; have BK279 := n1_; have BK280 := n2_; have HB := n3_; have HO292 := n4_; clear n0_ n1_ n2_ n3_ n4_; clear ho hb hg hat))
                  (try simp only [← hl8_2])
                  go_roundg k2
                  case measure => have := HK1.out; have := HK2.out; omega
                  case rel => exact ⟨(wrap64 (x7_1 + 1)), (by first | rfl | (simp; done) | (simp [*]; done)), H', ⟨by have := HK1.out; have := HK2.out; omega⟩, ⟨by (try simp only [hl8_2]); (with_reducible repeat (first | refine blk_drewN ?_ _ | refine blk_drew ?_ | refine blk_alloc ?_ _)); exact BK278.out⟩, ⟨by (try simp only [hl8_2]); (with_reducible repeat (first | refine blk_drewN ?_ _ | refine blk_drew ?_ | refine blk_alloc ?_ _)); exact BK279.out⟩, ⟨by (try simp only [hl8_2]); (with_reducible repeat (first | refine blk_drewN ?_ _ | refine blk_drew ?_ | refine blk_alloc ?_ _)); exact BK280.out⟩, ⟨by repeat (first | (with_reducible first | exact HB.out | apply below_alloc | apply pw_below_drewN | apply below_drew1 | refine below_set ?_ GE278.out | refine below_set ?_ GE279.out | refine below_set ?_ GE280.out) | exact HB.out)⟩⟩
                · rw [if_neg c30] at H
                  exact absurd H (by simp)
        · replace c11 := Bool.eq_false_iff.mpr c11
          subst c11
          have H1 : (some false) = some r := by rw [if_neg (show ¬ (false = true) by decide)] at H; exact H
          clear H
          have H := H1
          clear H1
          obtain rfl := Option.some.inj H
          have hnb32 := NB278_279.out
          have hnc32 := NB279_278.out
          have hnb33 := NB278_280.out
          have hnc33 := NB280_278.out
          have hcz34_0 : wr.cell? ⟨gb278, 0, none⟩ = some (.int .i64 a0_0) := (blk_cell BK278.out 0).trans rfl
          have hcz34_1 : wr.cell? ⟨gb278, 1, none⟩ = some (.bool a0_1) := (blk_cell BK278.out 1).trans rfl
          have hcz34_2 : wr.cell? ⟨gb278, 2, none⟩ = some (.string a0_2) := (blk_cell BK278.out 2).trans rfl
          have hcz34_3 : wr.cell? ⟨gb278, 3, none⟩ = some (.string a0_3) := (blk_cell BK278.out 3).trans rfl
          have hcz34_4 : wr.cell? ⟨gb278, 4, none⟩ = some (.int .i64 a0_4) := (blk_cell BK278.out 4).trans rfl
          have hcz34_5 : wr.cell? ⟨gb278, 5, none⟩ = some (.bool a0_5) := (blk_cell BK278.out 5).trans rfl
          have hfz34_0 := blk_frozen BK278.out 0
          have hfz34_1 := blk_frozen BK278.out 1
          have hfz34_2 := blk_frozen BK278.out 2
          have hfz34_3 := blk_frozen BK278.out 3
          have hfz34_4 := blk_frozen BK278.out 4
          have hfz34_5 := blk_frozen BK278.out 5
          have hnb35 := NB279_280.out
          have hnc35 := NB280_279.out
          have hcz36_0 : wr.cell? ⟨gb279, 0, none⟩ = some (.string a1_0) := (blk_cell BK279.out 0).trans rfl
          have hcz36_1 : wr.cell? ⟨gb279, 1, none⟩ = some (.string a1_1) := (blk_cell BK279.out 1).trans rfl
          have hcz36_2 : wr.cell? ⟨gb279, 2, none⟩ = some (.string a1_2) := (blk_cell BK279.out 2).trans rfl
          have hcz36_3 : wr.cell? ⟨gb279, 3, none⟩ = some (.string a1_3) := (blk_cell BK279.out 3).trans rfl
          have hcz36_4 : wr.cell? ⟨gb279, 4, none⟩ = some (.string a1_4) := (blk_cell BK279.out 4).trans rfl
          have hcz36_5 : wr.cell? ⟨gb279, 5, none⟩ = some (.string a1_5) := (blk_cell BK279.out 5).trans rfl
          have hcz36_6 : wr.cell? ⟨gb279, 6, none⟩ = some (.string a1_6) := (blk_cell BK279.out 6).trans rfl
          have hcz36_7 : wr.cell? ⟨gb279, 7, none⟩ = some (.string a1_7) := (blk_cell BK279.out 7).trans rfl
          have hcz36_8 : wr.cell? ⟨gb279, 8, none⟩ = some (.string a1_8) := (blk_cell BK279.out 8).trans rfl
          have hcz36_9 : wr.cell? ⟨gb279, 9, none⟩ = some (.string a1_9) := (blk_cell BK279.out 9).trans rfl
          have hcz36_10 : wr.cell? ⟨gb279, 10, none⟩ = some (.string a1_10) := (blk_cell BK279.out 10).trans rfl
          have hcz36_11 : wr.cell? ⟨gb279, 11, none⟩ = some (.string a1_11) := (blk_cell BK279.out 11).trans rfl
          have hcz36_12 : wr.cell? ⟨gb279, 12, none⟩ = some (.string a1_12) := (blk_cell BK279.out 12).trans rfl
          have hcz36_13 : wr.cell? ⟨gb279, 13, none⟩ = some (.string a1_13) := (blk_cell BK279.out 13).trans rfl
          have hcz36_14 : wr.cell? ⟨gb279, 14, none⟩ = some (.string a1_14) := (blk_cell BK279.out 14).trans rfl
          have hcz36_15 : wr.cell? ⟨gb279, 15, none⟩ = some (.string a1_15) := (blk_cell BK279.out 15).trans rfl
          have hcz36_16 : wr.cell? ⟨gb279, 16, none⟩ = some (.string a1_16) := (blk_cell BK279.out 16).trans rfl
          have hcz36_17 : wr.cell? ⟨gb279, 17, none⟩ = some (.string a1_17) := (blk_cell BK279.out 17).trans rfl
          have hcz36_18 : wr.cell? ⟨gb279, 18, none⟩ = some (.string a1_18) := (blk_cell BK279.out 18).trans rfl
          have hcz36_19 : wr.cell? ⟨gb279, 19, none⟩ = some (.string a1_19) := (blk_cell BK279.out 19).trans rfl
          have hcz36_20 : wr.cell? ⟨gb279, 20, none⟩ = some (.string a1_20) := (blk_cell BK279.out 20).trans rfl
          have hfz36_0 := blk_frozen BK279.out 0
          have hfz36_1 := blk_frozen BK279.out 1
          have hfz36_2 := blk_frozen BK279.out 2
          have hfz36_3 := blk_frozen BK279.out 3
          have hfz36_4 := blk_frozen BK279.out 4
          have hfz36_5 := blk_frozen BK279.out 5
          have hfz36_6 := blk_frozen BK279.out 6
          have hfz36_7 := blk_frozen BK279.out 7
          have hfz36_8 := blk_frozen BK279.out 8
          have hfz36_9 := blk_frozen BK279.out 9
          have hfz36_10 := blk_frozen BK279.out 10
          have hfz36_11 := blk_frozen BK279.out 11
          have hfz36_12 := blk_frozen BK279.out 12
          have hfz36_13 := blk_frozen BK279.out 13
          have hfz36_14 := blk_frozen BK279.out 14
          have hfz36_15 := blk_frozen BK279.out 15
          have hfz36_16 := blk_frozen BK279.out 16
          have hfz36_17 := blk_frozen BK279.out 17
          have hfz36_18 := blk_frozen BK279.out 18
          have hfz36_19 := blk_frozen BK279.out 19
          have hfz36_20 := blk_frozen BK279.out 20
          have hcz37_0 : wr.cell? ⟨gb280, 0, none⟩ = some (.int .i64 a2_0) := (blk_cell BK280.out 0).trans rfl
          have hcz37_1 : wr.cell? ⟨gb280, 1, none⟩ = some (.int .i64 a2_1) := (blk_cell BK280.out 1).trans rfl
          have hcz37_2 : wr.cell? ⟨gb280, 2, none⟩ = some (.int .i64 a2_2) := (blk_cell BK280.out 2).trans rfl
          have hcz37_3 : wr.cell? ⟨gb280, 3, none⟩ = some (.bool a2_3) := (blk_cell BK280.out 3).trans rfl
          have hfz37_0 := blk_frozen BK280.out 0
          have hfz37_1 := blk_frozen BK280.out 1
          have hfz37_2 := blk_frozen BK280.out 2
          have hfz37_3 := blk_frozen BK280.out 3
          go_wp2_with (first | ((with_reducible refine gate_dst (N := 15) rfl ?_); refine wpList_load_row rfl 26 (.tmp 4) rfl gb279 rfl 26 #[.string a1_0, .string a1_1, .string a1_2, .string a1_3, .string a1_4, .string a1_5, .string a1_6, .string a1_7, .string a1_8, .string a1_9, .string a1_10, .string a1_11, .string a1_12, .string a1_13, .string a1_14, .string a1_15, .string a1_16, .string a1_17, .string a1_18, .string a1_19, .string a1_20] (0, 0) _ (by (with_reducible repeat (first | refine blk_drewN ?_ _ | refine blk_drew ?_ | refine blk_alloc ?_ _)); exact BK279.out) Tryd.underlying26 rfl size26 ?_) | ((with_reducible refine gate_dst (N := 20) rfl ?_); refine wpList_load_row rfl 26 (.tmp 4) rfl gb279 rfl 26 #[.string a1_0, .string a1_1, .string a1_2, .string a1_3, .string a1_4, .string a1_5, .string a1_6, .string a1_7, .string a1_8, .string a1_9, .string a1_10, .string a1_11, .string a1_12, .string a1_13, .string a1_14, .string a1_15, .string a1_16, .string a1_17, .string a1_18, .string a1_19, .string a1_20] (0, 0) _ (by (with_reducible repeat (first | refine blk_drewN ?_ _ | refine blk_drew ?_ | refine blk_alloc ?_ _)); exact BK279.out) Tryd.underlying26 rfl size26 ?_) | ((with_reducible refine gate_callee (f := 8) rfl ?_); refine goesL_ (some 17) rfl rfl Tryd.func8 (by kernel_rfl) rfl #[.agg #[.int .i64 a0_0, .bool a0_1, .string a0_2, .string a0_3, .int .i64 a0_4, .bool a0_5], .agg #[.string a1_0, .string a1_1, .string a1_2, .string a1_3, .string a1_4, .string a1_5, .string a1_6, .string a1_7, .string a1_8, .string a1_9, .string a1_10, .string a1_11, .string a1_12, .string a1_13, .string a1_14, .string a1_15, .string a1_16, .string a1_17, .string a1_18, .string a1_19, .string a1_20], .agg #[.int .i64 a2_0, .int .i64 a2_1, .int .i64 a2_2, .bool a2_3]] rfl (by (try simp only [List.map_toArray, List.map_cons, List.map_nil]); first | done | rfl | (simp only [List.length_drop, List.length_take]; rfl)) ?_; (with_reducible refine (quipulaw16_pieces.calls a0_0 a0_1 a0_2 a0_3 a0_4 a0_5 a1_0 a1_1 a1_2 a1_3 a1_4 a1_5 a1_6 a1_7 a1_8 a1_9 a1_10 a1_11 a1_12 a1_13 a1_14 a1_15 a1_16 a1_17 a1_18 a1_19 a1_20 a2_0 a2_1 a2_2 a2_3 t282 _ A8.out).mono ?_); rintro e w38 ⟨v283, rfl, ho0, hb⟩; refine ⟨_, rfl, ?_⟩; have n0_ := Aside0.mk (Kd.R_lower ho0 (below_size (by repeat (first | (with_reducible first | exact HB.out | apply below_alloc | apply pw_below_drewN | apply below_drew1 | refine below_set ?_ GE278.out | refine below_set ?_ GE279.out | refine below_set ?_ GE280.out) | exact HB.out)))); have n1_ := Aside0.mk (blk_below (g := gb278) (o := .cells #[.int .i64 a0_0, .bool a0_1, .string a0_2, .string a0_3, .int .i64 a0_4, .bool a0_5] 23 (0, 0)) (by (with_reducible repeat (first | refine blk_drewN ?_ _ | refine blk_drew ?_ | refine blk_alloc ?_ _)); exact BK278.out) hb); have n2_ := Aside0.mk (blk_below (g := gb279) (o := .cells #[.string a1_0, .string a1_1, .string a1_2, .string a1_3, .string a1_4, .string a1_5, .string a1_6, .string a1_7, .string a1_8, .string a1_9, .string a1_10, .string a1_11, .string a1_12, .string a1_13, .string a1_14, .string a1_15, .string a1_16, .string a1_17, .string a1_18, .string a1_19, .string a1_20] 26 (0, 0)) (by (with_reducible repeat (first | refine blk_drewN ?_ _ | refine blk_drew ?_ | refine blk_alloc ?_ _)); exact BK279.out) hb); have n3_ := Aside0.mk (blk_below (g := gb280) (o := .cells #[.int .i64 a2_0, .int .i64 a2_1, .int .i64 a2_2, .bool a2_3] 28 (0, 0)) (by (with_reducible repeat (first | refine blk_drewN ?_ _ | refine blk_drew ?_ | refine blk_alloc ?_ _)); exact BK280.out) hb); have n4_ := Aside0.mk (below_step (by repeat (first | (with_reducible first | exact HB.out | apply below_alloc | apply pw_below_drewN | apply below_drew1 | refine below_set ?_ GE278.out | refine below_set ?_ GE279.out | refine below_set ?_ GE280.out) | exact HB.out)) hb); clear BK278; clear BK279; clear BK280; clear HB; have HO284 := n0_; have BK278 := n1_; have BK279 := n2_; have BK280 := n3_; have HB := n4_; clear n0_ n1_ n2_ n3_ n4_; (try clear hb); (try clear hb2); (try clear hk); (try clear hi); (try clear ho0); have hcz39_0 : w38.cell? ⟨gb278, 0, none⟩ = some (.int .i64 a0_0) := (blk_cell BK278.out 0).trans rfl; have hcz39_1 : w38.cell? ⟨gb278, 1, none⟩ = some (.bool a0_1) := (blk_cell BK278.out 1).trans rfl; have hcz39_2 : w38.cell? ⟨gb278, 2, none⟩ = some (.string a0_2) := (blk_cell BK278.out 2).trans rfl; have hcz39_3 : w38.cell? ⟨gb278, 3, none⟩ = some (.string a0_3) := (blk_cell BK278.out 3).trans rfl; have hcz39_4 : w38.cell? ⟨gb278, 4, none⟩ = some (.int .i64 a0_4) := (blk_cell BK278.out 4).trans rfl; have hcz39_5 : w38.cell? ⟨gb278, 5, none⟩ = some (.bool a0_5) := (blk_cell BK278.out 5).trans rfl; have hfz39_0 := blk_frozen BK278.out 0; have hfz39_1 := blk_frozen BK278.out 1; have hfz39_2 := blk_frozen BK278.out 2; have hfz39_3 := blk_frozen BK278.out 3; have hfz39_4 := blk_frozen BK278.out 4; have hfz39_5 := blk_frozen BK278.out 5; have hcz40_0 : w38.cell? ⟨gb279, 0, none⟩ = some (.string a1_0) := (blk_cell BK279.out 0).trans rfl; have hcz40_1 : w38.cell? ⟨gb279, 1, none⟩ = some (.string a1_1) := (blk_cell BK279.out 1).trans rfl; have hcz40_2 : w38.cell? ⟨gb279, 2, none⟩ = some (.string a1_2) := (blk_cell BK279.out 2).trans rfl; have hcz40_3 : w38.cell? ⟨gb279, 3, none⟩ = some (.string a1_3) := (blk_cell BK279.out 3).trans rfl; have hcz40_4 : w38.cell? ⟨gb279, 4, none⟩ = some (.string a1_4) := (blk_cell BK279.out 4).trans rfl; have hcz40_5 : w38.cell? ⟨gb279, 5, none⟩ = some (.string a1_5) := (blk_cell BK279.out 5).trans rfl; have hcz40_6 : w38.cell? ⟨gb279, 6, none⟩ = some (.string a1_6) := (blk_cell BK279.out 6).trans rfl; have hcz40_7 : w38.cell? ⟨gb279, 7, none⟩ = some (.string a1_7) := (blk_cell BK279.out 7).trans rfl; have hcz40_8 : w38.cell? ⟨gb279, 8, none⟩ = some (.string a1_8) := (blk_cell BK279.out 8).trans rfl; have hcz40_9 : w38.cell? ⟨gb279, 9, none⟩ = some (.string a1_9) := (blk_cell BK279.out 9).trans rfl; have hcz40_10 : w38.cell? ⟨gb279, 10, none⟩ = some (.string a1_10) := (blk_cell BK279.out 10).trans rfl; have hcz40_11 : w38.cell? ⟨gb279, 11, none⟩ = some (.string a1_11) := (blk_cell BK279.out 11).trans rfl; have hcz40_12 : w38.cell? ⟨gb279, 12, none⟩ = some (.string a1_12) := (blk_cell BK279.out 12).trans rfl; have hcz40_13 : w38.cell? ⟨gb279, 13, none⟩ = some (.string a1_13) := (blk_cell BK279.out 13).trans rfl; have hcz40_14 : w38.cell? ⟨gb279, 14, none⟩ = some (.string a1_14) := (blk_cell BK279.out 14).trans rfl; have hcz40_15 : w38.cell? ⟨gb279, 15, none⟩ = some (.string a1_15) := (blk_cell BK279.out 15).trans rfl; have hcz40_16 : w38.cell? ⟨gb279, 16, none⟩ = some (.string a1_16) := (blk_cell BK279.out 16).trans rfl; have hcz40_17 : w38.cell? ⟨gb279, 17, none⟩ = some (.string a1_17) := (blk_cell BK279.out 17).trans rfl; have hcz40_18 : w38.cell? ⟨gb279, 18, none⟩ = some (.string a1_18) := (blk_cell BK279.out 18).trans rfl; have hcz40_19 : w38.cell? ⟨gb279, 19, none⟩ = some (.string a1_19) := (blk_cell BK279.out 19).trans rfl; have hcz40_20 : w38.cell? ⟨gb279, 20, none⟩ = some (.string a1_20) := (blk_cell BK279.out 20).trans rfl; have hfz40_0 := blk_frozen BK279.out 0; have hfz40_1 := blk_frozen BK279.out 1; have hfz40_2 := blk_frozen BK279.out 2; have hfz40_3 := blk_frozen BK279.out 3; have hfz40_4 := blk_frozen BK279.out 4; have hfz40_5 := blk_frozen BK279.out 5; have hfz40_6 := blk_frozen BK279.out 6; have hfz40_7 := blk_frozen BK279.out 7; have hfz40_8 := blk_frozen BK279.out 8; have hfz40_9 := blk_frozen BK279.out 9; have hfz40_10 := blk_frozen BK279.out 10; have hfz40_11 := blk_frozen BK279.out 11; have hfz40_12 := blk_frozen BK279.out 12; have hfz40_13 := blk_frozen BK279.out 13; have hfz40_14 := blk_frozen BK279.out 14; have hfz40_15 := blk_frozen BK279.out 15; have hfz40_16 := blk_frozen BK279.out 16; have hfz40_17 := blk_frozen BK279.out 17; have hfz40_18 := blk_frozen BK279.out 18; have hfz40_19 := blk_frozen BK279.out 19; have hfz40_20 := blk_frozen BK279.out 20; have hcz41_0 : w38.cell? ⟨gb280, 0, none⟩ = some (.int .i64 a2_0) := (blk_cell BK280.out 0).trans rfl; have hcz41_1 : w38.cell? ⟨gb280, 1, none⟩ = some (.int .i64 a2_1) := (blk_cell BK280.out 1).trans rfl; have hcz41_2 : w38.cell? ⟨gb280, 2, none⟩ = some (.int .i64 a2_2) := (blk_cell BK280.out 2).trans rfl; have hcz41_3 : w38.cell? ⟨gb280, 3, none⟩ = some (.bool a2_3) := (blk_cell BK280.out 3).trans rfl; have hfz41_0 := blk_frozen BK280.out 0; have hfz41_1 := blk_frozen BK280.out 1; have hfz41_2 := blk_frozen BK280.out 2; have hfz41_3 := blk_frozen BK280.out 3) | ((with_reducible refine gate_callee (f := 10) rfl ?_); refine goesL_ (some 29) rfl rfl Tryd.func10 (by kernel_rfl) rfl #[.agg #[.int .i64 a0_0, .bool a0_1, .string a0_2, .string a0_3, .int .i64 a0_4, .bool a0_5], .agg #[.string a1_0, .string a1_1, .string a1_2, .string a1_3, .string a1_4, .string a1_5, .string a1_6, .string a1_7, .string a1_8, .string a1_9, .string a1_10, .string a1_11, .string a1_12, .string a1_13, .string a1_14, .string a1_15, .string a1_16, .string a1_17, .string a1_18, .string a1_19, .string a1_20], .int .i64 a2_0, .int .i64 a2_1, .int .i64 a2_2, .bool a2_3] rfl (by (try simp only [List.map_toArray, List.map_cons, List.map_nil]); first | done | rfl | (simp only [List.length_drop, List.length_take]; rfl)) ?_; (with_reducible refine (quipuref16_Pieces.calls k1 a0_0 a0_1 a0_2 a0_3 a0_4 a0_5 a1_0 a1_1 a1_2 a1_3 a1_4 a1_5 a1_6 a1_7 a1_8 a1_9 a1_10 a1_11 a1_12 a1_13 a1_14 a1_15 a1_16 a1_17 a1_18 a1_19 a1_20 a2_0 a2_1 a2_2 a2_3 t285 _ A9.out).mono ?_); rintro e w42 ⟨v286, rfl, ho0, hb⟩; refine ⟨_, rfl, ?_⟩; have n0_ := Aside0.mk (Kd.R_elder' (by (with_reducible repeat (first | apply Kd.R_alloc | apply Kd.R_drewN | apply Kd.R_drew)); exact HO284.out) (Kd.R_base ho0) hb); have n1_ := Aside0.mk (Kd.R_lower (Kd.R_new' ho0 (Kd.R_lt (by (with_reducible repeat (first | apply Kd.R_alloc | apply Kd.R_drewN | apply Kd.R_drew)); exact HO284.out))) (below_size (by repeat (first | (with_reducible first | exact HB.out | apply below_alloc | apply pw_below_drewN | apply below_drew1 | refine below_set ?_ GE278.out | refine below_set ?_ GE279.out | refine below_set ?_ GE280.out) | exact HB.out)))); have n2_ := Aside0.mk (blk_below (g := gb278) (o := .cells #[.int .i64 a0_0, .bool a0_1, .string a0_2, .string a0_3, .int .i64 a0_4, .bool a0_5] 23 (0, 0)) (by (with_reducible repeat (first | refine blk_drewN ?_ _ | refine blk_drew ?_ | refine blk_alloc ?_ _)); exact BK278.out) hb); have n3_ := Aside0.mk (blk_below (g := gb279) (o := .cells #[.string a1_0, .string a1_1, .string a1_2, .string a1_3, .string a1_4, .string a1_5, .string a1_6, .string a1_7, .string a1_8, .string a1_9, .string a1_10, .string a1_11, .string a1_12, .string a1_13, .string a1_14, .string a1_15, .string a1_16, .string a1_17, .string a1_18, .string a1_19, .string a1_20] 26 (0, 0)) (by (with_reducible repeat (first | refine blk_drewN ?_ _ | refine blk_drew ?_ | refine blk_alloc ?_ _)); exact BK279.out) hb); have n4_ := Aside0.mk (blk_below (g := gb280) (o := .cells #[.int .i64 a2_0, .int .i64 a2_1, .int .i64 a2_2, .bool a2_3] 28 (0, 0)) (by (with_reducible repeat (first | refine blk_drewN ?_ _ | refine blk_drew ?_ | refine blk_alloc ?_ _)); exact BK280.out) hb); have n5_ := Aside0.mk (below_step (by repeat (first | (with_reducible first | exact HB.out | apply below_alloc | apply pw_below_drewN | apply below_drew1 | refine below_set ?_ GE278.out | refine below_set ?_ GE279.out | refine below_set ?_ GE280.out) | exact HB.out)) hb); clear HO284; clear BK278; clear BK279; clear BK280; clear HB; have HO284 := n0_; have HO287 := n1_; have BK278 := n2_; have BK279 := n3_; have BK280 := n4_; have HB := n5_; clear n0_ n1_ n2_ n3_ n4_ n5_; (try clear hb); (try clear hb2); (try clear hk); (try clear hi); (try clear ho0); obtain ⟨Ao43, co43, eo43⟩ := Kd.R_slice HO284.out; subst eo43; obtain ⟨Ao44, co44, eo44⟩ := Kd.R_slice HO287.out; subst eo44) | ((with_reducible refine gate_callee (f := 9) rfl ?_); refine goesL_ (some 30) rfl rfl Tryd.func9 (by kernel_rfl) rfl #[.slice Ao43 t282.length co43, .slice Ao44 t285.length co44] rfl (by (try simp only [List.map_toArray, List.map_cons, List.map_nil]); first | done | rfl | (simp only [List.length_drop, List.length_take]; rfl)) ?_; (with_reducible refine (quipuref16_Same.calls k1 _ _ t282 _ _ t285 false _ ?side1 ?side2 ?side3 ?side4 A10.out).mono ?_); (case side1 => repeat (first | exact (Kd.R_reads' HO284.out).2.2 | (with_reducible refine Kd.C_alloc ?_ _) | (with_reducible refine Kd.C_drewN ?_ _) | (with_reducible refine Kd.C_drew ?_))); (case side2 => exact (Kd.R_reads' HO284.out).2.1); (case side3 => repeat (first | exact (Kd.R_reads' HO287.out).2.2 | (with_reducible refine Kd.C_alloc ?_ _) | (with_reducible refine Kd.C_drewN ?_ _) | (with_reducible refine Kd.C_drew ?_))); (case side4 => exact (Kd.R_reads' HO287.out).2.1); rintro e w' ⟨rfl, ⟨nd, rfl⟩⟩; refine ⟨_, rfl, ?_⟩))
          go_ret
          exact ⟨by first | rfl | (simp [errW_none, errW_some] <;> rfl) | (simp [*, errW_none, errW_some] <;> rfl) | (simp only [ne_nil_b]; first | done | rfl) | (simp [ne_nil_b]; done), by repeat (first | (with_reducible first | exact HB.out | apply below_alloc | apply pw_below_drewN | apply below_drew1 | refine below_set ?_ GE278.out | refine below_set ?_ GE279.out | refine below_set ?_ GE280.out) | exact HB.out)⟩
      · rw [if_neg c7] at H
        have c7b0 : decide (x7_1 < 2) = false := decide_eq_false c7
        clear c7
        replace H := Option.bind_eq_some_iff.mp H
        obtain ⟨t281, A450, H⟩ := H
        replace H : (some t281) = some r := H
        have A45 := Aside0.mk A450
        clear A450
        obtain rfl := Option.some.inj H
        go_wp2_with (first | ((with_reducible refine gate_dst (N := 15) rfl ?_); refine wpList_load_row rfl 26 (.tmp 4) rfl gb279 rfl 26 #[.string a1_0, .string a1_1, .string a1_2, .string a1_3, .string a1_4, .string a1_5, .string a1_6, .string a1_7, .string a1_8, .string a1_9, .string a1_10, .string a1_11, .string a1_12, .string a1_13, .string a1_14, .string a1_15, .string a1_16, .string a1_17, .string a1_18, .string a1_19, .string a1_20] (0, 0) _ (by (with_reducible repeat (first | refine blk_drewN ?_ _ | refine blk_drew ?_ | refine blk_alloc ?_ _)); exact BK279.out) Tryd.underlying26 rfl size26 ?_) | ((with_reducible refine gate_dst (N := 20) rfl ?_); refine wpList_load_row rfl 26 (.tmp 4) rfl gb279 rfl 26 #[.string a1_0, .string a1_1, .string a1_2, .string a1_3, .string a1_4, .string a1_5, .string a1_6, .string a1_7, .string a1_8, .string a1_9, .string a1_10, .string a1_11, .string a1_12, .string a1_13, .string a1_14, .string a1_15, .string a1_16, .string a1_17, .string a1_18, .string a1_19, .string a1_20] (0, 0) _ (by (with_reducible repeat (first | refine blk_drewN ?_ _ | refine blk_drew ?_ | refine blk_alloc ?_ _)); exact BK279.out) Tryd.underlying26 rfl size26 ?_) | ((with_reducible refine gate_callee (f := 11) rfl ?_); refine goesL_ (some 48) rfl rfl Tryd.func11 (by kernel_rfl) rfl #[] rfl (by (try simp only [List.map_toArray, List.map_cons, List.map_nil]); first | done | rfl | (simp only [List.length_drop, List.length_take]; rfl)) ?_; (with_reducible refine (quipulaw16_awake.calls k1  t281 _ (Gd.below HG.out (by repeat (first | (with_reducible first | exact HB.out | apply below_alloc | apply pw_below_drewN | apply below_drew1 | refine below_set ?_ GE278.out | refine below_set ?_ GE279.out | refine below_set ?_ GE280.out) | exact HB.out))) A45.out).mono ?_); rintro e w46 ⟨rfl, hb⟩; refine ⟨_, rfl, ?_⟩; have n0_ := Aside0.mk (blk_below (g := gb278) (o := .cells #[.int .i64 a0_0, .bool a0_1, .string a0_2, .string a0_3, .int .i64 a0_4, .bool a0_5] 23 (0, 0)) (by (with_reducible repeat (first | refine blk_drewN ?_ _ | refine blk_drew ?_ | refine blk_alloc ?_ _)); exact BK278.out) hb); have n1_ := Aside0.mk (blk_below (g := gb279) (o := .cells #[.string a1_0, .string a1_1, .string a1_2, .string a1_3, .string a1_4, .string a1_5, .string a1_6, .string a1_7, .string a1_8, .string a1_9, .string a1_10, .string a1_11, .string a1_12, .string a1_13, .string a1_14, .string a1_15, .string a1_16, .string a1_17, .string a1_18, .string a1_19, .string a1_20] 26 (0, 0)) (by (with_reducible repeat (first | refine blk_drewN ?_ _ | refine blk_drew ?_ | refine blk_alloc ?_ _)); exact BK279.out) hb); have n2_ := Aside0.mk (blk_below (g := gb280) (o := .cells #[.int .i64 a2_0, .int .i64 a2_1, .int .i64 a2_2, .bool a2_3] 28 (0, 0)) (by (with_reducible repeat (first | refine blk_drewN ?_ _ | refine blk_drew ?_ | refine blk_alloc ?_ _)); exact BK280.out) hb); have n3_ := Aside0.mk (below_step (by repeat (first | (with_reducible first | exact HB.out | apply below_alloc | apply pw_below_drewN | apply below_drew1 | refine below_set ?_ GE278.out | refine below_set ?_ GE279.out | refine below_set ?_ GE280.out) | exact HB.out)) hb); clear BK278; clear BK279; clear BK280; clear HB; have BK278 := n0_; have BK279 := n1_; have BK280 := n2_; have HB := n3_; clear n0_ n1_ n2_ n3_; (try clear hb); (try clear hb2); (try clear hk); (try clear hi)))
        go_ret
        exact ⟨by first | rfl | (simp [errW_none, errW_some] <;> rfl) | (simp [*, errW_none, errW_some] <;> rfl) | (simp only [ne_nil_b]; first | done | rfl) | (simp [ne_nil_b]; done), by repeat (first | (with_reducible first | exact HB.out | apply below_alloc | apply pw_below_drewN | apply below_drew1 | refine below_set ?_ GE278.out | refine below_set ?_ GE279.out | refine below_set ?_ GE280.out) | exact HB.out)⟩
end Go.Proofs.YtefejkhcbelahaaDoor.Q
