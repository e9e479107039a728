import Derived.Test.YtnkggincckdoiaaDoorKo23
import Derived.Test.YtnkggincckdoiaaDoorKo1
import Derived.Test.YtnkggincckdoiaaDoorKo24
import Derived.Test.YtnkggincckdoiaaDoorKo26
namespace Go.Proofs.YtnkggincckdoiaaDoor.Q
open Go.RowKit Go.Proofs.YtnkggincckdoiaaDoorW.PrintWords Go.Proofs.YtnkggincckdoiaaDoorW.PrintLast Go.Proofs.YtnkggincckdoiaaDoorW.PrintMore
attribute [local go_sem] max2_int min2_int max_two min_two max_three min_three max_four min_four   -- for this text's walks alone
set_option linter.unusedVariables false
set_option linter.unusedSimpArgs false
mutual
def quipulaw09_RuleOrder.l0 : Nat → ByteArray → ByteArray → Int → Int → Bool → Bool → Int → Int → Int → Option (Bool)
  | 0, _, _, _, _, _, _, _, _, _ => none
  | k + 1, x0, x1, x7, x8, x9, x10, x11, x12, x13 => if x13 < (x1.size : Int) then (if 0 ≤ x13 then (if (bt x1 x13) = 59 then (some true) else (quipulaw09_RuleOrder.l0 k x0 x1 x7 x8 x9 x10 x11 x12 (wrap64 (x13 + 1)))) else (none)) else (if x8 = 0 then (if x12 = 0 then (if x10 = true then (quipulaw09_RuleOrder.j1 k x7 x9 x11 (x0.toList == ([] : List UInt8))) else (quipulaw09_RuleOrder.j1 k x7 x9 x11 true)) else (quipulaw09_RuleOrder.j1 k x7 x9 x11 true)) else (quipulaw09_RuleOrder.j1 k x7 x9 x11 true))
def quipulaw09_RuleOrder.j1 : Nat → Int → Bool → Int → Bool → Option (Bool)
  | 0, _, _, _, _ => none
  | k + 1, x7, x9, x11, x60 => if x60 = true then (some true) else (if x7 = 5 then (if x9 = true then (if x11 = 0 then (some true) else (some false)) else (some (x11 == 5))) else (some (x11 == x7)))
end
def quipulaw09_RuleOrder.f (k : Nat) (a0 : ByteArray) (a1 : ByteArray) (a2_0 : ByteArray) (a2_1 : Int) (a2_2 : Int) (a2_3 : ByteArray) (a2_4 : ByteArray) (a2_5 : Int) : Option (Bool) := (rule_Pick.f a0 a2_0 a2_1 a2_2 a2_3 a2_4 a2_5).bind fun bt262 => ((quipulaw09_alone.f a1 a2_0 a2_1 a2_2 a2_3 a2_4 a2_5).bind fun bt264 => ((quipulaw09_awake.f).bind fun t266 => (if t266 = true then (if a0.size + 8 ≤ 9223372036854775807 then (if (a0 ++ (⟨#[59, 32, 122, 101, 114, 111, 58, 32]⟩ : ByteArray)).size + a1.size ≤ 9223372036854775807 then ((rule_Pick.f ((a0 ++ (⟨#[59, 32, 122, 101, 114, 111, 58, 32]⟩ : ByteArray)) ++ a1) a2_0 a2_1 a2_2 a2_3 a2_4 a2_5).bind fun bt267 => (quipulaw09_RuleOrder.l0 k a0 a1 bt262.1 bt262.2 bt264.1 bt264.2 bt267.1 bt267.2 0)) else (none)) else (none)) else (some false))))
set_option maxHeartbeats 8000000 in
set_option maxRecDepth 100000 in
theorem quipulaw09_RuleOrder.calls (k : Nat) (a0 : ByteArray) (a1 : ByteArray) (a2_0 : ByteArray) (a2_1 : Int) (a2_2 : Int) (a2_3 : ByteArray) (a2_4 : ByteArray) (a2_5 : Int) (r : Bool) (w : World) (hG : Gd w) (h : quipulaw09_RuleOrder.f k a0 a1 a2_0 a2_1 a2_2 a2_3 a2_4 a2_5 = some r) :
    Calls Tryd.prog 5 #[.string a0, .string a1, .agg #[.string a2_0, .int .i64 a2_1, .int .i64 a2_2, .string a2_3, .string a2_4, .int .i64 a2_5]] w fun e w' => e = .returned (.bool r) ∧ Below w.heap.size w w' := by
  have hu29 := Tryd.underlying29
  have HB := Aside0.mk (Below.refl w.heap.size w)
  have HG := Aside0.mk hG
  clear hG
  have H : ((rule_Pick.f a0 a2_0 a2_1 a2_2 a2_3 a2_4 a2_5).bind fun bt262 => ((quipulaw09_alone.f a1 a2_0 a2_1 a2_2 a2_3 a2_4 a2_5).bind fun bt264 => ((quipulaw09_awake.f).bind fun t266 => (if t266 = true then (if a0.size + 8 ≤ 9223372036854775807 then (if (a0 ++ (⟨#[59, 32, 122, 101, 114, 111, 58, 32]⟩ : ByteArray)).size + a1.size ≤ 9223372036854775807 then ((rule_Pick.f ((a0 ++ (⟨#[59, 32, 122, 101, 114, 111, 58, 32]⟩ : ByteArray)) ++ a1) a2_0 a2_1 a2_2 a2_3 a2_4 a2_5).bind fun bt267 => (quipulaw09_RuleOrder.l0 k a0 a1 bt262.1 bt262.2 bt264.1 bt264.2 bt267.1 bt267.2 0)) else (none)) else (none)) else (some false))))) = some r := h
  clear h
  replace H := Option.bind_eq_some_iff.mp H
  obtain ⟨⟨t262, t263⟩, A40, H⟩ := H
  replace H : ((quipulaw09_alone.f a1 a2_0 a2_1 a2_2 a2_3 a2_4 a2_5).bind fun bt264 => ((quipulaw09_awake.f).bind fun t266 => (if t266 = true then (if a0.size + 8 ≤ 9223372036854775807 then (if (a0 ++ (⟨#[59, 32, 122, 101, 114, 111, 58, 32]⟩ : ByteArray)).size + a1.size ≤ 9223372036854775807 then ((rule_Pick.f ((a0 ++ (⟨#[59, 32, 122, 101, 114, 111, 58, 32]⟩ : ByteArray)) ++ a1) a2_0 a2_1 a2_2 a2_3 a2_4 a2_5).bind fun bt267 => (quipulaw09_RuleOrder.l0 k a0 a1 t262 t263 bt264.1 bt264.2 bt267.1 bt267.2 0)) else (none)) else (none)) else (some false)))) = some r := H
  have A4 := Aside0.mk A40
  clear A40
  replace H := Option.bind_eq_some_iff.mp H
  obtain ⟨⟨t264, t265⟩, A50, H⟩ := H
  replace H : ((quipulaw09_awake.f).bind fun t266 => (if t266 = true then (if a0.size + 8 ≤ 9223372036854775807 then (if (a0 ++ (⟨#[59, 32, 122, 101, 114, 111, 58, 32]⟩ : ByteArray)).size + a1.size ≤ 9223372036854775807 then ((rule_Pick.f ((a0 ++ (⟨#[59, 32, 122, 101, 114, 111, 58, 32]⟩ : ByteArray)) ++ a1) a2_0 a2_1 a2_2 a2_3 a2_4 a2_5).bind fun bt267 => (quipulaw09_RuleOrder.l0 k a0 a1 t262 t263 t264 t265 bt267.1 bt267.2 0)) else (none)) else (none)) else (some false))) = some r := H
  have A5 := Aside0.mk A50
  clear A50
  replace H := Option.bind_eq_some_iff.mp H
  obtain ⟨t266, A60, H⟩ := H
  replace H : (if t266 = true then (if a0.size + 8 ≤ 9223372036854775807 then (if (a0 ++ (⟨#[59, 32, 122, 101, 114, 111, 58, 32]⟩ : ByteArray)).size + a1.size ≤ 9223372036854775807 then ((rule_Pick.f ((a0 ++ (⟨#[59, 32, 122, 101, 114, 111, 58, 32]⟩ : ByteArray)) ++ a1) a2_0 a2_1 a2_2 a2_3 a2_4 a2_5).bind fun bt267 => (quipulaw09_RuleOrder.l0 k a0 a1 t262 t263 t264 t265 bt267.1 bt267.2 0)) else (none)) else (none)) else (some false)) = some r := H
  have A6 := Aside0.mk A60
  clear A60
  by_cases c7 : t266 = true
  · subst c7
    have H1 : (if a0.size + 8 ≤ 9223372036854775807 then (if (a0 ++ (⟨#[59, 32, 122, 101, 114, 111, 58, 32]⟩ : ByteArray)).size + a1.size ≤ 9223372036854775807 then ((rule_Pick.f ((a0 ++ (⟨#[59, 32, 122, 101, 114, 111, 58, 32]⟩ : ByteArray)) ++ a1) a2_0 a2_1 a2_2 a2_3 a2_4 a2_5).bind fun bt267 => (quipulaw09_RuleOrder.l0 k a0 a1 t262 t263 t264 t265 bt267.1 bt267.2 0)) else (none)) else (none)) = some r := by rw [if_pos rfl] at H; exact H
    clear H
    have H := H1
    clear H1
    by_cases c8 : a0.size + 8 ≤ 9223372036854775807
    · rw [if_pos c8] at H
      have c8b0 := eq_true c8
      have c8b1 : decide (a0.size + 8 ≤ 9223372036854775807) = true := decide_eq_true c8
      try have c8b2 : (9223372036854775807 < a0.size + 8) = False := eq_false (Nat.not_lt.2 c8)
      by_cases c9 : (a0 ++ (⟨#[59, 32, 122, 101, 114, 111, 58, 32]⟩ : ByteArray)).size + a1.size ≤ 9223372036854775807
      · rw [if_pos c9] at H
        have c9b0 := eq_true c9
        have c9b1 : decide ((a0 ++ (⟨#[59, 32, 122, 101, 114, 111, 58, 32]⟩ : ByteArray)).size + a1.size ≤ 9223372036854775807) = true := decide_eq_true c9
        (try (have c9n := c9; simp only [ByteArray.size_extract, ByteArray.size_append] at c9n; have c9n0 := eq_true c9n; have c9n1 := decide_eq_true c9n; (try have c9n2 := eq_false (Nat.not_lt.2 c9n))))
        (try (have c9m := c9; simp at c9m; have c9m0 := eq_true c9m; have c9m1 := decide_eq_true c9m; (try have c9m2 := eq_false (Nat.not_lt.2 c9m))))
        try have c9b2 : (9223372036854775807 < (a0 ++ (⟨#[59, 32, 122, 101, 114, 111, 58, 32]⟩ : ByteArray)).size + a1.size) = False := eq_false (Nat.not_lt.2 c9)
        replace H := Option.bind_eq_some_iff.mp H
        obtain ⟨⟨t267, t268⟩, A100, H⟩ := H
        replace H : (quipulaw09_RuleOrder.l0 k a0 a1 t262 t263 t264 t265 t267 t268 0) = some r := H
        have A10 := Aside0.mk A100
        clear A100
        have H' := Aside0.mk H
        clear H
        go_enter Tryd.func5, Tryd.ntmps5
        go_wp2_with (first | ((with_reducible refine gate_dst (N := 5) rfl ?_); refine box_event ?hg (N := 5) ?hd (cs := #[.string a2_0, .int .i64 a2_1, .int .i64 a2_2, .string a2_3, .string a2_4, .int .i64 a2_5]) (t := 29) ?hr ?_; (case hd => rfl); (case hg => rfl); (case hr => first | (go_simp; done) | (go_simp; rfl)); intro gb261 hg w11 hbox hb; have n0_ := Aside0.mk (below_step (by repeat (first | (with_reducible first | exact HB.out | apply below_alloc | apply pw_below_drewN | apply below_drew1) | exact HB.out)) hb); have n1_ := Aside0.mk (hbox); have n2_ := Aside0.mk ((by rw [hg]; exact (below_size (by repeat (first | (with_reducible first | exact HB.out | apply below_alloc | apply pw_below_drewN | apply below_drew1) | exact HB.out))) : w.heap.size ≤ gb261)); have n3_ := Aside0.mk ((by rw [hg]; exact (below_size (by repeat (first | (with_reducible first | exact HB.out | apply below_alloc | apply pw_below_drewN | apply below_drew1) | exact HB.out))) : w.heap.size ≤ gb261)); clear HB; have HB := n0_; have BK261 := n1_; have GW261 := n2_; have GE261 := n3_; clear n0_ n1_ n2_ n3_; clear hb hbox hg; have hcz12_0 : w11.cell? ⟨gb261, 0, none⟩ = some (.string a2_0) := (blk_cell BK261.out 0).trans rfl; have hcz12_1 : w11.cell? ⟨gb261, 1, none⟩ = some (.int .i64 a2_1) := (blk_cell BK261.out 1).trans rfl; have hcz12_2 : w11.cell? ⟨gb261, 2, none⟩ = some (.int .i64 a2_2) := (blk_cell BK261.out 2).trans rfl; have hcz12_3 : w11.cell? ⟨gb261, 3, none⟩ = some (.string a2_3) := (blk_cell BK261.out 3).trans rfl; have hcz12_4 : w11.cell? ⟨gb261, 4, none⟩ = some (.string a2_4) := (blk_cell BK261.out 4).trans rfl; have hcz12_5 : w11.cell? ⟨gb261, 5, none⟩ = some (.int .i64 a2_5) := (blk_cell BK261.out 5).trans rfl; have hfz12_0 := blk_frozen BK261.out 0; have hfz12_1 := blk_frozen BK261.out 1; have hfz12_2 := blk_frozen BK261.out 2; have hfz12_3 := blk_frozen BK261.out 3; have hfz12_4 := blk_frozen BK261.out 4; have hfz12_5 := blk_frozen BK261.out 5) | ((with_reducible refine gate_callee (f := 16) rfl ?_); refine goesL_ (some 17) rfl rfl Tryd.func16 (by kernel_rfl) rfl #[.string a0, .agg #[.string a2_0, .int .i64 a2_1, .int .i64 a2_2, .string a2_3, .string a2_4, .int .i64 a2_5]] rfl (by (try simp only [List.map_toArray, List.map_cons, List.map_nil]); first | done | rfl | (simp only [List.length_drop, List.length_take]; rfl)) ?_; (with_reducible refine (rule_Pick.calls a0 a2_0 a2_1 a2_2 a2_3 a2_4 a2_5 t262 t263 _ (Gd.below HG.out (by repeat (first | (with_reducible first | exact HB.out | apply below_alloc | apply pw_below_drewN | apply below_drew1 | refine below_set ?_ GE261.out) | exact HB.out))) A4.out).mono ?_); rintro e w13 ⟨rfl, hb⟩; refine ⟨_, rfl, ?_⟩; have n0_ := Aside0.mk (blk_below (g := gb261) (o := .cells #[.string a2_0, .int .i64 a2_1, .int .i64 a2_2, .string a2_3, .string a2_4, .int .i64 a2_5] 29 (0, 0)) (by (with_reducible repeat (first | refine blk_drewN ?_ _ | refine blk_drew ?_ | refine blk_alloc ?_ _)); exact BK261.out) hb); have n1_ := Aside0.mk (below_step (by repeat (first | (with_reducible first | exact HB.out | apply below_alloc | apply pw_below_drewN | apply below_drew1 | refine below_set ?_ GE261.out) | exact HB.out)) hb); clear BK261; clear HB; have BK261 := n0_; have HB := n1_; clear n0_ n1_; (try clear hb); (try clear hb2); (try clear hk); (try clear hi); have hcz14_0 : w13.cell? ⟨gb261, 0, none⟩ = some (.string a2_0) := (blk_cell BK261.out 0).trans rfl; have hcz14_1 : w13.cell? ⟨gb261, 1, none⟩ = some (.int .i64 a2_1) := (blk_cell BK261.out 1).trans rfl; have hcz14_2 : w13.cell? ⟨gb261, 2, none⟩ = some (.int .i64 a2_2) := (blk_cell BK261.out 2).trans rfl; have hcz14_3 : w13.cell? ⟨gb261, 3, none⟩ = some (.string a2_3) := (blk_cell BK261.out 3).trans rfl; have hcz14_4 : w13.cell? ⟨gb261, 4, none⟩ = some (.string a2_4) := (blk_cell BK261.out 4).trans rfl; have hcz14_5 : w13.cell? ⟨gb261, 5, none⟩ = some (.int .i64 a2_5) := (blk_cell BK261.out 5).trans rfl; have hfz14_0 := blk_frozen BK261.out 0; have hfz14_1 := blk_frozen BK261.out 1; have hfz14_2 := blk_frozen BK261.out 2; have hfz14_3 := blk_frozen BK261.out 3; have hfz14_4 := blk_frozen BK261.out 4; have hfz14_5 := blk_frozen BK261.out 5) | ((with_reducible refine gate_callee (f := 13) rfl ?_); refine goesL_ (some 23) rfl rfl Tryd.func13 (by kernel_rfl) rfl #[.string a1, .agg #[.string a2_0, .int .i64 a2_1, .int .i64 a2_2, .string a2_3, .string a2_4, .int .i64 a2_5]] rfl (by (try simp only [List.map_toArray, List.map_cons, List.map_nil]); first | done | rfl | (simp only [List.length_drop, List.length_take]; rfl)) ?_; (with_reducible refine (quipulaw09_alone.calls a1 a2_0 a2_1 a2_2 a2_3 a2_4 a2_5 t264 t265 _ (Gd.below HG.out (by repeat (first | (with_reducible first | exact HB.out | apply below_alloc | apply pw_below_drewN | apply below_drew1 | refine below_set ?_ GE261.out) | exact HB.out))) A5.out).mono ?_); rintro e w15 ⟨rfl, hb⟩; refine ⟨_, rfl, ?_⟩; have n0_ := Aside0.mk (blk_below (g := gb261) (o := .cells #[.string a2_0, .int .i64 a2_1, .int .i64 a2_2, .string a2_3, .string a2_4, .int .i64 a2_5] 29 (0, 0)) (by (with_reducible repeat (first | refine blk_drewN ?_ _ | refine blk_drew ?_ | refine blk_alloc ?_ _)); exact BK261.out) hb); have n1_ := Aside0.mk (below_step (by repeat (first | (with_reducible first | exact HB.out | apply below_alloc | apply pw_below_drewN | apply below_drew1 | refine below_set ?_ GE261.out) | exact HB.out)) hb); clear BK261; clear HB; have BK261 := n0_; have HB := n1_; clear n0_ n1_; (try clear hb); (try clear hb2); (try clear hk); (try clear hi)) | ((with_reducible refine gate_callee (f := 10) rfl ?_); refine goesL_ (some 26) rfl rfl Tryd.func10 (by kernel_rfl) rfl #[] rfl (by (try simp only [List.map_toArray, List.map_cons, List.map_nil]); first | done | rfl | (simp only [List.length_drop, List.length_take]; rfl)) ?_; (with_reducible refine (quipulaw09_awake.calls  true _ (Gd.below HG.out (by repeat (first | (with_reducible first | exact HB.out | apply below_alloc | apply pw_below_drewN | apply below_drew1 | refine below_set ?_ GE261.out) | exact HB.out))) A6.out).mono ?_); rintro e w16 ⟨rfl, hb⟩; refine ⟨_, rfl, ?_⟩; have n0_ := Aside0.mk (blk_below (g := gb261) (o := .cells #[.string a2_0, .int .i64 a2_1, .int .i64 a2_2, .string a2_3, .string a2_4, .int .i64 a2_5] 29 (0, 0)) (by (with_reducible repeat (first | refine blk_drewN ?_ _ | refine blk_drew ?_ | refine blk_alloc ?_ _)); exact BK261.out) hb); have n1_ := Aside0.mk (below_step (by repeat (first | (with_reducible first | exact HB.out | apply below_alloc | apply pw_below_drewN | apply below_drew1 | refine below_set ?_ GE261.out) | exact HB.out)) hb); clear BK261; clear HB; have BK261 := n0_; have HB := n1_; clear n0_ n1_; (try clear hb); (try clear hb2); (try clear hk); (try clear hi); have hcz17_0 : w16.cell? ⟨gb261, 0, none⟩ = some (.string a2_0) := (blk_cell BK261.out 0).trans rfl; have hcz17_1 : w16.cell? ⟨gb261, 1, none⟩ = some (.int .i64 a2_1) := (blk_cell BK261.out 1).trans rfl; have hcz17_2 : w16.cell? ⟨gb261, 2, none⟩ = some (.int .i64 a2_2) := (blk_cell BK261.out 2).trans rfl; have hcz17_3 : w16.cell? ⟨gb261, 3, none⟩ = some (.string a2_3) := (blk_cell BK261.out 3).trans rfl; have hcz17_4 : w16.cell? ⟨gb261, 4, none⟩ = some (.string a2_4) := (blk_cell BK261.out 4).trans rfl; have hcz17_5 : w16.cell? ⟨gb261, 5, none⟩ = some (.int .i64 a2_5) := (blk_cell BK261.out 5).trans rfl; have hfz17_0 := blk_frozen BK261.out 0; have hfz17_1 := blk_frozen BK261.out 1; have hfz17_2 := blk_frozen BK261.out 2; have hfz17_3 := blk_frozen BK261.out 3; have hfz17_4 := blk_frozen BK261.out 4; have hfz17_5 := blk_frozen BK261.out 5) | ((with_reducible refine gate_callee (f := 16) rfl ?_); refine goesL_ (some 34) rfl rfl Tryd.func16 (by kernel_rfl) rfl #[.string ((a0 ++ (⟨#[59, 32, 122, 101, 114, 111, 58, 32]⟩ : ByteArray)) ++ a1), .agg #[.string a2_0, .int .i64 a2_1, .int .i64 a2_2, .string a2_3, .string a2_4, .int .i64 a2_5]] rfl (by (try simp only [List.map_toArray, List.map_cons, List.map_nil]); first | done | rfl | (simp only [List.length_drop, List.length_take]; rfl)) ?_; (with_reducible refine (rule_Pick.calls ((a0 ++ (⟨#[59, 32, 122, 101, 114, 111, 58, 32]⟩ : ByteArray)) ++ a1) a2_0 a2_1 a2_2 a2_3 a2_4 a2_5 t267 t268 _ (Gd.below HG.out (by repeat (first | (with_reducible first | exact HB.out | apply below_alloc | apply pw_below_drewN | apply below_drew1 | refine below_set ?_ GE261.out) | exact HB.out))) A10.out).mono ?_); rintro e w18 ⟨rfl, hb⟩; refine ⟨_, rfl, ?_⟩; have n0_ := Aside0.mk (blk_below (g := gb261) (o := .cells #[.string a2_0, .int .i64 a2_1, .int .i64 a2_2, .string a2_3, .string a2_4, .int .i64 a2_5] 29 (0, 0)) (by (with_reducible repeat (first | refine blk_drewN ?_ _ | refine blk_drew ?_ | refine blk_alloc ?_ _)); exact BK261.out) hb); have n1_ := Aside0.mk (below_step (by repeat (first | (with_reducible first | exact HB.out | apply below_alloc | apply pw_below_drewN | apply below_drew1 | refine below_set ?_ GE261.out) | exact HB.out)) hb); clear BK261; clear HB; have BK261 := n0_; have HB := n1_; clear n0_ n1_; (try clear hb); (try clear hb2); (try clear hk); (try clear hi)))
        go_loopg [13] k (fun kq v13 w' => ∃ (x13_1 : Int), v13 = .int .i64 x13_1 ∧ Aside0 (quipulaw09_RuleOrder.l0 kq a0 a1 t262 t263 t264 t265 t267 t268 x13_1 = some r) ∧ Aside0 (kq ≤ k) ∧ Aside0 (w'.heap[gb261]? = some (.cells #[.string a2_0, .int .i64 a2_1, .int .i64 a2_2, .string a2_3, .string a2_4, .int .i64 a2_5] 29 (0, 0))) ∧ Aside0 (Below w.heap.size w w'))
        case atStart => exact ⟨(0), (by first | rfl | (simp; done) | (simp [*]; done)), H', ⟨Nat.le_refl _⟩, ⟨by (with_reducible repeat (first | refine blk_drewN ?_ _ | refine blk_drew ?_ | refine blk_alloc ?_ _)); exact BK261.out⟩, ⟨by repeat (first | (with_reducible first | exact HB.out | apply below_alloc | apply pw_below_drewN | apply below_drew1 | refine below_set ?_ GE261.out) | exact HB.out)⟩⟩
        case round =>
          clear H'
          try clear c1
          try clear p2
          try clear c5
          try clear c7
          try clear c8
          try clear c8b0
          try clear c8b1
          try clear c8b2
          try clear c9
          try clear c9b0
          try clear c9b1
          try clear c9b2
          try clear c10
          try clear c13
          try clear c16
          try clear hcz12_0
          try clear hcz12_1
          try clear hcz12_2
          try clear hcz12_3
          try clear hcz12_4
          try clear hcz12_5
          try clear hcz14_0
          try clear hcz14_1
          try clear hcz14_2
          try clear hcz14_3
          try clear hcz14_4
          try clear hcz14_5
          try clear hcz17_0
          try clear hcz17_1
          try clear hcz17_2
          try clear hcz17_3
          try clear hcz17_4
          try clear hcz17_5
          try clear hfz12_0
          try clear hfz12_1
          try clear hfz12_2
          try clear hfz12_3
          try clear hfz12_4
          try clear hfz12_5
          try clear hfz14_0
          try clear hfz14_1
          try clear hfz14_2
          try clear hfz14_3
          try clear hfz14_4
          try clear hfz14_5
          try clear hfz17_0
          try clear hfz17_1
          try clear hfz17_2
          try clear hfz17_3
          try clear hfz17_4
          try clear hfz17_5
          obtain ⟨x13_1, rfl, HA, HK1, BK261, HB⟩ := hrel
          cases gk with
          | zero => exact absurd HA.out (by simp [quipulaw09_RuleOrder.l0])
          | succ k1 =>
            have H := HA.out
            clear HA
            simp only [quipulaw09_RuleOrder.l0] at H
            by_cases c19 : x13_1 < (a1.size : Int)
            · rw [if_pos c19] at H
              have c19b0 : decide (x13_1 < (a1.size : Int)) = true := decide_eq_true c19
              clear c19
              by_cases c20 : 0 ≤ x13_1
              · rw [if_pos c20] at H
                have c20b0 : decide (0 ≤ x13_1) = true := decide_eq_true c20
                clear c20
                by_cases c22 : (bt a1 x13_1) = 59
                · rw [if_pos c22] at H
                  have c22b0 : ((bt a1 x13_1) == 59) = true := beq_iff_eq.mpr c22
                  have c22b1 : ((bt a1 x13_1) != 59) = false := bne_eq_false_iff_eq.mpr c22
                  clear c22
                  obtain rfl := Option.some.inj H
                  have p21 : 0 ≤ (x13_1 : Int) := of_decide_eq_true (by first | (with_reducible assumption) | assumption)
                  have q21 : x13_1 < (a1.size : Int) := of_decide_eq_true (by first | (with_reducible assumption) | assumption)
                  have hx21 := bt_at a1 x13_1
                  replace p21 := eq_true p21
                  replace q21 := eq_true q21
                  go_wp2
                  go_ret
                  exact ⟨by first | rfl | (simp [errW_none, errW_some] <;> rfl) | (simp [*, errW_none, errW_some] <;> rfl) | (simp only [ne_nil_b]; first | done | rfl) | (simp [ne_nil_b]; done), by repeat (first | (with_reducible first | exact HB.out | apply below_alloc | apply pw_below_drewN | apply below_drew1 | refine below_set ?_ GE261.out) | exact HB.out)⟩
                · rw [if_neg c22] at H
                  have c22b0 : ((bt a1 x13_1) == 59) = false := beq_eq_false_iff_ne.mpr c22
                  have c22b1 : ((bt a1 x13_1) != 59) = true := bne_iff_ne.mpr c22
                  have H' := Aside0.mk H
                  clear H
                  have p21 : 0 ≤ (x13_1 : Int) := of_decide_eq_true (by first | (with_reducible assumption) | assumption)
                  have q21 : x13_1 < (a1.size : Int) := of_decide_eq_true (by first | (with_reducible assumption) | assumption)
                  have hx21 := bt_at a1 x13_1
                  replace p21 := eq_true p21
                  replace q21 := eq_true q21
                  go_wp2
                  go_roundg k1
                  case measure => have := HK1.out; omega
                  case rel => exact ⟨(wrap64 (x13_1 + 1)), (by first | rfl | (simp; done) | (simp [*]; done)), H', ⟨by have := HK1.out; omega⟩, ⟨by (with_reducible repeat (first | refine blk_drewN ?_ _ | refine blk_drew ?_ | refine blk_alloc ?_ _)); exact BK261.out⟩, ⟨by repeat (first | (with_reducible first | exact HB.out | apply below_alloc | apply pw_below_drewN | apply below_drew1 | refine below_set ?_ GE261.out) | exact HB.out)⟩⟩
              · rw [if_neg c20] at H
                exact absurd H (by simp)
            · rw [if_neg c19] at H
              have c19b0 : decide (x13_1 < (a1.size : Int)) = false := decide_eq_false c19
              clear c19
              have HC23 := Aside0.mk H
              clear H
              go_upto_region 11 with (fail)
              go_cut [60] (fun v60 wc => ∃ (kq : Nat) (x60_22 : Bool), v60 = .bool x60_22 ∧ Aside0 (quipulaw09_RuleOrder.j1 kq t262 t264 t267 x60_22 = some r) ∧ Aside0 (kq ≤ k1) ∧ Aside0 (wc.heap[gb261]? = some (.cells #[.string a2_0, .int .i64 a2_1, .int .i64 a2_2, .string a2_3, .string a2_4, .int .i64 a2_5] 29 (0, 0))) ∧ Aside0 (Below w.heap.size w wc))
              case first =>
                have H := HC23.out
                clear HC23
                by_cases c24 : t263 = 0
                · rw [if_pos c24] at H
                  have c24b0 : (t263 == 0) = true := beq_iff_eq.mpr c24
                  have c24b1 : (t263 != 0) = false := bne_eq_false_iff_eq.mpr c24
                  clear c24
                  (first | rw [c24b0] | rw [c24b1] | (simp only [i64_w, i32_w]; rw [c24b0]) | skip)
                  by_cases c25 : t268 = 0
                  · rw [if_pos c25] at H
                    have c25b0 : (t268 == 0) = true := beq_iff_eq.mpr c25
                    have c25b1 : (t268 != 0) = false := bne_eq_false_iff_eq.mpr c25
                    clear c25
                    by_cases c26 : t265 = true
                    · subst c26
                      have H1 : (quipulaw09_RuleOrder.j1 k1 t262 t264 t267 (a0.toList == ([] : List UInt8))) = some r := by rw [if_pos rfl] at H; exact H
                      clear H
                      have H := H1
                      clear H1
                      have H' := Aside0.mk H
                      clear H
                      go_wp2
                      go_meet
                      case rel => exact ⟨_, ((a0.toList == ([] : List UInt8))), (by first | rfl | (simp; done) | (simp [*]; done)), H', ⟨by have := HK1.out; first | omega | exact Nat.le_refl _⟩, ⟨by (with_reducible repeat (first | refine blk_drewN ?_ _ | refine blk_drew ?_ | refine blk_alloc ?_ _)); exact BK261.out⟩, ⟨by repeat (first | (with_reducible first | exact HB.out | apply below_alloc | apply pw_below_drewN | apply below_drew1 | refine below_set ?_ GE261.out) | exact HB.out)⟩⟩
                    · replace c26 := Bool.eq_false_iff.mpr c26
                      subst c26
                      have H1 : (quipulaw09_RuleOrder.j1 k1 t262 t264 t267 true) = some r := by rw [if_neg (show ¬ (false = true) by decide)] at H; exact H
                      clear H
                      have H := H1
                      clear H1
                      have H' := Aside0.mk H
                      clear H
                      go_wp2
                      go_meet
                      case rel => exact ⟨_, (true), (by first | rfl | (simp; done) | (simp [*]; done)), H', ⟨by have := HK1.out; first | omega | exact Nat.le_refl _⟩, ⟨by (with_reducible repeat (first | refine blk_drewN ?_ _ | refine blk_drew ?_ | refine blk_alloc ?_ _)); exact BK261.out⟩, ⟨by repeat (first | (with_reducible first | exact HB.out | apply below_alloc | apply pw_below_drewN | apply below_drew1 | refine below_set ?_ GE261.out) | exact HB.out)⟩⟩
                  · rw [if_neg c25] at H
                    have c25b0 : (t268 == 0) = false := beq_eq_false_iff_ne.mpr c25
                    have c25b1 : (t268 != 0) = true := bne_iff_ne.mpr c25
                    have H' := Aside0.mk H
                    clear H
                    go_wp2
                    go_meet
                    case rel => exact ⟨_, (true), (by first | rfl | (simp; done) | (simp [*]; done)), H', ⟨by have := HK1.out; first | omega | exact Nat.le_refl _⟩, ⟨by (with_reducible repeat (first | refine blk_drewN ?_ _ | refine blk_drew ?_ | refine blk_alloc ?_ _)); exact BK261.out⟩, ⟨by repeat (first | (with_reducible first | exact HB.out | apply below_alloc | apply pw_below_drewN | apply below_drew1 | refine below_set ?_ GE261.out) | exact HB.out)⟩⟩
                · rw [if_neg c24] at H
                  have c24b0 : (t263 == 0) = false := beq_eq_false_iff_ne.mpr c24
                  have c24b1 : (t263 != 0) = true := bne_iff_ne.mpr c24
                  (first | rw [c24b0] | rw [c24b1] | (simp only [i64_w, i32_w]; rw [c24b0]) | skip)
                  have H' := Aside0.mk H
                  clear H
                  go_wp2
                  go_meet
                  case rel => exact ⟨_, (true), (by first | rfl | (simp; done) | (simp [*]; done)), H', ⟨by have := HK1.out; first | omega | exact Nat.le_refl _⟩, ⟨by (with_reducible repeat (first | refine blk_drewN ?_ _ | refine blk_drew ?_ | refine blk_alloc ?_ _)); exact BK261.out⟩, ⟨by repeat (first | (with_reducible first | exact HB.out | apply below_alloc | apply pw_below_drewN | apply below_drew1 | refine below_set ?_ GE261.out) | exact HB.out)⟩⟩
              case rest =>
                clear HC23
                try clear c1
                try clear c2
                try clear p2
                try clear q2
                try clear hx2
                try clear c5
                try clear p6
                try clear c7
                try clear c8
                try clear c8b0
                try clear c8b1
                try clear c8b2
                try clear c9
                try clear c9b0
                try clear c9b1
                try clear c9b2
                try clear c10
                try clear c13
                try clear c16
                try clear c19
                try clear c19b0
                try clear c20
                try clear c20b0
                try clear p21
                try clear q21
                try clear hx21
                try clear c22
                try clear c22b0
                try clear c22b1
                try clear c24
                try clear c24b0
                try clear c24b1
                try clear c25
                try clear c25b0
                try clear c25b1
                try clear c26
                try clear hcz12_0
                try clear hcz12_1
                try clear hcz12_2
                try clear hcz12_3
                try clear hcz12_4
                try clear hcz12_5
                try clear hcz14_0
                try clear hcz14_1
                try clear hcz14_2
                try clear hcz14_3
                try clear hcz14_4
                try clear hcz14_5
                try clear hcz17_0
                try clear hcz17_1
                try clear hcz17_2
                try clear hcz17_3
                try clear hcz17_4
                try clear hcz17_5
                try clear hfz12_0
                try clear hfz12_1
                try clear hfz12_2
                try clear hfz12_3
                try clear hfz12_4
                try clear hfz12_5
                try clear hfz14_0
                try clear hfz14_1
                try clear hfz14_2
                try clear hfz14_3
                try clear hfz14_4
                try clear hfz14_5
                try clear hfz17_0
                try clear hfz17_1
                try clear hfz17_2
                try clear hfz17_3
                try clear hfz17_4
                try clear hfz17_5
                try clear p2
                try clear p21
                try clear q21
                obtain ⟨kq, x60_22, rfl, HA, HJ22, BK261, HB⟩ := hcut
                cases kq with
                | zero => exact absurd HA.out (by simp [quipulaw09_RuleOrder.j1])
                | succ kj22 =>
                  have H := HA.out
                  clear HA
                  simp only [quipulaw09_RuleOrder.j1] at H
                  by_cases c27 : x60_22 = true
                  · subst c27
                    have H1 : (some true) = some r := by rw [if_pos rfl] at H; exact H
                    clear H
                    have H := H1
                    clear H1
                    obtain rfl := Option.some.inj H
                    go_wp2
                    go_ret
                    exact ⟨by first | rfl | (simp [errW_none, errW_some] <;> rfl) | (simp [*, errW_none, errW_some] <;> rfl) | (simp only [ne_nil_b]; first | done | rfl) | (simp [ne_nil_b]; done), by repeat (first | (with_reducible first | exact HB.out | apply below_alloc | apply pw_below_drewN | apply below_drew1 | refine below_set ?_ GE261.out) | exact HB.out)⟩
                  · replace c27 := Bool.eq_false_iff.mpr c27
                    subst c27
                    have H1 : (if t262 = 5 then (if t264 = true then (if t267 = 0 then (some true) else (some false)) else (some (t267 == 5))) else (some (t267 == t262))) = some r := by rw [if_neg (show ¬ (false = true) by decide)] at H; exact H
                    clear H
                    have H := H1
                    clear H1
                    by_cases c28 : t262 = 5
                    · rw [if_pos c28] at H
                      have c28b0 : (t262 == 5) = true := beq_iff_eq.mpr c28
                      have c28b1 : (t262 != 5) = false := bne_eq_false_iff_eq.mpr c28
                      clear c28
                      by_cases c29 : t264 = true
                      · subst c29
                        have H1 : (if t267 = 0 then (some true) else (some false)) = some r := by rw [if_pos rfl] at H; exact H
                        clear H
                        have H := H1
                        clear H1
                        by_cases c30 : t267 = 0
                        · rw [if_pos c30] at H
                          have c30b0 : (t267 == 0) = true := beq_iff_eq.mpr c30
                          have c30b1 : (t267 != 0) = false := bne_eq_false_iff_eq.mpr c30
                          clear c30
                          obtain rfl := Option.some.inj H
                          go_wp2
                          go_ret
                          exact ⟨by first | rfl | (simp [errW_none, errW_some] <;> rfl) | (simp [*, errW_none, errW_some] <;> rfl) | (simp only [ne_nil_b]; first | done | rfl) | (simp [ne_nil_b]; done), by repeat (first | (with_reducible first | exact HB.out | apply below_alloc | apply pw_below_drewN | apply below_drew1 | refine below_set ?_ GE261.out) | exact HB.out)⟩
                        · rw [if_neg c30] at H
                          have c30b0 : (t267 == 0) = false := beq_eq_false_iff_ne.mpr c30
                          have c30b1 : (t267 != 0) = true := bne_iff_ne.mpr c30
                          obtain rfl := Option.some.inj H
                          go_wp2
                          go_ret
                          exact ⟨by first | rfl | (simp [errW_none, errW_some] <;> rfl) | (simp [*, errW_none, errW_some] <;> rfl) | (simp only [ne_nil_b]; first | done | rfl) | (simp [ne_nil_b]; done), by repeat (first | (with_reducible first | exact HB.out | apply below_alloc | apply pw_below_drewN | apply below_drew1 | refine below_set ?_ GE261.out) | exact HB.out)⟩
                      · replace c29 := Bool.eq_false_iff.mpr c29
                        subst c29
                        have H1 : (some (t267 == 5)) = some r := by rw [if_neg (show ¬ (false = true) by decide)] at H; exact H
                        clear H
                        have H := H1
                        clear H1
                        obtain rfl := Option.some.inj H
                        go_wp2
                        go_ret
                        exact ⟨by first | rfl | (simp [errW_none, errW_some] <;> rfl) | (simp [*, errW_none, errW_some] <;> rfl) | (simp only [ne_nil_b]; first | done | rfl) | (simp [ne_nil_b]; done), by repeat (first | (with_reducible first | exact HB.out | apply below_alloc | apply pw_below_drewN | apply below_drew1 | refine below_set ?_ GE261.out) | exact HB.out)⟩
                    · rw [if_neg c28] at H
                      have c28b0 : (t262 == 5) = false := beq_eq_false_iff_ne.mpr c28
                      have c28b1 : (t262 != 5) = true := bne_iff_ne.mpr c28
                      obtain rfl := Option.some.inj H
                      go_wp2
                      go_ret
                      exact ⟨by first | rfl | (simp [errW_none, errW_some] <;> rfl) | (simp [*, errW_none, errW_some] <;> rfl) | (simp only [ne_nil_b]; first | done | rfl) | (simp [ne_nil_b]; done), by repeat (first | (with_reducible first | exact HB.out | apply below_alloc | apply pw_below_drewN | apply below_drew1 | refine below_set ?_ GE261.out) | exact HB.out)⟩
      · rw [if_neg c9] at H
        exact absurd H (by simp)
    · rw [if_neg c8] at H
      exact absurd H (by simp)
  · replace c7 := Bool.eq_false_iff.mpr c7
    subst c7
    have H1 : (some false) = some r := by rw [if_neg (show ¬ (false = true) by decide)] at H; exact H
    clear H
    have H := H1
    clear H1
    obtain rfl := Option.some.inj H
    go_enter Tryd.func5, Tryd.ntmps5
    go_wp2_with (first | ((with_reducible refine gate_dst (N := 5) rfl ?_); refine box_event ?hg (N := 5) ?hd (cs := #[.string a2_0, .int .i64 a2_1, .int .i64 a2_2, .string a2_3, .string a2_4, .int .i64 a2_5]) (t := 29) ?hr ?_; (case hd => rfl); (case hg => rfl); (case hr => first | (go_simp; done) | (go_simp; rfl)); intro gb261 hg w31 hbox hb; have n0_ := Aside0.mk (below_step (by repeat (first | (with_reducible first | exact HB.out | apply below_alloc | apply pw_below_drewN | apply below_drew1) | exact HB.out)) hb); have n1_ := Aside0.mk (hbox); have n2_ := Aside0.mk ((by rw [hg]; exact (below_size (by repeat (first | (with_reducible first | exact HB.out | apply below_alloc | apply pw_below_drewN | apply below_drew1) | exact HB.out))) : w.heap.size ≤ gb261)); have n3_ := Aside0.mk ((by rw [hg]; exact (below_size (by repeat (first | (with_reducible first | exact HB.out | apply below_alloc | apply pw_below_drewN | apply below_drew1) | exact HB.out))) : w.heap.size ≤ gb261)); clear HB; have HB := n0_; have BK261 := n1_; have GW261 := n2_; have GE261 := n3_; clear n0_ n1_ n2_ n3_; clear hb hbox hg; have hcz32_0 : w31.cell? ⟨gb261, 0, none⟩ = some (.string a2_0) := (blk_cell BK261.out 0).trans rfl; have hcz32_1 : w31.cell? ⟨gb261, 1, none⟩ = some (.int .i64 a2_1) := (blk_cell BK261.out 1).trans rfl; have hcz32_2 : w31.cell? ⟨gb261, 2, none⟩ = some (.int .i64 a2_2) := (blk_cell BK261.out 2).trans rfl; have hcz32_3 : w31.cell? ⟨gb261, 3, none⟩ = some (.string a2_3) := (blk_cell BK261.out 3).trans rfl; have hcz32_4 : w31.cell? ⟨gb261, 4, none⟩ = some (.string a2_4) := (blk_cell BK261.out 4).trans rfl; have hcz32_5 : w31.cell? ⟨gb261, 5, none⟩ = some (.int .i64 a2_5) := (blk_cell BK261.out 5).trans rfl; have hfz32_0 := blk_frozen BK261.out 0; have hfz32_1 := blk_frozen BK261.out 1; have hfz32_2 := blk_frozen BK261.out 2; have hfz32_3 := blk_frozen BK261.out 3; have hfz32_4 := blk_frozen BK261.out 4; have hfz32_5 := blk_frozen BK261.out 5) | ((with_reducible refine gate_callee (f := 16) rfl ?_); refine goesL_ (some 17) rfl rfl Tryd.func16 (by kernel_rfl) rfl #[.string a0, .agg #[.string a2_0, .int .i64 a2_1, .int .i64 a2_2, .string a2_3, .string a2_4, .int .i64 a2_5]] rfl (by (try simp only [List.map_toArray, List.map_cons, List.map_nil]); first | done | rfl | (simp only [List.length_drop, List.length_take]; rfl)) ?_; (with_reducible refine (rule_Pick.calls a0 a2_0 a2_1 a2_2 a2_3 a2_4 a2_5 t262 t263 _ (Gd.below HG.out (by repeat (first | (with_reducible first | exact HB.out | apply below_alloc | apply pw_below_drewN | apply below_drew1 | refine below_set ?_ GE261.out) | exact HB.out))) A4.out).mono ?_); rintro e w33 ⟨rfl, hb⟩; refine ⟨_, rfl, ?_⟩; have n0_ := Aside0.mk (blk_below (g := gb261) (o := .cells #[.string a2_0, .int .i64 a2_1, .int .i64 a2_2, .string a2_3, .string a2_4, .int .i64 a2_5] 29 (0, 0)) (by (with_reducible repeat (first | refine blk_drewN ?_ _ | refine blk_drew ?_ | refine blk_alloc ?_ _)); exact BK261.out) hb); have n1_ := Aside0.mk (below_step (by repeat (first | (with_reducible first | exact HB.out | apply below_alloc | apply pw_below_drewN | apply below_drew1 | refine below_set ?_ GE261.out) | exact HB.out)) hb); clear BK261; clear HB; have BK261 := n0_; have HB := n1_; clear n0_ n1_; (try clear hb); (try clear hb2); (try clear hk); (try clear hi); have hcz34_0 : w33.cell? ⟨gb261, 0, none⟩ = some (.string a2_0) := (blk_cell BK261.out 0).trans rfl; have hcz34_1 : w33.cell? ⟨gb261, 1, none⟩ = some (.int .i64 a2_1) := (blk_cell BK261.out 1).trans rfl; have hcz34_2 : w33.cell? ⟨gb261, 2, none⟩ = some (.int .i64 a2_2) := (blk_cell BK261.out 2).trans rfl; have hcz34_3 : w33.cell? ⟨gb261, 3, none⟩ = some (.string a2_3) := (blk_cell BK261.out 3).trans rfl; have hcz34_4 : w33.cell? ⟨gb261, 4, none⟩ = some (.string a2_4) := (blk_cell BK261.out 4).trans rfl; have hcz34_5 : w33.cell? ⟨gb261, 5, none⟩ = some (.int .i64 a2_5) := (blk_cell BK261.out 5).trans rfl; have hfz34_0 := blk_frozen BK261.out 0; have hfz34_1 := blk_frozen BK261.out 1; have hfz34_2 := blk_frozen BK261.out 2; have hfz34_3 := blk_frozen BK261.out 3; have hfz34_4 := blk_frozen BK261.out 4; have hfz34_5 := blk_frozen BK261.out 5) | ((with_reducible refine gate_callee (f := 13) rfl ?_); refine goesL_ (some 23) rfl rfl Tryd.func13 (by kernel_rfl) rfl #[.string a1, .agg #[.string a2_0, .int .i64 a2_1, .int .i64 a2_2, .string a2_3, .string a2_4, .int .i64 a2_5]] rfl (by (try simp only [List.map_toArray, List.map_cons, List.map_nil]); first | done | rfl | (simp only [List.length_drop, List.length_take]; rfl)) ?_; (with_reducible refine (quipulaw09_alone.calls a1 a2_0 a2_1 a2_2 a2_3 a2_4 a2_5 t264 t265 _ (Gd.below HG.out (by repeat (first | (with_reducible first | exact HB.out | apply below_alloc | apply pw_below_drewN | apply below_drew1 | refine below_set ?_ GE261.out) | exact HB.out))) A5.out).mono ?_); rintro e w35 ⟨rfl, hb⟩; refine ⟨_, rfl, ?_⟩; have n0_ := Aside0.mk (blk_below (g := gb261) (o := .cells #[.string a2_0, .int .i64 a2_1, .int .i64 a2_2, .string a2_3, .string a2_4, .int .i64 a2_5] 29 (0, 0)) (by (with_reducible repeat (first | refine blk_drewN ?_ _ | refine blk_drew ?_ | refine blk_alloc ?_ _)); exact BK261.out) hb); have n1_ := Aside0.mk (below_step (by repeat (first | (with_reducible first | exact HB.out | apply below_alloc | apply pw_below_drewN | apply below_drew1 | refine below_set ?_ GE261.out) | exact HB.out)) hb); clear BK261; clear HB; have BK261 := n0_; have HB := n1_; clear n0_ n1_; (try clear hb); (try clear hb2); (try clear hk); (try clear hi)) | ((with_reducible refine gate_callee (f := 10) rfl ?_); refine goesL_ (some 26) rfl rfl Tryd.func10 (by kernel_rfl) rfl #[] rfl (by (try simp only [List.map_toArray, List.map_cons, List.map_nil]); first | done | rfl | (simp only [List.length_drop, List.length_take]; rfl)) ?_; (with_reducible refine (quipulaw09_awake.calls  false _ (Gd.below HG.out (by repeat (first | (with_reducible first | exact HB.out | apply below_alloc | apply pw_below_drewN | apply below_drew1 | refine below_set ?_ GE261.out) | exact HB.out))) A6.out).mono ?_); rintro e w36 ⟨rfl, hb⟩; refine ⟨_, rfl, ?_⟩; have n0_ := Aside0.mk (blk_below (g := gb261) (o := .cells #[.string a2_0, .int .i64 a2_1, .int .i64 a2_2, .string a2_3, .string a2_4, .int .i64 a2_5] 29 (0, 0)) (by (with_reducible repeat (first | refine blk_drewN ?_ _ | refine blk_drew ?_ | refine blk_alloc ?_ _)); exact BK261.out) hb); have n1_ := Aside0.mk (below_step (by repeat (first | (with_reducible first | exact HB.out | apply below_alloc | apply pw_below_drewN | apply below_drew1 | refine below_set ?_ GE261.out) | exact HB.out)) hb); clear BK261; clear HB; have BK261 := n0_; have HB := n1_; clear n0_ n1_; (try clear hb); (try clear hb2); (try clear hk); (try clear hi)))
    go_ret
    exact ⟨by first | rfl | (simp [errW_none, errW_some] <;> rfl) | (simp [*, errW_none, errW_some] <;> rfl) | (simp only [ne_nil_b]; first | done | rfl) | (simp [ne_nil_b]; done), by repeat (first | (with_reducible first | exact HB.out | apply below_alloc | apply pw_below_drewN | apply below_drew1 | refine below_set ?_ GE261.out) | exact HB.out)⟩
end Go.Proofs.YtnkggincckdoiaaDoor.Q
