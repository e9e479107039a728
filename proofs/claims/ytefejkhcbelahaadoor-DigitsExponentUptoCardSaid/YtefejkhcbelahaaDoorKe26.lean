import Derived.Test.YtefejkhcbelahaaDoorKe1
import Derived.Test.YtefejkhcbelahaaDoorKe6
import Derived.Test.YtefejkhcbelahaaDoorKe11
import Derived.Test.YtefejkhcbelahaaDoorKe12
import Derived.Test.YtefejkhcbelahaaDoorKe23
namespace Go.Proofs.YtefejkhcbelahaaDoor.Q
open Go.RowKit Go.Proofs.YtefejkhcbelahaaDoorW.PrintWords Go.Proofs.YtefejkhcbelahaaDoorW.PrintLast Go.Proofs.YtefejkhcbelahaaDoorW.PrintMore
attribute [local go_sem] max2_int min2_int max_two min_two max_three min_three max_four min_four   -- for this text's walks alone
set_option linter.unusedVariables false
set_option linter.unusedSimpArgs false
mutual
def quipuref16_Exponent.j0 : Nat → Int → Int → List (S34) → ByteArray → ByteArray → ByteArray → ByteArray → ByteArray → ByteArray → ByteArray → ByteArray → ByteArray → ByteArray → ByteArray → ByteArray → ByteArray → ByteArray → ByteArray → ByteArray → ByteArray → ByteArray → ByteArray → ByteArray → ByteArray → Option ((List (S34)))
  | 0, _, _, _, _, _, _, _, _, _, _, _, _, _, _, _, _, _, _, _, _, _, _, _, _ => none
  | k + 1, x0, x1, x9, x355000, x355001, x355002, x355003, x355004, x355005, x355006, x355007, x355008, x355009, x355010, x355011, x355012, x355013, x355014, x355015, x355016, x355017, x355018, x355019, x355020 => (quipuref05_Number.f k x0).bind fun t367 => (if x0 < 0 then (if 1 ≤ (t367.size : Int) then (quipuref16_Exponent.j1 k x1 x9 (t367.extract 1 t367.size) x355000 x355001 x355002 x355003 x355004 x355005 x355006 x355007 x355008 x355009 x355010 x355011 x355012 x355013 x355014 x355015 x355016 x355017 x355018 x355019 x355020) else (none)) else (quipuref16_Exponent.j1 k x1 x9 t367 x355000 x355001 x355002 x355003 x355004 x355005 x355006 x355007 x355008 x355009 x355010 x355011 x355012 x355013 x355014 x355015 x355016 x355017 x355018 x355019 x355020))
def quipuref16_Exponent.j1 : Nat → Int → List (S34) → ByteArray → ByteArray → ByteArray → ByteArray → ByteArray → ByteArray → ByteArray → ByteArray → ByteArray → ByteArray → ByteArray → ByteArray → ByteArray → ByteArray → ByteArray → ByteArray → ByteArray → ByteArray → ByteArray → ByteArray → ByteArray → ByteArray → Option ((List (S34)))
  | 0, _, _, _, _, _, _, _, _, _, _, _, _, _, _, _, _, _, _, _, _, _, _, _, _ => none
  | k + 1, x1, x9, x10, x355000, x355001, x355002, x355003, x355004, x355005, x355006, x355007, x355008, x355009, x355010, x355011, x355012, x355013, x355014, x355015, x355016, x355017, x355018, x355019, x355020 => quipuref16_Exponent.l0 k x1 x9 x10 0 x355000 x355001 x355002 x355003 x355004 x355005 x355006 x355007 x355008 x355009 x355010 x355011 x355012 x355013 x355014 x355015 x355016 x355017 x355018 x355019 x355020
def quipuref16_Exponent.l0 : Nat → Int → List (S34) → ByteArray → Int → ByteArray → ByteArray → ByteArray → ByteArray → ByteArray → ByteArray → ByteArray → ByteArray → ByteArray → ByteArray → ByteArray → ByteArray → ByteArray → ByteArray → ByteArray → ByteArray → ByteArray → ByteArray → ByteArray → ByteArray → ByteArray → Option ((List (S34)))
  | 0, _, _, _, _, _, _, _, _, _, _, _, _, _, _, _, _, _, _, _, _, _, _, _, _, _ => none
  | k + 1, x1, x9, x10, x11, x355000, x355001, x355002, x355003, x355004, x355005, x355006, x355007, x355008, x355009, x355010, x355011, x355012, x355013, x355014, x355015, x355016, x355017, x355018, x355019, x355020 => if x11 < 99 then (if (x10.size : Int) < x1 then (if 1 + x10.size ≤ 9223372036854775807 then (quipuref16_Exponent.l0 k x1 x9 ((⟨#[48]⟩ : ByteArray) ++ x10) (wrap64 (x11 + 1)) x355000 x355001 x355002 x355003 x355004 x355005 x355006 x355007 x355008 x355009 x355010 x355011 x355012 x355013 x355014 x355015 x355016 x355017 x355018 x355019 x355020) else (none)) else ((quipuref16_Write.f x10 x355000 x355001 x355002 x355003 x355004 x355005 x355006 x355007 x355008 x355009 x355010 x355011 x355012 x355013 x355014 x355015 x355016 x355017 x355018 x355019 x355020).bind fun t368 => ((quipuref16_add.f x9 t368 8).bind fun t369 => (some t369)))) else ((quipuref16_Write.f x10 x355000 x355001 x355002 x355003 x355004 x355005 x355006 x355007 x355008 x355009 x355010 x355011 x355012 x355013 x355014 x355015 x355016 x355017 x355018 x355019 x355020).bind fun t372 => ((quipuref16_add.f x9 t372 8).bind fun t373 => (some t373)))
end
def quipuref16_Exponent.f (k : Nat) (a0 : Int) (a1 : Int) (a2 : Bool) (a3_0 : ByteArray) (a3_1 : ByteArray) (a3_2 : ByteArray) (a3_3 : ByteArray) (a3_4 : ByteArray) (a3_5 : ByteArray) (a3_6 : ByteArray) (a3_7 : ByteArray) (a3_8 : ByteArray) (a3_9 : ByteArray) (a3_10 : ByteArray) (a3_11 : ByteArray) (a3_12 : ByteArray) (a3_13 : ByteArray) (a3_14 : ByteArray) (a3_15 : ByteArray) (a3_16 : ByteArray) (a3_17 : ByteArray) (a3_18 : ByteArray) (a3_19 : ByteArray) (a3_20 : ByteArray) : Option ((List (S34))) := (quipuref16_add.f (([] : List (S34))) a3_16 6).bind fun t358 => (if a0 < 0 then ((quipuref16_add.f t358 a3_12 7).bind fun t361 => (quipuref16_Exponent.j0 k a0 a1 t361 a3_0 a3_1 a3_2 a3_3 a3_4 a3_5 a3_6 a3_7 a3_8 a3_9 a3_10 a3_11 a3_12 a3_13 a3_14 a3_15 a3_16 a3_17 a3_18 a3_19 a3_20)) else (if a2 = true then ((quipuref16_add.f t358 a3_13 7).bind fun t364 => (quipuref16_Exponent.j0 k a0 a1 t364 a3_0 a3_1 a3_2 a3_3 a3_4 a3_5 a3_6 a3_7 a3_8 a3_9 a3_10 a3_11 a3_12 a3_13 a3_14 a3_15 a3_16 a3_17 a3_18 a3_19 a3_20)) else (quipuref16_Exponent.j0 k a0 a1 t358 a3_0 a3_1 a3_2 a3_3 a3_4 a3_5 a3_6 a3_7 a3_8 a3_9 a3_10 a3_11 a3_12 a3_13 a3_14 a3_15 a3_16 a3_17 a3_18 a3_19 a3_20)))
set_option maxHeartbeats 8000000 in
set_option maxRecDepth 100000 in
theorem quipuref16_Exponent.calls (k : Nat) (a0 : Int) (a1 : Int) (a2 : Bool) (a3_0 : ByteArray) (a3_1 : ByteArray) (a3_2 : ByteArray) (a3_3 : ByteArray) (a3_4 : ByteArray) (a3_5 : ByteArray) (a3_6 : ByteArray) (a3_7 : ByteArray) (a3_8 : ByteArray) (a3_9 : ByteArray) (a3_10 : ByteArray) (a3_11 : ByteArray) (a3_12 : ByteArray) (a3_13 : ByteArray) (a3_14 : ByteArray) (a3_15 : ByteArray) (a3_16 : ByteArray) (a3_17 : ByteArray) (a3_18 : ByteArray) (a3_19 : ByteArray) (a3_20 : ByteArray) (r : List (S34)) (w : World) (h : quipuref16_Exponent.f k a0 a1 a2 a3_0 a3_1 a3_2 a3_3 a3_4 a3_5 a3_6 a3_7 a3_8 a3_9 a3_10 a3_11 a3_12 a3_13 a3_14 a3_15 a3_16 a3_17 a3_18 a3_19 a3_20 = some r) :
    Calls Tryd.prog 13 #[.int .i64 a0, .int .i64 a1, .bool a2, .agg #[.string a3_0, .string a3_1, .string a3_2, .string a3_3, .string a3_4, .string a3_5, .string a3_6, .string a3_7, .string a3_8, .string a3_9, .string a3_10, .string a3_11, .string a3_12, .string a3_13, .string a3_14, .string a3_15, .string a3_16, .string a3_17, .string a3_18, .string a3_19, .string a3_20]] w fun e w' => ∃ v0_ : Value, e = .returned (v0_) ∧ Kd.R k34 34 w' w.heap.size (fun _ => True) v0_ r ∧ Below w.heap.size w w' := by
  have hu26 := Tryd.underlying26
  have HB := Aside0.mk (Below.refl w.heap.size w)
  have H : ((quipuref16_add.f (([] : List (S34))) a3_16 6).bind fun t358 => (if a0 < 0 then ((quipuref16_add.f t358 a3_12 7).bind fun t361 => (quipuref16_Exponent.j0 k a0 a1 t361 a3_0 a3_1 a3_2 a3_3 a3_4 a3_5 a3_6 a3_7 a3_8 a3_9 a3_10 a3_11 a3_12 a3_13 a3_14 a3_15 a3_16 a3_17 a3_18 a3_19 a3_20)) else (if a2 = true then ((quipuref16_add.f t358 a3_13 7).bind fun t364 => (quipuref16_Exponent.j0 k a0 a1 t364 a3_0 a3_1 a3_2 a3_3 a3_4 a3_5 a3_6 a3_7 a3_8 a3_9 a3_10 a3_11 a3_12 a3_13 a3_14 a3_15 a3_16 a3_17 a3_18 a3_19 a3_20)) else (quipuref16_Exponent.j0 k a0 a1 t358 a3_0 a3_1 a3_2 a3_3 a3_4 a3_5 a3_6 a3_7 a3_8 a3_9 a3_10 a3_11 a3_12 a3_13 a3_14 a3_15 a3_16 a3_17 a3_18 a3_19 a3_20)))) = some r := h
  clear h
  obtain ⟨y355, hy355⟩ : ∃ y_ : List (S34), y_ = (([] : List (S34))) := ⟨_, rfl⟩
  replace H : ((quipuref16_add.f y355 a3_16 6).bind fun t358 => (if a0 < 0 then ((quipuref16_add.f t358 a3_12 7).bind fun t361 => (quipuref16_Exponent.j0 k a0 a1 t361 a3_0 a3_1 a3_2 a3_3 a3_4 a3_5 a3_6 a3_7 a3_8 a3_9 a3_10 a3_11 a3_12 a3_13 a3_14 a3_15 a3_16 a3_17 a3_18 a3_19 a3_20)) else (if a2 = true then ((quipuref16_add.f t358 a3_13 7).bind fun t364 => (quipuref16_Exponent.j0 k a0 a1 t364 a3_0 a3_1 a3_2 a3_3 a3_4 a3_5 a3_6 a3_7 a3_8 a3_9 a3_10 a3_11 a3_12 a3_13 a3_14 a3_15 a3_16 a3_17 a3_18 a3_19 a3_20)) else (quipuref16_Exponent.j0 k a0 a1 t358 a3_0 a3_1 a3_2 a3_3 a3_4 a3_5 a3_6 a3_7 a3_8 a3_9 a3_10 a3_11 a3_12 a3_13 a3_14 a3_15 a3_16 a3_17 a3_18 a3_19 a3_20)))) = some r := by first | (rw [hy355]; with_reducible exact H) | (have H2_ := (Option.bind_some _ _).symm.trans H; rw [hy355]; with_reducible exact H2_) | (have H2_ := (Option.bind_some _ _).symm.trans H; with_reducible exact H2_) | with_reducible exact H | (rw [hy355]; exact H) | exact H
  have Ny355 := Aside0.mk hy355
  clear hy355
  replace H := Option.bind_eq_some_iff.mp H
  obtain ⟨t358, A50, H⟩ := H
  replace H : (if a0 < 0 then ((quipuref16_add.f t358 a3_12 7).bind fun t361 => (quipuref16_Exponent.j0 k a0 a1 t361 a3_0 a3_1 a3_2 a3_3 a3_4 a3_5 a3_6 a3_7 a3_8 a3_9 a3_10 a3_11 a3_12 a3_13 a3_14 a3_15 a3_16 a3_17 a3_18 a3_19 a3_20)) else (if a2 = true then ((quipuref16_add.f t358 a3_13 7).bind fun t364 => (quipuref16_Exponent.j0 k a0 a1 t364 a3_0 a3_1 a3_2 a3_3 a3_4 a3_5 a3_6 a3_7 a3_8 a3_9 a3_10 a3_11 a3_12 a3_13 a3_14 a3_15 a3_16 a3_17 a3_18 a3_19 a3_20)) else (quipuref16_Exponent.j0 k a0 a1 t358 a3_0 a3_1 a3_2 a3_3 a3_4 a3_5 a3_6 a3_7 a3_8 a3_9 a3_10 a3_11 a3_12 a3_13 a3_14 a3_15 a3_16 a3_17 a3_18 a3_19 a3_20))) = some r := H
  have A5 := Aside0.mk A50
  clear A50
  have HC6 := Aside0.mk H
  clear H
  go_enter Tryd.func13, Tryd.ntmps13
  go_upto_if 17 with (first | ((with_reducible refine gate_dst (N := 47) rfl ?_); refine wpList_load_row rfl 26 (.tmp 7) rfl gb354 rfl 26 #[.string a3_0, .string a3_1, .string a3_2, .string a3_3, .string a3_4, .string a3_5, .string a3_6, .string a3_7, .string a3_8, .string a3_9, .string a3_10, .string a3_11, .string a3_12, .string a3_13, .string a3_14, .string a3_15, .string a3_16, .string a3_17, .string a3_18, .string a3_19, .string a3_20] (0, 0) _ (by (with_reducible repeat (first | refine blk_drewN ?_ _ | refine blk_drew ?_ | refine blk_alloc ?_ _)); exact BK354.out) Tryd.underlying26 rfl size26 ?_) | ((with_reducible refine gate_dst (N := 7) rfl ?_); (try (refine gate_guard (by rfl) ?_; dsimp only)); refine box_event ?hg (N := 7) ?hd (cs := #[.string a3_0, .string a3_1, .string a3_2, .string a3_3, .string a3_4, .string a3_5, .string a3_6, .string a3_7, .string a3_8, .string a3_9, .string a3_10, .string a3_11, .string a3_12, .string a3_13, .string a3_14, .string a3_15, .string a3_16, .string a3_17, .string a3_18, .string a3_19, .string a3_20]) (t := 26) ?hr ?_; (case hd => rfl); (case hg => rfl); (case hr => first | (go_simp; done) | (go_simp; rfl)); intro gb354 hg w7 hbox hb; have n0_ := Aside0.mk (below_step (by repeat (first | (with_reducible first | exact HB.out | apply below_alloc | apply pw_below_drewN | apply below_drew1) | exact HB.out)) hb); have n1_ := Aside0.mk (hbox); have n2_ := Aside0.mk ((by rw [hg]; exact (below_size (by repeat (first | (with_reducible first | exact HB.out | apply below_alloc | apply pw_below_drewN | apply below_drew1) | exact HB.out))) : w.heap.size ≤ gb354)); have n3_ := Aside0.mk ((by rw [hg]; exact (below_size (by repeat (first | (with_reducible first | exact HB.out | apply below_alloc | apply pw_below_drewN | apply below_drew1) | exact HB.out))) : w.heap.size ≤ gb354)); clear HB; have HB := n0_; have BK354 := n1_; have GW354 := n2_; have GE354 := n3_; clear n0_ n1_ n2_ n3_; clear hb hbox hg) | ((with_reducible refine gate_dst (N := 12) rfl ?_); (try (refine gate_guard (by rfl) ?_; dsimp only)); refine Kd.R_lit k34 _ 34 ?hg (N := 12) ?hd (xs := ([] : List (S34))) (inner := []) (ok := fun _ => True) (okp := fun _ => True) ?hr ?hp (fun _ hk => hk) trivial (Below.refl _ _) (Nat.le_refl _) (by simp) ?_; (case hd => rfl); (case hg => rfl); (case hr => first | (go_simp; done) | (go_simp; rfl)); (case hp => exact (Reps.none _ _)); intro v356 w8 ho9 hb hg_ hnew_; clear hg_ hnew_; (first | rw [← Ny355.out] at ho9 | (simp only [Int.reduceToNat] at ho9; rw [← Ny355.out] at ho9)); have n0_ := Aside0.mk (Kd.R_lower ho9 (below_size (by repeat (first | (with_reducible first | exact HB.out | apply below_alloc | apply pw_below_drewN | apply below_drew1 | refine below_set ?_ GE354.out) | exact HB.out)))); have n1_ := Aside0.mk (blk_below (g := gb354) (o := .cells #[.string a3_0, .string a3_1, .string a3_2, .string a3_3, .string a3_4, .string a3_5, .string a3_6, .string a3_7, .string a3_8, .string a3_9, .string a3_10, .string a3_11, .string a3_12, .string a3_13, .string a3_14, .string a3_15, .string a3_16, .string a3_17, .string a3_18, .string a3_19, .string a3_20] 26 (0, 0)) (by (with_reducible repeat (first | refine blk_drewN ?_ _ | refine blk_drew ?_ | refine blk_alloc ?_ _)); exact BK354.out) hb); have n2_ := Aside0.mk (below_step (by repeat (first | (with_reducible first | exact HB.out | apply below_alloc | apply pw_below_drewN | apply below_drew1 | refine below_set ?_ GE354.out) | exact HB.out)) hb); clear BK354; clear HB; have HO357 := n0_; have BK354 := n1_; have HB := n2_; clear n0_ n1_ n2_; clear hb ho9; have hcz10_0 : w8.cell? ⟨gb354, 0, none⟩ = some (.string a3_0) := (blk_cell BK354.out 0).trans rfl; have hcz10_1 : w8.cell? ⟨gb354, 1, none⟩ = some (.string a3_1) := (blk_cell BK354.out 1).trans rfl; have hcz10_2 : w8.cell? ⟨gb354, 2, none⟩ = some (.string a3_2) := (blk_cell BK354.out 2).trans rfl; have hcz10_3 : w8.cell? ⟨gb354, 3, none⟩ = some (.string a3_3) := (blk_cell BK354.out 3).trans rfl; have hcz10_4 : w8.cell? ⟨gb354, 4, none⟩ = some (.string a3_4) := (blk_cell BK354.out 4).trans rfl; have hcz10_5 : w8.cell? ⟨gb354, 5, none⟩ = some (.string a3_5) := (blk_cell BK354.out 5).trans rfl; have hcz10_6 : w8.cell? ⟨gb354, 6, none⟩ = some (.string a3_6) := (blk_cell BK354.out 6).trans rfl; have hcz10_7 : w8.cell? ⟨gb354, 7, none⟩ = some (.string a3_7) := (blk_cell BK354.out 7).trans rfl; have hcz10_8 : w8.cell? ⟨gb354, 8, none⟩ = some (.string a3_8) := (blk_cell BK354.out 8).trans rfl; have hcz10_9 : w8.cell? ⟨gb354, 9, none⟩ = some (.string a3_9) := (blk_cell BK354.out 9).trans rfl; have hcz10_10 : w8.cell? ⟨gb354, 10, none⟩ = some (.string a3_10) := (blk_cell BK354.out 10).trans rfl; have hcz10_11 : w8.cell? ⟨gb354, 11, none⟩ = some (.string a3_11) := (blk_cell BK354.out 11).trans rfl; have hcz10_12 : w8.cell? ⟨gb354, 12, none⟩ = some (.string a3_12) := (blk_cell BK354.out 12).trans rfl; have hcz10_13 : w8.cell? ⟨gb354, 13, none⟩ = some (.string a3_13) := (blk_cell BK354.out 13).trans rfl; have hcz10_14 : w8.cell? ⟨gb354, 14, none⟩ = some (.string a3_14) := (blk_cell BK354.out 14).trans rfl; have hcz10_15 : w8.cell? ⟨gb354, 15, none⟩ = some (.string a3_15) := (blk_cell BK354.out 15).trans rfl; have hcz10_16 : w8.cell? ⟨gb354, 16, none⟩ = some (.string a3_16) := (blk_cell BK354.out 16).trans rfl; have hcz10_17 : w8.cell? ⟨gb354, 17, none⟩ = some (.string a3_17) := (blk_cell BK354.out 17).trans rfl; have hcz10_18 : w8.cell? ⟨gb354, 18, none⟩ = some (.string a3_18) := (blk_cell BK354.out 18).trans rfl; have hcz10_19 : w8.cell? ⟨gb354, 19, none⟩ = some (.string a3_19) := (blk_cell BK354.out 19).trans rfl; have hcz10_20 : w8.cell? ⟨gb354, 20, none⟩ = some (.string a3_20) := (blk_cell BK354.out 20).trans rfl; have hfz10_0 := blk_frozen BK354.out 0; have hfz10_1 := blk_frozen BK354.out 1; have hfz10_2 := blk_frozen BK354.out 2; have hfz10_3 := blk_frozen BK354.out 3; have hfz10_4 := blk_frozen BK354.out 4; have hfz10_5 := blk_frozen BK354.out 5; have hfz10_6 := blk_frozen BK354.out 6; have hfz10_7 := blk_frozen BK354.out 7; have hfz10_8 := blk_frozen BK354.out 8; have hfz10_9 := blk_frozen BK354.out 9; have hfz10_10 := blk_frozen BK354.out 10; have hfz10_11 := blk_frozen BK354.out 11; have hfz10_12 := blk_frozen BK354.out 12; have hfz10_13 := blk_frozen BK354.out 13; have hfz10_14 := blk_frozen BK354.out 14; have hfz10_15 := blk_frozen BK354.out 15; have hfz10_16 := blk_frozen BK354.out 16; have hfz10_17 := blk_frozen BK354.out 17; have hfz10_18 := blk_frozen BK354.out 18; have hfz10_19 := blk_frozen BK354.out 19; have hfz10_20 := blk_frozen BK354.out 20; obtain ⟨Ao11, co11, eo11⟩ := Kd.R_slice HO357.out; subst eo11) | ((with_reducible refine gate_callee (f := 19) rfl ?_); refine goesL_ (some 15) rfl rfl Tryd.func19 (by kernel_rfl) rfl #[.slice Ao11 y355.length co11, .string a3_16, .int .i64 6] rfl (by (try simp only [List.map_toArray, List.map_cons, List.map_nil]); first | done | rfl | (simp only [List.length_drop, List.length_take]; rfl)) ?_; (with_reducible refine (quipuref16_add.calls (fun k_ => some k_ = (.slice Ao11 y355.length co11 : Value).ownBlock) (.slice Ao11 y355.length co11) y355 a3_16 6 t358 w _ ?side1 ?side2 A5.out).mono ?_); (case side1 => repeat (first | (with_reducible first | exact HB.out | apply below_alloc | apply pw_below_drewN | apply below_drew1 | refine below_set ?_ GE354.out) | exact HB.out)); (case side2 => exact Kd.R_tight rfl HO357.out); rintro e w12 ⟨v359, rfl, ho0, hb, hkp⟩; refine ⟨_, rfl, ?_⟩; have n0_ := Aside0.mk (blk_kept (by (with_reducible repeat (first | refine blk_drewN ?_ _ | refine blk_drew ?_ | refine blk_alloc ?_ _)); exact BK354.out) hkp (fun hs_ => (fun e_ => (Kd.R_ne HO357.out BK354.out (by decide)) e_) hs_)); have n1_ := Aside0.mk (Kd.R_mono (ok' := fun k_ => True) ho0 (fun k_ hk_ => trivial)); have n2_ := Aside0.mk (hb); clear BK354; clear HB; clear HO357; have BK354 := n0_; have HO360 := n1_; have HB := n2_; clear n0_ n1_ n2_; (try clear hb); (try clear hkp); (try clear ho0)))
  (try simp only [Act.put, List.setIfInBounds_toArray, List.set_cons_zero, List.set_cons_succ])
  go_cut [9] (fun v9 wc => ∃ (kq : Nat) (x9_5 : List (S34)), Aside0 (quipuref16_Exponent.j0 kq a0 a1 x9_5 a3_0 a3_1 a3_2 a3_3 a3_4 a3_5 a3_6 a3_7 a3_8 a3_9 a3_10 a3_11 a3_12 a3_13 a3_14 a3_15 a3_16 a3_17 a3_18 a3_19 a3_20 = some r) ∧ Aside0 (kq ≤ k) ∧ Aside0 (Kd.R k34 34 wc w.heap.size (fun _ => True) v9 x9_5) ∧ Aside0 (wc.heap[gb354]? = some (.cells #[.string a3_0, .string a3_1, .string a3_2, .string a3_3, .string a3_4, .string a3_5, .string a3_6, .string a3_7, .string a3_8, .string a3_9, .string a3_10, .string a3_11, .string a3_12, .string a3_13, .string a3_14, .string a3_15, .string a3_16, .string a3_17, .string a3_18, .string a3_19, .string a3_20] 26 (0, 0))) ∧ Aside0 (Below w.heap.size w wc))
  case first =>
    have H := HC6.out
    clear HC6
    by_cases c13 : a0 < 0
    · rw [if_pos c13] at H
      have c13b0 : decide (a0 < 0) = true := decide_eq_true c13
      clear c13
      (first | rw [c13b0] | rw [c13b1] | (simp only [i64_w, i32_w]; rw [c13b0]) | skip)
      replace H := Option.bind_eq_some_iff.mp H
      obtain ⟨t361, A140, H⟩ := H
      replace H : (quipuref16_Exponent.j0 k a0 a1 t361 a3_0 a3_1 a3_2 a3_3 a3_4 a3_5 a3_6 a3_7 a3_8 a3_9 a3_10 a3_11 a3_12 a3_13 a3_14 a3_15 a3_16 a3_17 a3_18 a3_19 a3_20) = some r := H
      have A14 := Aside0.mk A140
      clear A140
      have H' := Aside0.mk H
      clear H
      have hcz15_0 : w12.cell? ⟨gb354, 0, none⟩ = some (.string a3_0) := (blk_cell BK354.out 0).trans rfl
      have hcz15_1 : w12.cell? ⟨gb354, 1, none⟩ = some (.string a3_1) := (blk_cell BK354.out 1).trans rfl
      have hcz15_2 : w12.cell? ⟨gb354, 2, none⟩ = some (.string a3_2) := (blk_cell BK354.out 2).trans rfl
      have hcz15_3 : w12.cell? ⟨gb354, 3, none⟩ = some (.string a3_3) := (blk_cell BK354.out 3).trans rfl
      have hcz15_4 : w12.cell? ⟨gb354, 4, none⟩ = some (.string a3_4) := (blk_cell BK354.out 4).trans rfl
      have hcz15_5 : w12.cell? ⟨gb354, 5, none⟩ = some (.string a3_5) := (blk_cell BK354.out 5).trans rfl
      have hcz15_6 : w12.cell? ⟨gb354, 6, none⟩ = some (.string a3_6) := (blk_cell BK354.out 6).trans rfl
      have hcz15_7 : w12.cell? ⟨gb354, 7, none⟩ = some (.string a3_7) := (blk_cell BK354.out 7).trans rfl
      have hcz15_8 : w12.cell? ⟨gb354, 8, none⟩ = some (.string a3_8) := (blk_cell BK354.out 8).trans rfl
      have hcz15_9 : w12.cell? ⟨gb354, 9, none⟩ = some (.string a3_9) := (blk_cell BK354.out 9).trans rfl
      have hcz15_10 : w12.cell? ⟨gb354, 10, none⟩ = some (.string a3_10) := (blk_cell BK354.out 10).trans rfl
      have hcz15_11 : w12.cell? ⟨gb354, 11, none⟩ = some (.string a3_11) := (blk_cell BK354.out 11).trans rfl
      have hcz15_12 : w12.cell? ⟨gb354, 12, none⟩ = some (.string a3_12) := (blk_cell BK354.out 12).trans rfl
      have hcz15_13 : w12.cell? ⟨gb354, 13, none⟩ = some (.string a3_13) := (blk_cell BK354.out 13).trans rfl
      have hcz15_14 : w12.cell? ⟨gb354, 14, none⟩ = some (.string a3_14) := (blk_cell BK354.out 14).trans rfl
      have hcz15_15 : w12.cell? ⟨gb354, 15, none⟩ = some (.string a3_15) := (blk_cell BK354.out 15).trans rfl
      have hcz15_16 : w12.cell? ⟨gb354, 16, none⟩ = some (.string a3_16) := (blk_cell BK354.out 16).trans rfl
      have hcz15_17 : w12.cell? ⟨gb354, 17, none⟩ = some (.string a3_17) := (blk_cell BK354.out 17).trans rfl
      have hcz15_18 : w12.cell? ⟨gb354, 18, none⟩ = some (.string a3_18) := (blk_cell BK354.out 18).trans rfl
      have hcz15_19 : w12.cell? ⟨gb354, 19, none⟩ = some (.string a3_19) := (blk_cell BK354.out 19).trans rfl
      have hcz15_20 : w12.cell? ⟨gb354, 20, none⟩ = some (.string a3_20) := (blk_cell BK354.out 20).trans rfl
      have hfz15_0 := blk_frozen BK354.out 0
      have hfz15_1 := blk_frozen BK354.out 1
      have hfz15_2 := blk_frozen BK354.out 2
      have hfz15_3 := blk_frozen BK354.out 3
      have hfz15_4 := blk_frozen BK354.out 4
      have hfz15_5 := blk_frozen BK354.out 5
      have hfz15_6 := blk_frozen BK354.out 6
      have hfz15_7 := blk_frozen BK354.out 7
      have hfz15_8 := blk_frozen BK354.out 8
      have hfz15_9 := blk_frozen BK354.out 9
      have hfz15_10 := blk_frozen BK354.out 10
      have hfz15_11 := blk_frozen BK354.out 11
      have hfz15_12 := blk_frozen BK354.out 12
      have hfz15_13 := blk_frozen BK354.out 13
      have hfz15_14 := blk_frozen BK354.out 14
      have hfz15_15 := blk_frozen BK354.out 15
      have hfz15_16 := blk_frozen BK354.out 16
      have hfz15_17 := blk_frozen BK354.out 17
      have hfz15_18 := blk_frozen BK354.out 18
      have hfz15_19 := blk_frozen BK354.out 19
      have hfz15_20 := blk_frozen BK354.out 20
      obtain ⟨Ao16, co16, eo16⟩ := Kd.R_slice HO360.out
      subst eo16
      go_wp2_with (first | ((with_reducible refine gate_dst (N := 47) rfl ?_); refine wpList_load_row rfl 26 (.tmp 7) rfl gb354 rfl 26 #[.string a3_0, .string a3_1, .string a3_2, .string a3_3, .string a3_4, .string a3_5, .string a3_6, .string a3_7, .string a3_8, .string a3_9, .string a3_10, .string a3_11, .string a3_12, .string a3_13, .string a3_14, .string a3_15, .string a3_16, .string a3_17, .string a3_18, .string a3_19, .string a3_20] (0, 0) _ (by (with_reducible repeat (first | refine blk_drewN ?_ _ | refine blk_drew ?_ | refine blk_alloc ?_ _)); exact BK354.out) Tryd.underlying26 rfl size26 ?_) | ((with_reducible refine gate_callee (f := 19) rfl ?_); refine goesL_ (some 21) rfl rfl Tryd.func19 (by kernel_rfl) rfl #[.slice Ao16 t358.length co16, .string a3_12, .int .i64 7] rfl (by (try simp only [List.map_toArray, List.map_cons, List.map_nil]); first | done | rfl | (simp only [List.length_drop, List.length_take]; rfl)) ?_; (with_reducible refine (quipuref16_add.calls (fun k_ => some k_ = (.slice Ao16 t358.length co16 : Value).ownBlock) (.slice Ao16 t358.length co16) t358 a3_12 7 t361 w _ ?side1 ?side2 A14.out).mono ?_); (case side1 => repeat (first | (with_reducible first | exact HB.out | apply below_alloc | apply pw_below_drewN | apply below_drew1 | refine below_set ?_ GE354.out) | exact HB.out)); (case side2 => exact Kd.R_tight rfl HO360.out); rintro e w17 ⟨v362, rfl, ho0, hb, hkp⟩; refine ⟨_, rfl, ?_⟩; have n0_ := Aside0.mk (blk_kept (by (with_reducible repeat (first | refine blk_drewN ?_ _ | refine blk_drew ?_ | refine blk_alloc ?_ _)); exact BK354.out) hkp (fun hs_ => (fun e_ => (Kd.R_ne HO360.out BK354.out (by decide)) e_) hs_)); have n1_ := Aside0.mk (Kd.R_mono (ok' := fun k_ => True) ho0 (fun k_ hk_ => trivial)); have n2_ := Aside0.mk (hb); clear BK354; clear HB; clear HO360; have BK354 := n0_; have HO363 := n1_; have HB := n2_; clear n0_ n1_ n2_; (try clear hb); (try clear hkp); (try clear ho0)))
      go_meet
      case rel => exact ⟨_, (t361), H', ⟨by first | omega | exact Nat.le_refl _⟩, ⟨by (with_reducible repeat (first | apply Kd.R_alloc | apply Kd.R_drewN | apply Kd.R_drew)); exact HO363.out⟩, ⟨by (with_reducible repeat (first | refine blk_drewN ?_ _ | refine blk_drew ?_ | refine blk_alloc ?_ _)); exact BK354.out⟩, ⟨by repeat (first | (with_reducible first | exact HB.out | apply below_alloc | apply pw_below_drewN | apply below_drew1 | refine below_set ?_ GE354.out) | exact HB.out)⟩⟩
    · rw [if_neg c13] at H
      have c13b0 : decide (a0 < 0) = false := decide_eq_false c13
      clear c13
      (first | rw [c13b0] | rw [c13b1] | (simp only [i64_w, i32_w]; rw [c13b0]) | skip)
      by_cases c18 : a2 = true
      · subst c18
        have H1 : ((quipuref16_add.f t358 a3_13 7).bind fun t364 => (quipuref16_Exponent.j0 k a0 a1 t364 a3_0 a3_1 a3_2 a3_3 a3_4 a3_5 a3_6 a3_7 a3_8 a3_9 a3_10 a3_11 a3_12 a3_13 a3_14 a3_15 a3_16 a3_17 a3_18 a3_19 a3_20)) = some r := by rw [if_pos rfl] at H; exact H
        clear H
        have H := H1
        clear H1
        replace H := Option.bind_eq_some_iff.mp H
        obtain ⟨t364, A190, H⟩ := H
        replace H : (quipuref16_Exponent.j0 k a0 a1 t364 a3_0 a3_1 a3_2 a3_3 a3_4 a3_5 a3_6 a3_7 a3_8 a3_9 a3_10 a3_11 a3_12 a3_13 a3_14 a3_15 a3_16 a3_17 a3_18 a3_19 a3_20) = some r := H
        have A19 := Aside0.mk A190
        clear A190
        have H' := Aside0.mk H
        clear H
        have hcz20_0 : w12.cell? ⟨gb354, 0, none⟩ = some (.string a3_0) := (blk_cell BK354.out 0).trans rfl
        have hcz20_1 : w12.cell? ⟨gb354, 1, none⟩ = some (.string a3_1) := (blk_cell BK354.out 1).trans rfl
        have hcz20_2 : w12.cell? ⟨gb354, 2, none⟩ = some (.string a3_2) := (blk_cell BK354.out 2).trans rfl
        have hcz20_3 : w12.cell? ⟨gb354, 3, none⟩ = some (.string a3_3) := (blk_cell BK354.out 3).trans rfl
        have hcz20_4 : w12.cell? ⟨gb354, 4, none⟩ = some (.string a3_4) := (blk_cell BK354.out 4).trans rfl
        have hcz20_5 : w12.cell? ⟨gb354, 5, none⟩ = some (.string a3_5) := (blk_cell BK354.out 5).trans rfl
        have hcz20_6 : w12.cell? ⟨gb354, 6, none⟩ = some (.string a3_6) := (blk_cell BK354.out 6).trans rfl
        have hcz20_7 : w12.cell? ⟨gb354, 7, none⟩ = some (.string a3_7) := (blk_cell BK354.out 7).trans rfl
        have hcz20_8 : w12.cell? ⟨gb354, 8, none⟩ = some (.string a3_8) := (blk_cell BK354.out 8).trans rfl
        have hcz20_9 : w12.cell? ⟨gb354, 9, none⟩ = some (.string a3_9) := (blk_cell BK354.out 9).trans rfl
        have hcz20_10 : w12.cell? ⟨gb354, 10, none⟩ = some (.string a3_10) := (blk_cell BK354.out 10).trans rfl
        have hcz20_11 : w12.cell? ⟨gb354, 11, none⟩ = some (.string a3_11) := (blk_cell BK354.out 11).trans rfl
        have hcz20_12 : w12.cell? ⟨gb354, 12, none⟩ = some (.string a3_12) := (blk_cell BK354.out 12).trans rfl
        have hcz20_13 : w12.cell? ⟨gb354, 13, none⟩ = some (.string a3_13) := (blk_cell BK354.out 13).trans rfl
        have hcz20_14 : w12.cell? ⟨gb354, 14, none⟩ = some (.string a3_14) := (blk_cell BK354.out 14).trans rfl
        have hcz20_15 : w12.cell? ⟨gb354, 15, none⟩ = some (.string a3_15) := (blk_cell BK354.out 15).trans rfl
        have hcz20_16 : w12.cell? ⟨gb354, 16, none⟩ = some (.string a3_16) := (blk_cell BK354.out 16).trans rfl
        have hcz20_17 : w12.cell? ⟨gb354, 17, none⟩ = some (.string a3_17) := (blk_cell BK354.out 17).trans rfl
        have hcz20_18 : w12.cell? ⟨gb354, 18, none⟩ = some (.string a3_18) := (blk_cell BK354.out 18).trans rfl
        have hcz20_19 : w12.cell? ⟨gb354, 19, none⟩ = some (.string a3_19) := (blk_cell BK354.out 19).trans rfl
        have hcz20_20 : w12.cell? ⟨gb354, 20, none⟩ = some (.string a3_20) := (blk_cell BK354.out 20).trans rfl
        have hfz20_0 := blk_frozen BK354.out 0
        have hfz20_1 := blk_frozen BK354.out 1
        have hfz20_2 := blk_frozen BK354.out 2
        have hfz20_3 := blk_frozen BK354.out 3
        have hfz20_4 := blk_frozen BK354.out 4
        have hfz20_5 := blk_frozen BK354.out 5
        have hfz20_6 := blk_frozen BK354.out 6
        have hfz20_7 := blk_frozen BK354.out 7
        have hfz20_8 := blk_frozen BK354.out 8
        have hfz20_9 := blk_frozen BK354.out 9
        have hfz20_10 := blk_frozen BK354.out 10
        have hfz20_11 := blk_frozen BK354.out 11
        have hfz20_12 := blk_frozen BK354.out 12
        have hfz20_13 := blk_frozen BK354.out 13
        have hfz20_14 := blk_frozen BK354.out 14
        have hfz20_15 := blk_frozen BK354.out 15
        have hfz20_16 := blk_frozen BK354.out 16
        have hfz20_17 := blk_frozen BK354.out 17
        have hfz20_18 := blk_frozen BK354.out 18
        have hfz20_19 := blk_frozen BK354.out 19
        have hfz20_20 := blk_frozen BK354.out 20
        obtain ⟨Ao21, co21, eo21⟩ := Kd.R_slice HO360.out
        subst eo21
        go_wp2_with (first | ((with_reducible refine gate_dst (N := 47) rfl ?_); refine wpList_load_row rfl 26 (.tmp 7) rfl gb354 rfl 26 #[.string a3_0, .string a3_1, .string a3_2, .string a3_3, .string a3_4, .string a3_5, .string a3_6, .string a3_7, .string a3_8, .string a3_9, .string a3_10, .string a3_11, .string a3_12, .string a3_13, .string a3_14, .string a3_15, .string a3_16, .string a3_17, .string a3_18, .string a3_19, .string a3_20] (0, 0) _ (by (with_reducible repeat (first | refine blk_drewN ?_ _ | refine blk_drew ?_ | refine blk_alloc ?_ _)); exact BK354.out) Tryd.underlying26 rfl size26 ?_) | ((with_reducible refine gate_callee (f := 19) rfl ?_); refine goesL_ (some 26) rfl rfl Tryd.func19 (by kernel_rfl) rfl #[.slice Ao21 t358.length co21, .string a3_13, .int .i64 7] rfl (by (try simp only [List.map_toArray, List.map_cons, List.map_nil]); first | done | rfl | (simp only [List.length_drop, List.length_take]; rfl)) ?_; (with_reducible refine (quipuref16_add.calls (fun k_ => some k_ = (.slice Ao21 t358.length co21 : Value).ownBlock) (.slice Ao21 t358.length co21) t358 a3_13 7 t364 w _ ?side1 ?side2 A19.out).mono ?_); (case side1 => repeat (first | (with_reducible first | exact HB.out | apply below_alloc | apply pw_below_drewN | apply below_drew1 | refine below_set ?_ GE354.out) | exact HB.out)); (case side2 => exact Kd.R_tight rfl HO360.out); rintro e w22 ⟨v365, rfl, ho0, hb, hkp⟩; refine ⟨_, rfl, ?_⟩; have n0_ := Aside0.mk (blk_kept (by (with_reducible repeat (first | refine blk_drewN ?_ _ | refine blk_drew ?_ | refine blk_alloc ?_ _)); exact BK354.out) hkp (fun hs_ => (fun e_ => (Kd.R_ne HO360.out BK354.out (by decide)) e_) hs_)); have n1_ := Aside0.mk (Kd.R_mono (ok' := fun k_ => True) ho0 (fun k_ hk_ => trivial)); have n2_ := Aside0.mk (hb); clear BK354; clear HB; clear HO360; have BK354 := n0_; have HO366 := n1_; have HB := n2_; clear n0_ n1_ n2_; (try clear hb); (try clear hkp); (try clear ho0)))
        go_meet
        case rel => exact ⟨_, (t364), H', ⟨by first | omega | exact Nat.le_refl _⟩, ⟨by (with_reducible repeat (first | apply Kd.R_alloc | apply Kd.R_drewN | apply Kd.R_drew)); exact HO366.out⟩, ⟨by (with_reducible repeat (first | refine blk_drewN ?_ _ | refine blk_drew ?_ | refine blk_alloc ?_ _)); exact BK354.out⟩, ⟨by repeat (first | (with_reducible first | exact HB.out | apply below_alloc | apply pw_below_drewN | apply below_drew1 | refine below_set ?_ GE354.out) | exact HB.out)⟩⟩
      · replace c18 := Bool.eq_false_iff.mpr c18
        subst c18
        have H1 : (quipuref16_Exponent.j0 k a0 a1 t358 a3_0 a3_1 a3_2 a3_3 a3_4 a3_5 a3_6 a3_7 a3_8 a3_9 a3_10 a3_11 a3_12 a3_13 a3_14 a3_15 a3_16 a3_17 a3_18 a3_19 a3_20) = some r := by rw [if_neg (show ¬ (false = true) by decide)] at H; exact H
        clear H
        have H := H1
        clear H1
        have H' := Aside0.mk H
        clear H
        go_wp2
        go_meet
        case rel => exact ⟨_, (t358), H', ⟨by first | omega | exact Nat.le_refl _⟩, ⟨by (with_reducible repeat (first | apply Kd.R_alloc | apply Kd.R_drewN | apply Kd.R_drew)); exact HO360.out⟩, ⟨by (with_reducible repeat (first | refine blk_drewN ?_ _ | refine blk_drew ?_ | refine blk_alloc ?_ _)); exact BK354.out⟩, ⟨by repeat (first | (with_reducible first | exact HB.out | apply below_alloc | apply pw_below_drewN | apply below_drew1 | refine below_set ?_ GE354.out) | exact HB.out)⟩⟩
  case rest =>
    clear HC6
    try clear c1
    try clear p2
    try clear c13
    try clear c13b0
    try clear c13b1
    try clear c18
    try clear c19
    try clear hcz10_0
    try clear hcz10_1
    try clear hcz10_10
    try clear hcz10_11
    try clear hcz10_12
    try clear hcz10_13
    try clear hcz10_14
    try clear hcz10_15
    try clear hcz10_16
    try clear hcz10_17
    try clear hcz10_18
    try clear hcz10_19
    try clear hcz10_2
    try clear hcz10_20
    try clear hcz10_3
    try clear hcz10_4
    try clear hcz10_5
    try clear hcz10_6
    try clear hcz10_7
    try clear hcz10_8
    try clear hcz10_9
    try clear hcz15_0
    try clear hcz15_1
    try clear hcz15_10
    try clear hcz15_11
    try clear hcz15_12
    try clear hcz15_13
    try clear hcz15_14
    try clear hcz15_15
    try clear hcz15_16
    try clear hcz15_17
    try clear hcz15_18
    try clear hcz15_19
    try clear hcz15_2
    try clear hcz15_20
    try clear hcz15_3
    try clear hcz15_4
    try clear hcz15_5
    try clear hcz15_6
    try clear hcz15_7
    try clear hcz15_8
    try clear hcz15_9
    try clear hcz20_0
    try clear hcz20_1
    try clear hcz20_10
    try clear hcz20_11
    try clear hcz20_12
    try clear hcz20_13
    try clear hcz20_14
    try clear hcz20_15
    try clear hcz20_16
    try clear hcz20_17
    try clear hcz20_18
    try clear hcz20_19
    try clear hcz20_2
    try clear hcz20_20
    try clear hcz20_3
    try clear hcz20_4
    try clear hcz20_5
    try clear hcz20_6
    try clear hcz20_7
    try clear hcz20_8
    try clear hcz20_9
    try clear hfz10_0
    try clear hfz10_1
    try clear hfz10_10
    try clear hfz10_11
    try clear hfz10_12
    try clear hfz10_13
    try clear hfz10_14
    try clear hfz10_15
    try clear hfz10_16
    try clear hfz10_17
    try clear hfz10_18
    try clear hfz10_19
    try clear hfz10_2
    try clear hfz10_20
    try clear hfz10_3
    try clear hfz10_4
    try clear hfz10_5
    try clear hfz10_6
    try clear hfz10_7
    try clear hfz10_8
    try clear hfz10_9
    try clear hfz15_0
    try clear hfz15_1
    try clear hfz15_10
    try clear hfz15_11
    try clear hfz15_12
    try clear hfz15_13
    try clear hfz15_14
    try clear hfz15_15
    try clear hfz15_16
    try clear hfz15_17
    try clear hfz15_18
    try clear hfz15_19
    try clear hfz15_2
    try clear hfz15_20
    try clear hfz15_3
    try clear hfz15_4
    try clear hfz15_5
    try clear hfz15_6
    try clear hfz15_7
    try clear hfz15_8
    try clear hfz15_9
    try clear hfz20_0
    try clear hfz20_1
    try clear hfz20_10
    try clear hfz20_11
    try clear hfz20_12
    try clear hfz20_13
    try clear hfz20_14
    try clear hfz20_15
    try clear hfz20_16
    try clear hfz20_17
    try clear hfz20_18
    try clear hfz20_19
    try clear hfz20_2
    try clear hfz20_20
    try clear hfz20_3
    try clear hfz20_4
    try clear hfz20_5
    try clear hfz20_6
    try clear hfz20_7
    try clear hfz20_8
    try clear hfz20_9
    obtain ⟨kq, x9_5, HA, HJ5, HO_9, BK354, HB⟩ := hcut
    cases kq with
    | zero => exact absurd HA.out (by simp [quipuref16_Exponent.j0])
    | succ kj5 =>
      have H := HA.out
      clear HA
      simp only [quipuref16_Exponent.j0] at H
      replace H := Option.bind_eq_some_iff.mp H
      obtain ⟨t367, A230, H⟩ := H
      replace H : (if a0 < 0 then (if 1 ≤ (t367.size : Int) then (quipuref16_Exponent.j1 kj5 a1 x9_5 (t367.extract 1 t367.size) a3_0 a3_1 a3_2 a3_3 a3_4 a3_5 a3_6 a3_7 a3_8 a3_9 a3_10 a3_11 a3_12 a3_13 a3_14 a3_15 a3_16 a3_17 a3_18 a3_19 a3_20) else (none)) else (quipuref16_Exponent.j1 kj5 a1 x9_5 t367 a3_0 a3_1 a3_2 a3_3 a3_4 a3_5 a3_6 a3_7 a3_8 a3_9 a3_10 a3_11 a3_12 a3_13 a3_14 a3_15 a3_16 a3_17 a3_18 a3_19 a3_20)) = some r := H
      have A23 := Aside0.mk A230
      clear A230
      have HC24 := Aside0.mk H
      clear H
      go_upto_if 30 with (first | ((with_reducible refine gate_dst (N := 47) rfl ?_); refine wpList_load_row rfl 26 (.tmp 7) rfl gb354 rfl 26 #[.string a3_0, .string a3_1, .string a3_2, .string a3_3, .string a3_4, .string a3_5, .string a3_6, .string a3_7, .string a3_8, .string a3_9, .string a3_10, .string a3_11, .string a3_12, .string a3_13, .string a3_14, .string a3_15, .string a3_16, .string a3_17, .string a3_18, .string a3_19, .string a3_20] (0, 0) _ (by (with_reducible repeat (first | refine blk_drewN ?_ _ | refine blk_drew ?_ | refine blk_alloc ?_ _)); exact BK354.out) Tryd.underlying26 rfl size26 ?_) | ((with_reducible refine gate_callee (f := 27) rfl ?_); refine goesL_ (some 28) rfl rfl Tryd.func27 (by kernel_rfl) rfl #[.int .i64 a0] rfl (by (try simp only [List.map_toArray, List.map_cons, List.map_nil]); first | done | rfl | (simp only [List.length_drop, List.length_take]; rfl)) ?_; (with_reducible refine (quipuref05_Number.calls kj5 a0 t367 _ A23.out).mono ?_); rintro e w25 ⟨rfl, hb⟩; refine ⟨_, rfl, ?_⟩; have n0_ := Aside0.mk (Kd.R_below (by (with_reducible repeat (first | apply Kd.R_alloc | apply Kd.R_drewN | apply Kd.R_drew)); exact HO_9.out) hb); have n1_ := Aside0.mk (blk_below (g := gb354) (o := .cells #[.string a3_0, .string a3_1, .string a3_2, .string a3_3, .string a3_4, .string a3_5, .string a3_6, .string a3_7, .string a3_8, .string a3_9, .string a3_10, .string a3_11, .string a3_12, .string a3_13, .string a3_14, .string a3_15, .string a3_16, .string a3_17, .string a3_18, .string a3_19, .string a3_20] 26 (0, 0)) (by (with_reducible repeat (first | refine blk_drewN ?_ _ | refine blk_drew ?_ | refine blk_alloc ?_ _)); exact BK354.out) hb); have n2_ := Aside0.mk (below_step (by repeat (first | (with_reducible first | exact HB.out | apply below_alloc | apply pw_below_drewN | apply below_drew1 | refine below_set ?_ GE354.out) | exact HB.out)) hb); clear HO_9; clear BK354; clear HB; have HO_9 := n0_; have BK354 := n1_; have HB := n2_; clear n0_ n1_ n2_; (try clear hb); (try clear hb2); (try clear hk); (try clear hi)))
      (try simp only [Act.put, List.setIfInBounds_toArray, List.set_cons_zero, List.set_cons_succ])
      go_cut [10] (fun v10 wc => ∃ (kq : Nat) (x10_23 : ByteArray), v10 = .string x10_23 ∧ Aside0 (quipuref16_Exponent.j1 kq a1 x9_5 x10_23 a3_0 a3_1 a3_2 a3_3 a3_4 a3_5 a3_6 a3_7 a3_8 a3_9 a3_10 a3_11 a3_12 a3_13 a3_14 a3_15 a3_16 a3_17 a3_18 a3_19 a3_20 = some r) ∧ Aside0 (kq ≤ kj5) ∧ Aside0 (Kd.R k34 34 wc w.heap.size (fun _ => True) u9 x9_5) ∧ Aside0 (wc.heap[gb354]? = some (.cells #[.string a3_0, .string a3_1, .string a3_2, .string a3_3, .string a3_4, .string a3_5, .string a3_6, .string a3_7, .string a3_8, .string a3_9, .string a3_10, .string a3_11, .string a3_12, .string a3_13, .string a3_14, .string a3_15, .string a3_16, .string a3_17, .string a3_18, .string a3_19, .string a3_20] 26 (0, 0))) ∧ Aside0 (Below w.heap.size w wc))
      case first =>
        have H := HC24.out
        clear HC24
        by_cases c26 : a0 < 0
        · rw [if_pos c26] at H
          have c26b0 : decide (a0 < 0) = true := decide_eq_true c26
          clear c26
          (first | rw [c26b0] | rw [c26b1] | (simp only [i64_w, i32_w]; rw [c26b0]) | skip)
          by_cases c27 : 1 ≤ (t367.size : Int)
          · rw [if_pos c27] at H
            have c27b0 := eq_true c27
            have c27b1 : decide (1 ≤ (t367.size : Int)) = true := decide_eq_true c27
            clear c27
            have H' := Aside0.mk H
            clear H
            go_wp2
            go_meet
            case rel => exact ⟨_, (t367.extract 1 t367.size), (by first | rfl | (simp; done) | (simp [*]; done)), H', ⟨by have := HJ5.out; first | omega | exact Nat.le_refl _⟩, ⟨by (with_reducible repeat (first | apply Kd.R_alloc | apply Kd.R_drewN | apply Kd.R_drew)); exact HO_9.out⟩, ⟨by (with_reducible repeat (first | refine blk_drewN ?_ _ | refine blk_drew ?_ | refine blk_alloc ?_ _)); exact BK354.out⟩, ⟨by repeat (first | (with_reducible first | exact HB.out | apply below_alloc | apply pw_below_drewN | apply below_drew1 | refine below_set ?_ GE354.out) | exact HB.out)⟩⟩
          · rw [if_neg c27] at H
            exact absurd H (by simp)
        · rw [if_neg c26] at H
          have c26b0 : decide (a0 < 0) = false := decide_eq_false c26
          clear c26
          (first | rw [c26b0] | rw [c26b1] | (simp only [i64_w, i32_w]; rw [c26b0]) | skip)
          have H' := Aside0.mk H
          clear H
          go_wp2
          go_meet
          case rel => exact ⟨_, (t367), (by first | rfl | (simp; done) | (simp [*]; done)), H', ⟨by have := HJ5.out; first | omega | exact Nat.le_refl _⟩, ⟨by (with_reducible repeat (first | apply Kd.R_alloc | apply Kd.R_drewN | apply Kd.R_drew)); exact HO_9.out⟩, ⟨by (with_reducible repeat (first | refine blk_drewN ?_ _ | refine blk_drew ?_ | refine blk_alloc ?_ _)); exact BK354.out⟩, ⟨by repeat (first | (with_reducible first | exact HB.out | apply below_alloc | apply pw_below_drewN | apply below_drew1 | refine below_set ?_ GE354.out) | exact HB.out)⟩⟩
      case rest =>
        clear HC24
        try clear c1
        try clear c2
        try clear p2
        try clear c13
        try clear c13b0
        try clear c13b1
        try clear c18
        try clear c19
        try clear c26
        try clear c26b0
        try clear c26b1
        try clear c27
        try clear c27b0
        try clear c27b1
        try clear hcz10_0
        try clear hcz10_1
        try clear hcz10_10
        try clear hcz10_11
        try clear hcz10_12
        try clear hcz10_13
        try clear hcz10_14
        try clear hcz10_15
        try clear hcz10_16
        try clear hcz10_17
        try clear hcz10_18
        try clear hcz10_19
        try clear hcz10_2
        try clear hcz10_20
        try clear hcz10_3
        try clear hcz10_4
        try clear hcz10_5
        try clear hcz10_6
        try clear hcz10_7
        try clear hcz10_8
        try clear hcz10_9
        try clear hcz15_0
        try clear hcz15_1
        try clear hcz15_10
        try clear hcz15_11
        try clear hcz15_12
        try clear hcz15_13
        try clear hcz15_14
        try clear hcz15_15
        try clear hcz15_16
        try clear hcz15_17
        try clear hcz15_18
        try clear hcz15_19
        try clear hcz15_2
        try clear hcz15_20
        try clear hcz15_3
        try clear hcz15_4
        try clear hcz15_5
        try clear hcz15_6
        try clear hcz15_7
        try clear hcz15_8
        try clear hcz15_9
        try clear hcz20_0
        try clear hcz20_1
        try clear hcz20_10
        try clear hcz20_11
        try clear hcz20_12
        try clear hcz20_13
        try clear hcz20_14
        try clear hcz20_15
        try clear hcz20_16
        try clear hcz20_17
        try clear hcz20_18
        try clear hcz20_19
        try clear hcz20_2
        try clear hcz20_20
        try clear hcz20_3
        try clear hcz20_4
        try clear hcz20_5
        try clear hcz20_6
        try clear hcz20_7
        try clear hcz20_8
        try clear hcz20_9
        try clear hfz10_0
        try clear hfz10_1
        try clear hfz10_10
        try clear hfz10_11
        try clear hfz10_12
        try clear hfz10_13
        try clear hfz10_14
        try clear hfz10_15
        try clear hfz10_16
        try clear hfz10_17
        try clear hfz10_18
        try clear hfz10_19
        try clear hfz10_2
        try clear hfz10_20
        try clear hfz10_3
        try clear hfz10_4
        try clear hfz10_5
        try clear hfz10_6
        try clear hfz10_7
        try clear hfz10_8
        try clear hfz10_9
        try clear hfz15_0
        try clear hfz15_1
        try clear hfz15_10
        try clear hfz15_11
        try clear hfz15_12
        try clear hfz15_13
        try clear hfz15_14
        try clear hfz15_15
        try clear hfz15_16
        try clear hfz15_17
        try clear hfz15_18
        try clear hfz15_19
        try clear hfz15_2
        try clear hfz15_20
        try clear hfz15_3
        try clear hfz15_4
        try clear hfz15_5
        try clear hfz15_6
        try clear hfz15_7
        try clear hfz15_8
        try clear hfz15_9
        try clear hfz20_0
        try clear hfz20_1
        try clear hfz20_10
        try clear hfz20_11
        try clear hfz20_12
        try clear hfz20_13
        try clear hfz20_14
        try clear hfz20_15
        try clear hfz20_16
        try clear hfz20_17
        try clear hfz20_18
        try clear hfz20_19
        try clear hfz20_2
        try clear hfz20_20
        try clear hfz20_3
        try clear hfz20_4
        try clear hfz20_5
        try clear hfz20_6
        try clear hfz20_7
        try clear hfz20_8
        try clear hfz20_9
        try clear p2
        obtain ⟨kq, x10_23, rfl, HA, HJ23, HO_9, BK354, HB⟩ := hcut
        cases kq with
        | zero => exact absurd HA.out (by simp [quipuref16_Exponent.j1])
        | succ kj23 =>
          have H := HA.out
          clear HA
          simp only [quipuref16_Exponent.j1] at H
          have H' := Aside0.mk H
          clear H
          go_wp2
          go_loopg [10, 11] kj23 (fun kq v10 v11 w' => ∃ (x10_3 : ByteArray) (x11_3 : Int), v10 = .string x10_3 ∧ v11 = .int .i64 x11_3 ∧ Aside0 (quipuref16_Exponent.l0 kq a1 x9_5 x10_3 x11_3 a3_0 a3_1 a3_2 a3_3 a3_4 a3_5 a3_6 a3_7 a3_8 a3_9 a3_10 a3_11 a3_12 a3_13 a3_14 a3_15 a3_16 a3_17 a3_18 a3_19 a3_20 = some r) ∧ Aside0 (kq ≤ kj23) ∧ Aside0 (Kd.R k34 34 w' w.heap.size (fun _ => True) u9 x9_5) ∧ Aside0 (w'.heap[gb354]? = some (.cells #[.string a3_0, .string a3_1, .string a3_2, .string a3_3, .string a3_4, .string a3_5, .string a3_6, .string a3_7, .string a3_8, .string a3_9, .string a3_10, .string a3_11, .string a3_12, .string a3_13, .string a3_14, .string a3_15, .string a3_16, .string a3_17, .string a3_18, .string a3_19, .string a3_20] 26 (0, 0))) ∧ Aside0 (Below w.heap.size w w'))
          case atStart => exact ⟨(x10_23), (0), (by first | rfl | (simp; done) | (simp [*]; done)), (by first | rfl | (simp; done) | (simp [*]; done)), H', ⟨Nat.le_refl _⟩, ⟨by (with_reducible repeat (first | apply Kd.R_alloc | apply Kd.R_drewN | apply Kd.R_drew)); exact HO_9.out⟩, ⟨by (with_reducible repeat (first | refine blk_drewN ?_ _ | refine blk_drew ?_ | refine blk_alloc ?_ _)); exact BK354.out⟩, ⟨by repeat (first | (with_reducible first | exact HB.out | apply below_alloc | apply pw_below_drewN | apply below_drew1 | refine below_set ?_ GE354.out) | exact HB.out)⟩⟩
          case round =>
            clear H'
            try clear c1
            try clear c2
            try clear p2
            try clear c13
            try clear c13b0
            try clear c13b1
            try clear c18
            try clear c19
            try clear c26
            try clear c26b0
            try clear c26b1
            try clear c27
            try clear c27b0
            try clear c27b1
            try clear hcz10_0
            try clear hcz10_1
            try clear hcz10_10
            try clear hcz10_11
            try clear hcz10_12
            try clear hcz10_13
            try clear hcz10_14
            try clear hcz10_15
            try clear hcz10_16
            try clear hcz10_17
            try clear hcz10_18
            try clear hcz10_19
            try clear hcz10_2
            try clear hcz10_20
            try clear hcz10_3
            try clear hcz10_4
            try clear hcz10_5
            try clear hcz10_6
            try clear hcz10_7
            try clear hcz10_8
            try clear hcz10_9
            try clear hcz15_0
            try clear hcz15_1
            try clear hcz15_10
            try clear hcz15_11
            try clear hcz15_12
            try clear hcz15_13
            try clear hcz15_14
            try clear hcz15_15
            try clear hcz15_16
            try clear hcz15_17
            try clear hcz15_18
            try clear hcz15_19
            try clear hcz15_2
            try clear hcz15_20
            try clear hcz15_3
            try clear hcz15_4
            try clear hcz15_5
            try clear hcz15_6
            try clear hcz15_7
            try clear hcz15_8
            try clear hcz15_9
            try clear hcz20_0
            try clear hcz20_1
            try clear hcz20_10
            try clear hcz20_11
            try clear hcz20_12
            try clear hcz20_13
            try clear hcz20_14
            try clear hcz20_15
            try clear hcz20_16
            try clear hcz20_17
            try clear hcz20_18
            try clear hcz20_19
            try clear hcz20_2
            try clear hcz20_20
            try clear hcz20_3
            try clear hcz20_4
            try clear hcz20_5
            try clear hcz20_6
            try clear hcz20_7
            try clear hcz20_8
            try clear hcz20_9
            try clear hfz10_0
            try clear hfz10_1
            try clear hfz10_10
            try clear hfz10_11
            try clear hfz10_12
            try clear hfz10_13
            try clear hfz10_14
            try clear hfz10_15
            try clear hfz10_16
            try clear hfz10_17
            try clear hfz10_18
            try clear hfz10_19
            try clear hfz10_2
            try clear hfz10_20
            try clear hfz10_3
            try clear hfz10_4
            try clear hfz10_5
            try clear hfz10_6
            try clear hfz10_7
            try clear hfz10_8
            try clear hfz10_9
            try clear hfz15_0
            try clear hfz15_1
            try clear hfz15_10
            try clear hfz15_11
            try clear hfz15_12
            try clear hfz15_13
            try clear hfz15_14
            try clear hfz15_15
            try clear hfz15_16
            try clear hfz15_17
            try clear hfz15_18
            try clear hfz15_19
            try clear hfz15_2
            try clear hfz15_20
            try clear hfz15_3
            try clear hfz15_4
            try clear hfz15_5
            try clear hfz15_6
            try clear hfz15_7
            try clear hfz15_8
            try clear hfz15_9
            try clear hfz20_0
            try clear hfz20_1
            try clear hfz20_10
            try clear hfz20_11
            try clear hfz20_12
            try clear hfz20_13
            try clear hfz20_14
            try clear hfz20_15
            try clear hfz20_16
            try clear hfz20_17
            try clear hfz20_18
            try clear hfz20_19
            try clear hfz20_2
            try clear hfz20_20
            try clear hfz20_3
            try clear hfz20_4
            try clear hfz20_5
            try clear hfz20_6
            try clear hfz20_7
            try clear hfz20_8
            try clear hfz20_9
            try clear p2
            obtain ⟨x10_3, x11_3, rfl, rfl, HA, HK3, HO_9, BK354, HB⟩ := hrel
            cases gk with
            | zero => exact absurd HA.out (by simp [quipuref16_Exponent.l0])
            | succ k3 =>
              have H := HA.out
              clear HA
              simp only [quipuref16_Exponent.l0] at H
              by_cases c28 : x11_3 < 99
              · rw [if_pos c28] at H
                have c28b0 : decide (x11_3 < 99) = true := decide_eq_true c28
                clear c28
                by_cases c29 : (x10_3.size : Int) < a1
                · rw [if_pos c29] at H
                  have c29b0 : decide ((x10_3.size : Int) < a1) = true := decide_eq_true c29
                  clear c29
                  by_cases c30 : 1 + x10_3.size ≤ 9223372036854775807
                  · rw [if_pos c30] at H
                    have c30b0 := eq_true c30
                    have c30b1 : decide (1 + x10_3.size ≤ 9223372036854775807) = true := decide_eq_true c30
                    try have c30b2 : (9223372036854775807 < 1 + x10_3.size) = False := eq_false (Nat.not_lt.2 c30)
                    have H' := Aside0.mk H
                    clear H
                    go_wp2
                    go_roundg k3
                    case measure => have := HJ5.out; have := HJ23.out; have := HK3.out; omega
                    case rel => exact ⟨((⟨#[48]⟩ : ByteArray) ++ x10_3), (wrap64 (x11_3 + 1)), (by first | rfl | (simp; done) | (simp [*]; done)), (by first | rfl | (simp; done) | (simp [*]; done)), H', ⟨by have := HJ5.out; have := HJ23.out; have := HK3.out; omega⟩, ⟨by (with_reducible repeat (first | apply Kd.R_alloc | apply Kd.R_drewN | apply Kd.R_drew)); exact HO_9.out⟩, ⟨by (with_reducible repeat (first | refine blk_drewN ?_ _ | refine blk_drew ?_ | refine blk_alloc ?_ _)); exact BK354.out⟩, ⟨by repeat (first | (with_reducible first | exact HB.out | apply below_alloc | apply pw_below_drewN | apply below_drew1 | refine below_set ?_ GE354.out) | exact HB.out)⟩⟩
                  · rw [if_neg c30] at H
                    exact absurd H (by simp)
                · rw [if_neg c29] at H
                  have c29b0 : decide ((x10_3.size : Int) < a1) = false := decide_eq_false c29
                  clear c29
                  replace H := Option.bind_eq_some_iff.mp H
                  obtain ⟨t368, A310, H⟩ := H
                  replace H : ((quipuref16_add.f x9_5 t368 8).bind fun t369 => (some t369)) = some r := H
                  have A31 := Aside0.mk A310
                  clear A310
                  replace H := Option.bind_eq_some_iff.mp H
                  obtain ⟨t369, A320, H⟩ := H
                  replace H : (some t369) = some r := H
                  have A32 := Aside0.mk A320
                  clear A320
                  obtain rfl := Option.some.inj H
                  have hcz33_0 : wr.cell? ⟨gb354, 0, none⟩ = some (.string a3_0) := (blk_cell BK354.out 0).trans rfl
                  have hcz33_1 : wr.cell? ⟨gb354, 1, none⟩ = some (.string a3_1) := (blk_cell BK354.out 1).trans rfl
                  have hcz33_2 : wr.cell? ⟨gb354, 2, none⟩ = some (.string a3_2) := (blk_cell BK354.out 2).trans rfl
                  have hcz33_3 : wr.cell? ⟨gb354, 3, none⟩ = some (.string a3_3) := (blk_cell BK354.out 3).trans rfl
                  have hcz33_4 : wr.cell? ⟨gb354, 4, none⟩ = some (.string a3_4) := (blk_cell BK354.out 4).trans rfl
                  have hcz33_5 : wr.cell? ⟨gb354, 5, none⟩ = some (.string a3_5) := (blk_cell BK354.out 5).trans rfl
                  have hcz33_6 : wr.cell? ⟨gb354, 6, none⟩ = some (.string a3_6) := (blk_cell BK354.out 6).trans rfl
                  have hcz33_7 : wr.cell? ⟨gb354, 7, none⟩ = some (.string a3_7) := (blk_cell BK354.out 7).trans rfl
                  have hcz33_8 : wr.cell? ⟨gb354, 8, none⟩ = some (.string a3_8) := (blk_cell BK354.out 8).trans rfl
                  have hcz33_9 : wr.cell? ⟨gb354, 9, none⟩ = some (.string a3_9) := (blk_cell BK354.out 9).trans rfl
                  have hcz33_10 : wr.cell? ⟨gb354, 10, none⟩ = some (.string a3_10) := (blk_cell BK354.out 10).trans rfl
                  have hcz33_11 : wr.cell? ⟨gb354, 11, none⟩ = some (.string a3_11) := (blk_cell BK354.out 11).trans rfl
                  have hcz33_12 : wr.cell? ⟨gb354, 12, none⟩ = some (.string a3_12) := (blk_cell BK354.out 12).trans rfl
                  have hcz33_13 : wr.cell? ⟨gb354, 13, none⟩ = some (.string a3_13) := (blk_cell BK354.out 13).trans rfl
                  have hcz33_14 : wr.cell? ⟨gb354, 14, none⟩ = some (.string a3_14) := (blk_cell BK354.out 14).trans rfl
                  have hcz33_15 : wr.cell? ⟨gb354, 15, none⟩ = some (.string a3_15) := (blk_cell BK354.out 15).trans rfl
                  have hcz33_16 : wr.cell? ⟨gb354, 16, none⟩ = some (.string a3_16) := (blk_cell BK354.out 16).trans rfl
                  have hcz33_17 : wr.cell? ⟨gb354, 17, none⟩ = some (.string a3_17) := (blk_cell BK354.out 17).trans rfl
                  have hcz33_18 : wr.cell? ⟨gb354, 18, none⟩ = some (.string a3_18) := (blk_cell BK354.out 18).trans rfl
                  have hcz33_19 : wr.cell? ⟨gb354, 19, none⟩ = some (.string a3_19) := (blk_cell BK354.out 19).trans rfl
                  have hcz33_20 : wr.cell? ⟨gb354, 20, none⟩ = some (.string a3_20) := (blk_cell BK354.out 20).trans rfl
                  have hfz33_0 := blk_frozen BK354.out 0
                  have hfz33_1 := blk_frozen BK354.out 1
                  have hfz33_2 := blk_frozen BK354.out 2
                  have hfz33_3 := blk_frozen BK354.out 3
                  have hfz33_4 := blk_frozen BK354.out 4
                  have hfz33_5 := blk_frozen BK354.out 5
                  have hfz33_6 := blk_frozen BK354.out 6
                  have hfz33_7 := blk_frozen BK354.out 7
                  have hfz33_8 := blk_frozen BK354.out 8
                  have hfz33_9 := blk_frozen BK354.out 9
                  have hfz33_10 := blk_frozen BK354.out 10
                  have hfz33_11 := blk_frozen BK354.out 11
                  have hfz33_12 := blk_frozen BK354.out 12
                  have hfz33_13 := blk_frozen BK354.out 13
                  have hfz33_14 := blk_frozen BK354.out 14
                  have hfz33_15 := blk_frozen BK354.out 15
                  have hfz33_16 := blk_frozen BK354.out 16
                  have hfz33_17 := blk_frozen BK354.out 17
                  have hfz33_18 := blk_frozen BK354.out 18
                  have hfz33_19 := blk_frozen BK354.out 19
                  have hfz33_20 := blk_frozen BK354.out 20
                  go_wp2_with (first | ((with_reducible refine gate_dst (N := 47) rfl ?_); refine wpList_load_row rfl 26 (.tmp 7) rfl gb354 rfl 26 #[.string a3_0, .string a3_1, .string a3_2, .string a3_3, .string a3_4, .string a3_5, .string a3_6, .string a3_7, .string a3_8, .string a3_9, .string a3_10, .string a3_11, .string a3_12, .string a3_13, .string a3_14, .string a3_15, .string a3_16, .string a3_17, .string a3_18, .string a3_19, .string a3_20] (0, 0) _ (by (with_reducible repeat (first | refine blk_drewN ?_ _ | refine blk_drew ?_ | refine blk_alloc ?_ _)); exact BK354.out) Tryd.underlying26 rfl size26 ?_) | ((with_reducible refine gate_callee (f := 17) rfl ?_); refine goesL_ (some 48) rfl rfl Tryd.func17 (by kernel_rfl) rfl #[.string x10_3, .agg #[.string a3_0, .string a3_1, .string a3_2, .string a3_3, .string a3_4, .string a3_5, .string a3_6, .string a3_7, .string a3_8, .string a3_9, .string a3_10, .string a3_11, .string a3_12, .string a3_13, .string a3_14, .string a3_15, .string a3_16, .string a3_17, .string a3_18, .string a3_19, .string a3_20]] rfl (by (try simp only [List.map_toArray, List.map_cons, List.map_nil]); first | done | rfl | (simp only [List.length_drop, List.length_take]; rfl)) ?_; (with_reducible refine (quipuref16_Write.calls x10_3 a3_0 a3_1 a3_2 a3_3 a3_4 a3_5 a3_6 a3_7 a3_8 a3_9 a3_10 a3_11 a3_12 a3_13 a3_14 a3_15 a3_16 a3_17 a3_18 a3_19 a3_20 t368 _ A31.out).mono ?_); rintro e w34 ⟨rfl, hb⟩; refine ⟨_, rfl, ?_⟩; have n0_ := Aside0.mk (Kd.R_below (by (with_reducible repeat (first | apply Kd.R_alloc | apply Kd.R_drewN | apply Kd.R_drew)); exact HO_9.out) hb); have n1_ := Aside0.mk (blk_below (g := gb354) (o := .cells #[.string a3_0, .string a3_1, .string a3_2, .string a3_3, .string a3_4, .string a3_5, .string a3_6, .string a3_7, .string a3_8, .string a3_9, .string a3_10, .string a3_11, .string a3_12, .string a3_13, .string a3_14, .string a3_15, .string a3_16, .string a3_17, .string a3_18, .string a3_19, .string a3_20] 26 (0, 0)) (by (with_reducible repeat (first | refine blk_drewN ?_ _ | refine blk_drew ?_ | refine blk_alloc ?_ _)); exact BK354.out) hb); have n2_ := Aside0.mk (below_step (by repeat (first | (with_reducible first | exact HB.out | apply below_alloc | apply pw_below_drewN | apply below_drew1 | refine below_set ?_ GE354.out) | exact HB.out)) hb); clear HO_9; clear BK354; clear HB; have HO_9 := n0_; have BK354 := n1_; have HB := n2_; clear n0_ n1_ n2_; (try clear hb); (try clear hb2); (try clear hk); (try clear hi); obtain ⟨Ao35, co35, eo35⟩ := Kd.R_slice HO_9.out; subst eo35) | ((with_reducible refine gate_callee (f := 19) rfl ?_); refine goesL_ (some 49) rfl rfl Tryd.func19 (by kernel_rfl) rfl #[.slice Ao35 x9_5.length co35, .string t368, .int .i64 8] rfl (by (try simp only [List.map_toArray, List.map_cons, List.map_nil]); first | done | rfl | (simp only [List.length_drop, List.length_take]; rfl)) ?_; (with_reducible refine (quipuref16_add.calls (fun k_ => some k_ = (.slice Ao35 x9_5.length co35 : Value).ownBlock) (.slice Ao35 x9_5.length co35) x9_5 t368 8 t369 w _ ?side1 ?side2 A32.out).mono ?_); (case side1 => repeat (first | (with_reducible first | exact HB.out | apply below_alloc | apply pw_below_drewN | apply below_drew1 | refine below_set ?_ GE354.out) | exact HB.out)); (case side2 => exact Kd.R_tight rfl HO_9.out); rintro e w36 ⟨v370, rfl, ho0, hb, hkp⟩; refine ⟨_, rfl, ?_⟩; have n0_ := Aside0.mk (blk_kept (by (with_reducible repeat (first | refine blk_drewN ?_ _ | refine blk_drew ?_ | refine blk_alloc ?_ _)); exact BK354.out) hkp (fun hs_ => (fun e_ => (Kd.R_ne HO_9.out BK354.out (by decide)) e_) hs_)); have n1_ := Aside0.mk (Kd.R_mono (ok' := fun k_ => True) ho0 (fun k_ hk_ => trivial)); have n2_ := Aside0.mk (hb); clear BK354; clear HB; clear HO_9; have BK354 := n0_; have HO371 := n1_; have HB := n2_; clear n0_ n1_ n2_; (try clear hb); (try clear hkp); (try clear ho0)))
                  go_ret
                  exact ⟨_, by first | rfl | (simp [errW_none, errW_some] <;> rfl) | (simp [*, errW_none, errW_some] <;> rfl) | (simp only [ne_nil_b]; first | done | rfl) | (simp [ne_nil_b]; done), by (with_reducible repeat (first | apply Kd.R_alloc | apply Kd.R_drewN | apply Kd.R_drew)); exact HO371.out, by repeat (first | (with_reducible first | exact HB.out | apply below_alloc | apply pw_below_drewN | apply below_drew1 | refine below_set ?_ GE354.out) | exact HB.out)⟩
              · rw [if_neg c28] at H
                have c28b0 : decide (x11_3 < 99) = false := decide_eq_false c28
                clear c28
                replace H := Option.bind_eq_some_iff.mp H
                obtain ⟨t372, A370, H⟩ := H
                replace H : ((quipuref16_add.f x9_5 t372 8).bind fun t373 => (some t373)) = some r := H
                have A37 := Aside0.mk A370
                clear A370
                replace H := Option.bind_eq_some_iff.mp H
                obtain ⟨t373, A380, H⟩ := H
                replace H : (some t373) = some r := H
                have A38 := Aside0.mk A380
                clear A380
                obtain rfl := Option.some.inj H
                have hcz39_0 : wr.cell? ⟨gb354, 0, none⟩ = some (.string a3_0) := (blk_cell BK354.out 0).trans rfl
                have hcz39_1 : wr.cell? ⟨gb354, 1, none⟩ = some (.string a3_1) := (blk_cell BK354.out 1).trans rfl
                have hcz39_2 : wr.cell? ⟨gb354, 2, none⟩ = some (.string a3_2) := (blk_cell BK354.out 2).trans rfl
                have hcz39_3 : wr.cell? ⟨gb354, 3, none⟩ = some (.string a3_3) := (blk_cell BK354.out 3).trans rfl
                have hcz39_4 : wr.cell? ⟨gb354, 4, none⟩ = some (.string a3_4) := (blk_cell BK354.out 4).trans rfl
                have hcz39_5 : wr.cell? ⟨gb354, 5, none⟩ = some (.string a3_5) := (blk_cell BK354.out 5).trans rfl
                have hcz39_6 : wr.cell? ⟨gb354, 6, none⟩ = some (.string a3_6) := (blk_cell BK354.out 6).trans rfl
                have hcz39_7 : wr.cell? ⟨gb354, 7, none⟩ = some (.string a3_7) := (blk_cell BK354.out 7).trans rfl
                have hcz39_8 : wr.cell? ⟨gb354, 8, none⟩ = some (.string a3_8) := (blk_cell BK354.out 8).trans rfl
                have hcz39_9 : wr.cell? ⟨gb354, 9, none⟩ = some (.string a3_9) := (blk_cell BK354.out 9).trans rfl
                have hcz39_10 : wr.cell? ⟨gb354, 10, none⟩ = some (.string a3_10) := (blk_cell BK354.out 10).trans rfl
                have hcz39_11 : wr.cell? ⟨gb354, 11, none⟩ = some (.string a3_11) := (blk_cell BK354.out 11).trans rfl
                have hcz39_12 : wr.cell? ⟨gb354, 12, none⟩ = some (.string a3_12) := (blk_cell BK354.out 12).trans rfl
                have hcz39_13 : wr.cell? ⟨gb354, 13, none⟩ = some (.string a3_13) := (blk_cell BK354.out 13).trans rfl
                have hcz39_14 : wr.cell? ⟨gb354, 14, none⟩ = some (.string a3_14) := (blk_cell BK354.out 14).trans rfl
                have hcz39_15 : wr.cell? ⟨gb354, 15, none⟩ = some (.string a3_15) := (blk_cell BK354.out 15).trans rfl
                have hcz39_16 : wr.cell? ⟨gb354, 16, none⟩ = some (.string a3_16) := (blk_cell BK354.out 16).trans rfl
                have hcz39_17 : wr.cell? ⟨gb354, 17, none⟩ = some (.string a3_17) := (blk_cell BK354.out 17).trans rfl
                have hcz39_18 : wr.cell? ⟨gb354, 18, none⟩ = some (.string a3_18) := (blk_cell BK354.out 18).trans rfl
                have hcz39_19 : wr.cell? ⟨gb354, 19, none⟩ = some (.string a3_19) := (blk_cell BK354.out 19).trans rfl
                have hcz39_20 : wr.cell? ⟨gb354, 20, none⟩ = some (.string a3_20) := (blk_cell BK354.out 20).trans rfl
                have hfz39_0 := blk_frozen BK354.out 0
                have hfz39_1 := blk_frozen BK354.out 1
                have hfz39_2 := blk_frozen BK354.out 2
                have hfz39_3 := blk_frozen BK354.out 3
                have hfz39_4 := blk_frozen BK354.out 4
                have hfz39_5 := blk_frozen BK354.out 5
                have hfz39_6 := blk_frozen BK354.out 6
                have hfz39_7 := blk_frozen BK354.out 7
                have hfz39_8 := blk_frozen BK354.out 8
                have hfz39_9 := blk_frozen BK354.out 9
                have hfz39_10 := blk_frozen BK354.out 10
                have hfz39_11 := blk_frozen BK354.out 11
                have hfz39_12 := blk_frozen BK354.out 12
                have hfz39_13 := blk_frozen BK354.out 13
                have hfz39_14 := blk_frozen BK354.out 14
                have hfz39_15 := blk_frozen BK354.out 15
                have hfz39_16 := blk_frozen BK354.out 16
                have hfz39_17 := blk_frozen BK354.out 17
                have hfz39_18 := blk_frozen BK354.out 18
                have hfz39_19 := blk_frozen BK354.out 19
                have hfz39_20 := blk_frozen BK354.out 20
                go_wp2_with (first | ((with_reducible refine gate_dst (N := 47) rfl ?_); refine wpList_load_row rfl 26 (.tmp 7) rfl gb354 rfl 26 #[.string a3_0, .string a3_1, .string a3_2, .string a3_3, .string a3_4, .string a3_5, .string a3_6, .string a3_7, .string a3_8, .string a3_9, .string a3_10, .string a3_11, .string a3_12, .string a3_13, .string a3_14, .string a3_15, .string a3_16, .string a3_17, .string a3_18, .string a3_19, .string a3_20] (0, 0) _ (by (with_reducible repeat (first | refine blk_drewN ?_ _ | refine blk_drew ?_ | refine blk_alloc ?_ _)); exact BK354.out) Tryd.underlying26 rfl size26 ?_) | ((with_reducible refine gate_callee (f := 17) rfl ?_); refine goesL_ (some 48) rfl rfl Tryd.func17 (by kernel_rfl) rfl #[.string x10_3, .agg #[.string a3_0, .string a3_1, .string a3_2, .string a3_3, .string a3_4, .string a3_5, .string a3_6, .string a3_7, .string a3_8, .string a3_9, .string a3_10, .string a3_11, .string a3_12, .string a3_13, .string a3_14, .string a3_15, .string a3_16, .string a3_17, .string a3_18, .string a3_19, .string a3_20]] rfl (by (try simp only [List.map_toArray, List.map_cons, List.map_nil]); first | done | rfl | (simp only [List.length_drop, List.length_take]; rfl)) ?_; (with_reducible refine (quipuref16_Write.calls x10_3 a3_0 a3_1 a3_2 a3_3 a3_4 a3_5 a3_6 a3_7 a3_8 a3_9 a3_10 a3_11 a3_12 a3_13 a3_14 a3_15 a3_16 a3_17 a3_18 a3_19 a3_20 t372 _ A37.out).mono ?_); rintro e w40 ⟨rfl, hb⟩; refine ⟨_, rfl, ?_⟩; have n0_ := Aside0.mk (Kd.R_below (by (with_reducible repeat (first | apply Kd.R_alloc | apply Kd.R_drewN | apply Kd.R_drew)); exact HO_9.out) hb); have n1_ := Aside0.mk (blk_below (g := gb354) (o := .cells #[.string a3_0, .string a3_1, .string a3_2, .string a3_3, .string a3_4, .string a3_5, .string a3_6, .string a3_7, .string a3_8, .string a3_9, .string a3_10, .string a3_11, .string a3_12, .string a3_13, .string a3_14, .string a3_15, .string a3_16, .string a3_17, .string a3_18, .string a3_19, .string a3_20] 26 (0, 0)) (by (with_reducible repeat (first | refine blk_drewN ?_ _ | refine blk_drew ?_ | refine blk_alloc ?_ _)); exact BK354.out) hb); have n2_ := Aside0.mk (below_step (by repeat (first | (with_reducible first | exact HB.out | apply below_alloc | apply pw_below_drewN | apply below_drew1 | refine below_set ?_ GE354.out) | exact HB.out)) hb); clear HO_9; clear BK354; clear HB; have HO_9 := n0_; have BK354 := n1_; have HB := n2_; clear n0_ n1_ n2_; (try clear hb); (try clear hb2); (try clear hk); (try clear hi); obtain ⟨Ao41, co41, eo41⟩ := Kd.R_slice HO_9.out; subst eo41) | ((with_reducible refine gate_callee (f := 19) rfl ?_); refine goesL_ (some 49) rfl rfl Tryd.func19 (by kernel_rfl) rfl #[.slice Ao41 x9_5.length co41, .string t372, .int .i64 8] rfl (by (try simp only [List.map_toArray, List.map_cons, List.map_nil]); first | done | rfl | (simp only [List.length_drop, List.length_take]; rfl)) ?_; (with_reducible refine (quipuref16_add.calls (fun k_ => some k_ = (.slice Ao41 x9_5.length co41 : Value).ownBlock) (.slice Ao41 x9_5.length co41) x9_5 t372 8 t373 w _ ?side1 ?side2 A38.out).mono ?_); (case side1 => repeat (first | (with_reducible first | exact HB.out | apply below_alloc | apply pw_below_drewN | apply below_drew1 | refine below_set ?_ GE354.out) | exact HB.out)); (case side2 => exact Kd.R_tight rfl HO_9.out); rintro e w42 ⟨v374, rfl, ho0, hb, hkp⟩; refine ⟨_, rfl, ?_⟩; have n0_ := Aside0.mk (blk_kept (by (with_reducible repeat (first | refine blk_drewN ?_ _ | refine blk_drew ?_ | refine blk_alloc ?_ _)); exact BK354.out) hkp (fun hs_ => (fun e_ => (Kd.R_ne HO_9.out BK354.out (by decide)) e_) hs_)); have n1_ := Aside0.mk (Kd.R_mono (ok' := fun k_ => True) ho0 (fun k_ hk_ => trivial)); have n2_ := Aside0.mk (hb); clear BK354; clear HB; clear HO_9; have BK354 := n0_; have HO375 := n1_; have HB := n2_; clear n0_ n1_ n2_; (try clear hb); (try clear hkp); (try clear ho0)))
                go_ret
                exact ⟨_, by first | rfl | (simp [errW_none, errW_some] <;> rfl) | (simp [*, errW_none, errW_some] <;> rfl) | (simp only [ne_nil_b]; first | done | rfl) | (simp [ne_nil_b]; done), by (with_reducible repeat (first | apply Kd.R_alloc | apply Kd.R_drewN | apply Kd.R_drew)); exact HO375.out, by repeat (first | (with_reducible first | exact HB.out | apply below_alloc | apply pw_below_drewN | apply below_drew1 | refine below_set ?_ GE354.out) | exact HB.out)⟩
end Go.Proofs.YtefejkhcbelahaaDoor.Q
