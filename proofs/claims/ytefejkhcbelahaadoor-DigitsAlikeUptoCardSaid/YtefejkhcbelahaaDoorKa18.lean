import Derived.Test.YtefejkhcbelahaaDoorKa1
import Derived.Test.YtefejkhcbelahaaDoorKa6
import Derived.Test.YtefejkhcbelahaaDoorKa11
namespace Go.Proofs.YtefejkhcbelahaaDoor.Q
open Go.RowKit Go.Proofs.YtefejkhcbelahaaDoorW.PrintWords Go.Proofs.YtefejkhcbelahaaDoorW.PrintLast Go.Proofs.YtefejkhcbelahaaDoorW.PrintMore
attribute [local go_sem] max2_int min2_int max_two min_two max_three min_three max_four min_four   -- for this text's walks alone
set_option linter.unusedVariables false
set_option linter.unusedSimpArgs false
def digits_Exponent.j0 : Nat → Int → ByteArray → ByteArray → ByteArray → ByteArray → ByteArray → ByteArray → ByteArray → ByteArray → ByteArray → ByteArray → ByteArray → ByteArray → ByteArray → ByteArray → ByteArray → ByteArray → ByteArray → ByteArray → ByteArray → ByteArray → ByteArray → ByteArray → ByteArray → Option ((List (S34)))
  | 0, _, _, _, _, _, _, _, _, _, _, _, _, _, _, _, _, _, _, _, _, _, _, _, _ => none
  | k + 1, x1, x9, x10, x197000, x197001, x197002, x197003, x197004, x197005, x197006, x197007, x197008, x197009, x197010, x197011, x197012, x197013, x197014, x197015, x197016, x197017, x197018, x197019, x197020 => if (mn 99 (wrap64 ((mx x1 0) - (x10.size : Int)))) > 0 then ((strings_Repeat.f (⟨#[48]⟩ : ByteArray) (mn 99 (wrap64 ((mx x1 0) - (x10.size : Int))))).bind fun t200 => (if t200.size + x10.size ≤ 9223372036854775807 then ((digits_written.f (t200 ++ x10) x197000 x197001 x197002 x197003 x197004 x197005 x197006 x197007 x197008 x197009 x197010 x197011 x197012 x197013 x197014 x197015 x197016 x197017 x197018 x197019 x197020).bind fun t201 => ((strings_Join.f t201 (⟨#[]⟩ : ByteArray)).bind fun t204 => ((digits_full.f (([(⟨x197016, 6⟩ : S34), (⟨x9, 7⟩ : S34), (⟨t204, 8⟩ : S34)] : List (S34)))).bind fun t208 => (some t208)))) else (none))) else ((digits_written.f x10 x197000 x197001 x197002 x197003 x197004 x197005 x197006 x197007 x197008 x197009 x197010 x197011 x197012 x197013 x197014 x197015 x197016 x197017 x197018 x197019 x197020).bind fun t211 => ((strings_Join.f t211 (⟨#[]⟩ : ByteArray)).bind fun t214 => ((digits_full.f (([(⟨x197016, 6⟩ : S34), (⟨x9, 7⟩ : S34), (⟨t214, 8⟩ : S34)] : List (S34)))).bind fun t218 => (some t218))))
def digits_Exponent.f (k : Nat) (a0 : Int) (a1 : Int) (a2 : Bool) (a3_0 : ByteArray) (a3_1 : ByteArray) (a3_2 : ByteArray) (a3_3 : ByteArray) (a3_4 : ByteArray) (a3_5 : ByteArray) (a3_6 : ByteArray) (a3_7 : ByteArray) (a3_8 : ByteArray) (a3_9 : ByteArray) (a3_10 : ByteArray) (a3_11 : ByteArray) (a3_12 : ByteArray) (a3_13 : ByteArray) (a3_14 : ByteArray) (a3_15 : ByteArray) (a3_16 : ByteArray) (a3_17 : ByteArray) (a3_18 : ByteArray) (a3_19 : ByteArray) (a3_20 : ByteArray) : Option ((List (S34))) := (strconv_Itoa.f a0).bind fun t197 => ((strings_CutPrefix.f t197 (⟨#[45]⟩ : ByteArray)).bind fun bt198 => (if bt198.2 = true then (digits_Exponent.j0 k a1 a3_12 bt198.1 a3_0 a3_1 a3_2 a3_3 a3_4 a3_5 a3_6 a3_7 a3_8 a3_9 a3_10 a3_11 a3_12 a3_13 a3_14 a3_15 a3_16 a3_17 a3_18 a3_19 a3_20) else (if a2 = true then (digits_Exponent.j0 k a1 a3_13 bt198.1 a3_0 a3_1 a3_2 a3_3 a3_4 a3_5 a3_6 a3_7 a3_8 a3_9 a3_10 a3_11 a3_12 a3_13 a3_14 a3_15 a3_16 a3_17 a3_18 a3_19 a3_20) else (digits_Exponent.j0 k a1 (⟨#[]⟩ : ByteArray) bt198.1 a3_0 a3_1 a3_2 a3_3 a3_4 a3_5 a3_6 a3_7 a3_8 a3_9 a3_10 a3_11 a3_12 a3_13 a3_14 a3_15 a3_16 a3_17 a3_18 a3_19 a3_20))))
def digits_Exponent.T10 : Bool × List (List Nat × List Nat) := (true, [([], []), ([0], [0]), ([1], [1]), ([], []), ([3], [3]), ([], []), ([], []), ([5, 6], [5, 6]), ([7, 7], [7]), ([8], [8]), ([2, 4, 9], [2, 4, 9]), ([10, 8], [10]), ([11, 11, 0, 1, 2, 3, 4, 5, 6, 7, 8, 9, 10, 11], [11])])
def digits_Exponent.B10 : List Nat := [0, 1, 3, 0, 8, 0, 0, 96, 224, 480, 1023, 2047, 4095]
theorem digits_Exponent.tab10 : rtab .any (opsOf Tryd.f12 10) = digits_Exponent.T10 := by kernel_rfl
theorem digits_Exponent.bits10 : waitsOk digits_Exponent.T10.2 digits_Exponent.B10 = true := by kernel_rfl
set_option maxHeartbeats 8000000 in
set_option maxRecDepth 100000 in
theorem digits_Exponent.calls (k : Nat) (a0 : Int) (a1 : Int) (a2 : Bool) (a3_0 : ByteArray) (a3_1 : ByteArray) (a3_2 : ByteArray) (a3_3 : ByteArray) (a3_4 : ByteArray) (a3_5 : ByteArray) (a3_6 : ByteArray) (a3_7 : ByteArray) (a3_8 : ByteArray) (a3_9 : ByteArray) (a3_10 : ByteArray) (a3_11 : ByteArray) (a3_12 : ByteArray) (a3_13 : ByteArray) (a3_14 : ByteArray) (a3_15 : ByteArray) (a3_16 : ByteArray) (a3_17 : ByteArray) (a3_18 : ByteArray) (a3_19 : ByteArray) (a3_20 : ByteArray) (r : List (S34)) (w : World) (hG : Gd w) (h : digits_Exponent.f k a0 a1 a2 a3_0 a3_1 a3_2 a3_3 a3_4 a3_5 a3_6 a3_7 a3_8 a3_9 a3_10 a3_11 a3_12 a3_13 a3_14 a3_15 a3_16 a3_17 a3_18 a3_19 a3_20 = some r) :
    Calls Tryd.prog 12 #[.int .i64 a0, .int .i64 a1, .bool a2, .agg #[.string a3_0, .string a3_1, .string a3_2, .string a3_3, .string a3_4, .string a3_5, .string a3_6, .string a3_7, .string a3_8, .string a3_9, .string a3_10, .string a3_11, .string a3_12, .string a3_13, .string a3_14, .string a3_15, .string a3_16, .string a3_17, .string a3_18, .string a3_19, .string a3_20]] w fun e w' => ∃ v0_ : Value, e = .returned (v0_) ∧ Kd.R k34 34 w' w.heap.size (fun _ => True) v0_ r ∧ Below w.heap.size w w' := by
  have hu26 := Tryd.underlying26
  have hu34 := Tryd.underlying34
  have HB := Aside0.mk (Below.refl w.heap.size w)
  have HG := Aside0.mk hG
  clear hG
  have H : ((strconv_Itoa.f a0).bind fun t197 => ((strings_CutPrefix.f t197 (⟨#[45]⟩ : ByteArray)).bind fun bt198 => (if bt198.2 = true then (digits_Exponent.j0 k a1 a3_12 bt198.1 a3_0 a3_1 a3_2 a3_3 a3_4 a3_5 a3_6 a3_7 a3_8 a3_9 a3_10 a3_11 a3_12 a3_13 a3_14 a3_15 a3_16 a3_17 a3_18 a3_19 a3_20) else (if a2 = true then (digits_Exponent.j0 k a1 a3_13 bt198.1 a3_0 a3_1 a3_2 a3_3 a3_4 a3_5 a3_6 a3_7 a3_8 a3_9 a3_10 a3_11 a3_12 a3_13 a3_14 a3_15 a3_16 a3_17 a3_18 a3_19 a3_20) else (digits_Exponent.j0 k a1 (⟨#[]⟩ : ByteArray) bt198.1 a3_0 a3_1 a3_2 a3_3 a3_4 a3_5 a3_6 a3_7 a3_8 a3_9 a3_10 a3_11 a3_12 a3_13 a3_14 a3_15 a3_16 a3_17 a3_18 a3_19 a3_20))))) = some r := h
  clear h
  replace H := Option.bind_eq_some_iff.mp H
  obtain ⟨t197, A50, H⟩ := H
  replace H : ((strings_CutPrefix.f t197 (⟨#[45]⟩ : ByteArray)).bind fun bt198 => (if bt198.2 = true then (digits_Exponent.j0 k a1 a3_12 bt198.1 a3_0 a3_1 a3_2 a3_3 a3_4 a3_5 a3_6 a3_7 a3_8 a3_9 a3_10 a3_11 a3_12 a3_13 a3_14 a3_15 a3_16 a3_17 a3_18 a3_19 a3_20) else (if a2 = true then (digits_Exponent.j0 k a1 a3_13 bt198.1 a3_0 a3_1 a3_2 a3_3 a3_4 a3_5 a3_6 a3_7 a3_8 a3_9 a3_10 a3_11 a3_12 a3_13 a3_14 a3_15 a3_16 a3_17 a3_18 a3_19 a3_20) else (digits_Exponent.j0 k a1 (⟨#[]⟩ : ByteArray) bt198.1 a3_0 a3_1 a3_2 a3_3 a3_4 a3_5 a3_6 a3_7 a3_8 a3_9 a3_10 a3_11 a3_12 a3_13 a3_14 a3_15 a3_16 a3_17 a3_18 a3_19 a3_20)))) = some r := H
  have A5 := Aside0.mk A50
  clear A50
  replace H := Option.bind_eq_some_iff.mp H
  obtain ⟨⟨t198, t199⟩, A60, H⟩ := H
  replace H : (if t199 = true then (digits_Exponent.j0 k a1 a3_12 t198 a3_0 a3_1 a3_2 a3_3 a3_4 a3_5 a3_6 a3_7 a3_8 a3_9 a3_10 a3_11 a3_12 a3_13 a3_14 a3_15 a3_16 a3_17 a3_18 a3_19 a3_20) else (if a2 = true then (digits_Exponent.j0 k a1 a3_13 t198 a3_0 a3_1 a3_2 a3_3 a3_4 a3_5 a3_6 a3_7 a3_8 a3_9 a3_10 a3_11 a3_12 a3_13 a3_14 a3_15 a3_16 a3_17 a3_18 a3_19 a3_20) else (digits_Exponent.j0 k a1 (⟨#[]⟩ : ByteArray) t198 a3_0 a3_1 a3_2 a3_3 a3_4 a3_5 a3_6 a3_7 a3_8 a3_9 a3_10 a3_11 a3_12 a3_13 a3_14 a3_15 a3_16 a3_17 a3_18 a3_19 a3_20))) = some r := H
  have A6 := Aside0.mk A60
  clear A60
  have HC7 := Aside0.mk H
  clear H
  go_enter Tryd.func12, Tryd.ntmps12
  go_upto_block 0 with (first | ((with_reducible refine gate_dst (N := 45) rfl ?_); refine wpList_load_row rfl 26 (.tmp 7) rfl gb196 rfl 26 #[.string a3_0, .string a3_1, .string a3_2, .string a3_3, .string a3_4, .string a3_5, .string a3_6, .string a3_7, .string a3_8, .string a3_9, .string a3_10, .string a3_11, .string a3_12, .string a3_13, .string a3_14, .string a3_15, .string a3_16, .string a3_17, .string a3_18, .string a3_19, .string a3_20] (0, 0) _ (by (with_reducible repeat (first | refine blk_drewN ?_ _ | refine blk_drew ?_ | refine blk_alloc ?_ _)); exact BK196.out) Tryd.underlying26 rfl size26 ?_) | ((with_reducible refine gate_dst (N := 7) rfl ?_); refine box_event ?hg (N := 7) ?hd (cs := #[.string a3_0, .string a3_1, .string a3_2, .string a3_3, .string a3_4, .string a3_5, .string a3_6, .string a3_7, .string a3_8, .string a3_9, .string a3_10, .string a3_11, .string a3_12, .string a3_13, .string a3_14, .string a3_15, .string a3_16, .string a3_17, .string a3_18, .string a3_19, .string a3_20]) (t := 26) ?hr ?_; (case hd => rfl); (case hg => rfl); (case hr => first | (go_simp; done) | (go_simp; rfl)); intro gb196 hg w8 hbox hb; have n0_ := Aside0.mk (below_step (by repeat (first | (with_reducible first | exact HB.out | apply below_alloc | apply pw_below_drewN | apply below_drew1) | exact HB.out)) hb); have n1_ := Aside0.mk (hbox); have n2_ := Aside0.mk ((by rw [hg]; exact (below_size (by repeat (first | (with_reducible first | exact HB.out | apply below_alloc | apply pw_below_drewN | apply below_drew1) | exact HB.out))) : w.heap.size ≤ gb196)); have n3_ := Aside0.mk ((by rw [hg]; exact (below_size (by repeat (first | (with_reducible first | exact HB.out | apply below_alloc | apply pw_below_drewN | apply below_drew1) | exact HB.out))) : w.heap.size ≤ gb196)); clear HB; have HB := n0_; have BK196 := n1_; have GW196 := n2_; have GE196 := n3_; clear n0_ n1_ n2_ n3_; clear hb hbox hg) | ((with_reducible refine gate_callee (f := 22) rfl ?_); refine goesL_ (some 15) rfl rfl Tryd.func22 (by kernel_rfl) rfl #[.int .i64 a0] rfl (by (try simp only [List.map_toArray, List.map_cons, List.map_nil]); first | done | rfl | (simp only [List.length_drop, List.length_take]; rfl)) ?_; (with_reducible refine (strconv_Itoa.calls a0 t197 _ (Gd.below HG.out (by repeat (first | (with_reducible first | exact HB.out | apply below_alloc | apply pw_below_drewN | apply below_drew1 | refine below_set ?_ GE196.out) | exact HB.out))) A5.out).mono ?_); rintro e w9 ⟨rfl, hb⟩; refine ⟨_, rfl, ?_⟩; have n0_ := Aside0.mk (blk_below (g := gb196) (o := .cells #[.string a3_0, .string a3_1, .string a3_2, .string a3_3, .string a3_4, .string a3_5, .string a3_6, .string a3_7, .string a3_8, .string a3_9, .string a3_10, .string a3_11, .string a3_12, .string a3_13, .string a3_14, .string a3_15, .string a3_16, .string a3_17, .string a3_18, .string a3_19, .string a3_20] 26 (0, 0)) (by (with_reducible repeat (first | refine blk_drewN ?_ _ | refine blk_drew ?_ | refine blk_alloc ?_ _)); exact BK196.out) hb); have n1_ := Aside0.mk (below_step (by repeat (first | (with_reducible first | exact HB.out | apply below_alloc | apply pw_below_drewN | apply below_drew1 | refine below_set ?_ GE196.out) | exact HB.out)) hb); clear BK196; clear HB; have BK196 := n0_; have HB := n1_; clear n0_ n1_; (try clear hb); (try clear hb2); (try clear hk); (try clear hi)) | ((with_reducible refine gate_callee (f := 21) rfl ?_); refine goesL_ (some 16) rfl rfl Tryd.func21 (by kernel_rfl) rfl #[.string t197, .string (⟨#[45]⟩ : ByteArray)] rfl (by (try simp only [List.map_toArray, List.map_cons, List.map_nil]); first | done | rfl | (simp only [List.length_drop, List.length_take]; rfl)) ?_; (with_reducible refine (strings_CutPrefix.calls t197 (⟨#[45]⟩ : ByteArray) t198 t199 _ A6.out).mono ?_); rintro e w10 ⟨rfl, hb⟩; refine ⟨_, rfl, ?_⟩; have n0_ := Aside0.mk (blk_below (g := gb196) (o := .cells #[.string a3_0, .string a3_1, .string a3_2, .string a3_3, .string a3_4, .string a3_5, .string a3_6, .string a3_7, .string a3_8, .string a3_9, .string a3_10, .string a3_11, .string a3_12, .string a3_13, .string a3_14, .string a3_15, .string a3_16, .string a3_17, .string a3_18, .string a3_19, .string a3_20] 26 (0, 0)) (by (with_reducible repeat (first | refine blk_drewN ?_ _ | refine blk_drew ?_ | refine blk_alloc ?_ _)); exact BK196.out) hb); have n1_ := Aside0.mk (below_step (by repeat (first | (with_reducible first | exact HB.out | apply below_alloc | apply pw_below_drewN | apply below_drew1 | refine below_set ?_ GE196.out) | exact HB.out)) hb); clear BK196; clear HB; have BK196 := n0_; have HB := n1_; clear n0_ n1_; (try clear hb); (try clear hb2); (try clear hk); (try clear hi)))
  (try simp only [Act.put, List.setIfInBounds_toArray, List.set_cons_zero, List.set_cons_succ])
  go_cut [9] (fun v9 wc => ∃ (kq : Nat) (x9_6 : ByteArray), v9 = .string x9_6 ∧ Aside0 (digits_Exponent.j0 kq a1 x9_6 t198 a3_0 a3_1 a3_2 a3_3 a3_4 a3_5 a3_6 a3_7 a3_8 a3_9 a3_10 a3_11 a3_12 a3_13 a3_14 a3_15 a3_16 a3_17 a3_18 a3_19 a3_20 = some r) ∧ Aside0 (kq ≤ k) ∧ Aside0 (wc.heap[gb196]? = some (.cells #[.string a3_0, .string a3_1, .string a3_2, .string a3_3, .string a3_4, .string a3_5, .string a3_6, .string a3_7, .string a3_8, .string a3_9, .string a3_10, .string a3_11, .string a3_12, .string a3_13, .string a3_14, .string a3_15, .string a3_16, .string a3_17, .string a3_18, .string a3_19, .string a3_20] 26 (0, 0))) ∧ Aside0 (Below w.heap.size w wc))
  case first =>
    have H := HC7.out
    clear HC7
    by_cases c11 : t199 = true
    · subst c11
      have H1 : (digits_Exponent.j0 k a1 a3_12 t198 a3_0 a3_1 a3_2 a3_3 a3_4 a3_5 a3_6 a3_7 a3_8 a3_9 a3_10 a3_11 a3_12 a3_13 a3_14 a3_15 a3_16 a3_17 a3_18 a3_19 a3_20) = some r := by rw [if_pos rfl] at H; exact H
      clear H
      have H := H1
      clear H1
      have H' := Aside0.mk H
      clear H
      have hcz12_0 : w10.cell? ⟨gb196, 0, none⟩ = some (.string a3_0) := (blk_cell BK196.out 0).trans rfl
      have hcz12_1 : w10.cell? ⟨gb196, 1, none⟩ = some (.string a3_1) := (blk_cell BK196.out 1).trans rfl
      have hcz12_2 : w10.cell? ⟨gb196, 2, none⟩ = some (.string a3_2) := (blk_cell BK196.out 2).trans rfl
      have hcz12_3 : w10.cell? ⟨gb196, 3, none⟩ = some (.string a3_3) := (blk_cell BK196.out 3).trans rfl
      have hcz12_4 : w10.cell? ⟨gb196, 4, none⟩ = some (.string a3_4) := (blk_cell BK196.out 4).trans rfl
      have hcz12_5 : w10.cell? ⟨gb196, 5, none⟩ = some (.string a3_5) := (blk_cell BK196.out 5).trans rfl
      have hcz12_6 : w10.cell? ⟨gb196, 6, none⟩ = some (.string a3_6) := (blk_cell BK196.out 6).trans rfl
      have hcz12_7 : w10.cell? ⟨gb196, 7, none⟩ = some (.string a3_7) := (blk_cell BK196.out 7).trans rfl
      have hcz12_8 : w10.cell? ⟨gb196, 8, none⟩ = some (.string a3_8) := (blk_cell BK196.out 8).trans rfl
      have hcz12_9 : w10.cell? ⟨gb196, 9, none⟩ = some (.string a3_9) := (blk_cell BK196.out 9).trans rfl
      have hcz12_10 : w10.cell? ⟨gb196, 10, none⟩ = some (.string a3_10) := (blk_cell BK196.out 10).trans rfl
      have hcz12_11 : w10.cell? ⟨gb196, 11, none⟩ = some (.string a3_11) := (blk_cell BK196.out 11).trans rfl
      have hcz12_12 : w10.cell? ⟨gb196, 12, none⟩ = some (.string a3_12) := (blk_cell BK196.out 12).trans rfl
      have hcz12_13 : w10.cell? ⟨gb196, 13, none⟩ = some (.string a3_13) := (blk_cell BK196.out 13).trans rfl
      have hcz12_14 : w10.cell? ⟨gb196, 14, none⟩ = some (.string a3_14) := (blk_cell BK196.out 14).trans rfl
      have hcz12_15 : w10.cell? ⟨gb196, 15, none⟩ = some (.string a3_15) := (blk_cell BK196.out 15).trans rfl
      have hcz12_16 : w10.cell? ⟨gb196, 16, none⟩ = some (.string a3_16) := (blk_cell BK196.out 16).trans rfl
      have hcz12_17 : w10.cell? ⟨gb196, 17, none⟩ = some (.string a3_17) := (blk_cell BK196.out 17).trans rfl
      have hcz12_18 : w10.cell? ⟨gb196, 18, none⟩ = some (.string a3_18) := (blk_cell BK196.out 18).trans rfl
      have hcz12_19 : w10.cell? ⟨gb196, 19, none⟩ = some (.string a3_19) := (blk_cell BK196.out 19).trans rfl
      have hcz12_20 : w10.cell? ⟨gb196, 20, none⟩ = some (.string a3_20) := (blk_cell BK196.out 20).trans rfl
      have hfz12_0 := blk_frozen BK196.out 0
      have hfz12_1 := blk_frozen BK196.out 1
      have hfz12_2 := blk_frozen BK196.out 2
      have hfz12_3 := blk_frozen BK196.out 3
      have hfz12_4 := blk_frozen BK196.out 4
      have hfz12_5 := blk_frozen BK196.out 5
      have hfz12_6 := blk_frozen BK196.out 6
      have hfz12_7 := blk_frozen BK196.out 7
      have hfz12_8 := blk_frozen BK196.out 8
      have hfz12_9 := blk_frozen BK196.out 9
      have hfz12_10 := blk_frozen BK196.out 10
      have hfz12_11 := blk_frozen BK196.out 11
      have hfz12_12 := blk_frozen BK196.out 12
      have hfz12_13 := blk_frozen BK196.out 13
      have hfz12_14 := blk_frozen BK196.out 14
      have hfz12_15 := blk_frozen BK196.out 15
      have hfz12_16 := blk_frozen BK196.out 16
      have hfz12_17 := blk_frozen BK196.out 17
      have hfz12_18 := blk_frozen BK196.out 18
      have hfz12_19 := blk_frozen BK196.out 19
      have hfz12_20 := blk_frozen BK196.out 20
      go_wp2
      go_meet
      case rel => exact ⟨_, (a3_12), (by first | rfl | (simp; done) | (simp [*]; done)), H', ⟨by first | omega | exact Nat.le_refl _⟩, ⟨by (with_reducible repeat (first | refine blk_drewN ?_ _ | refine blk_drew ?_ | refine blk_alloc ?_ _)); exact BK196.out⟩, ⟨by repeat (first | (with_reducible first | exact HB.out | apply below_alloc | apply pw_below_drewN | apply below_drew1 | refine below_set ?_ GE196.out) | exact HB.out)⟩⟩
    · replace c11 := Bool.eq_false_iff.mpr c11
      subst c11
      have H1 : (if a2 = true then (digits_Exponent.j0 k a1 a3_13 t198 a3_0 a3_1 a3_2 a3_3 a3_4 a3_5 a3_6 a3_7 a3_8 a3_9 a3_10 a3_11 a3_12 a3_13 a3_14 a3_15 a3_16 a3_17 a3_18 a3_19 a3_20) else (digits_Exponent.j0 k a1 (⟨#[]⟩ : ByteArray) t198 a3_0 a3_1 a3_2 a3_3 a3_4 a3_5 a3_6 a3_7 a3_8 a3_9 a3_10 a3_11 a3_12 a3_13 a3_14 a3_15 a3_16 a3_17 a3_18 a3_19 a3_20)) = some r := by rw [if_neg (show ¬ (false = true) by decide)] at H; exact H
      clear H
      have H := H1
      clear H1
      by_cases c13 : a2 = true
      · subst c13
        have H1 : (digits_Exponent.j0 k a1 a3_13 t198 a3_0 a3_1 a3_2 a3_3 a3_4 a3_5 a3_6 a3_7 a3_8 a3_9 a3_10 a3_11 a3_12 a3_13 a3_14 a3_15 a3_16 a3_17 a3_18 a3_19 a3_20) = some r := by rw [if_pos rfl] at H; exact H
        clear H
        have H := H1
        clear H1
        have H' := Aside0.mk H
        clear H
        have hcz14_0 : w10.cell? ⟨gb196, 0, none⟩ = some (.string a3_0) := (blk_cell BK196.out 0).trans rfl
        have hcz14_1 : w10.cell? ⟨gb196, 1, none⟩ = some (.string a3_1) := (blk_cell BK196.out 1).trans rfl
        have hcz14_2 : w10.cell? ⟨gb196, 2, none⟩ = some (.string a3_2) := (blk_cell BK196.out 2).trans rfl
        have hcz14_3 : w10.cell? ⟨gb196, 3, none⟩ = some (.string a3_3) := (blk_cell BK196.out 3).trans rfl
        have hcz14_4 : w10.cell? ⟨gb196, 4, none⟩ = some (.string a3_4) := (blk_cell BK196.out 4).trans rfl
        have hcz14_5 : w10.cell? ⟨gb196, 5, none⟩ = some (.string a3_5) := (blk_cell BK196.out 5).trans rfl
        have hcz14_6 : w10.cell? ⟨gb196, 6, none⟩ = some (.string a3_6) := (blk_cell BK196.out 6).trans rfl
        have hcz14_7 : w10.cell? ⟨gb196, 7, none⟩ = some (.string a3_7) := (blk_cell BK196.out 7).trans rfl
        have hcz14_8 : w10.cell? ⟨gb196, 8, none⟩ = some (.string a3_8) := (blk_cell BK196.out 8).trans rfl
        have hcz14_9 : w10.cell? ⟨gb196, 9, none⟩ = some (.string a3_9) := (blk_cell BK196.out 9).trans rfl
        have hcz14_10 : w10.cell? ⟨gb196, 10, none⟩ = some (.string a3_10) := (blk_cell BK196.out 10).trans rfl
        have hcz14_11 : w10.cell? ⟨gb196, 11, none⟩ = some (.string a3_11) := (blk_cell BK196.out 11).trans rfl
        have hcz14_12 : w10.cell? ⟨gb196, 12, none⟩ = some (.string a3_12) := (blk_cell BK196.out 12).trans rfl
        have hcz14_13 : w10.cell? ⟨gb196, 13, none⟩ = some (.string a3_13) := (blk_cell BK196.out 13).trans rfl
        have hcz14_14 : w10.cell? ⟨gb196, 14, none⟩ = some (.string a3_14) := (blk_cell BK196.out 14).trans rfl
        have hcz14_15 : w10.cell? ⟨gb196, 15, none⟩ = some (.string a3_15) := (blk_cell BK196.out 15).trans rfl
        have hcz14_16 : w10.cell? ⟨gb196, 16, none⟩ = some (.string a3_16) := (blk_cell BK196.out 16).trans rfl
        have hcz14_17 : w10.cell? ⟨gb196, 17, none⟩ = some (.string a3_17) := (blk_cell BK196.out 17).trans rfl
        have hcz14_18 : w10.cell? ⟨gb196, 18, none⟩ = some (.string a3_18) := (blk_cell BK196.out 18).trans rfl
        have hcz14_19 : w10.cell? ⟨gb196, 19, none⟩ = some (.string a3_19) := (blk_cell BK196.out 19).trans rfl
        have hcz14_20 : w10.cell? ⟨gb196, 20, none⟩ = some (.string a3_20) := (blk_cell BK196.out 20).trans rfl
        have hfz14_0 := blk_frozen BK196.out 0
        have hfz14_1 := blk_frozen BK196.out 1
        have hfz14_2 := blk_frozen BK196.out 2
        have hfz14_3 := blk_frozen BK196.out 3
        have hfz14_4 := blk_frozen BK196.out 4
        have hfz14_5 := blk_frozen BK196.out 5
        have hfz14_6 := blk_frozen BK196.out 6
        have hfz14_7 := blk_frozen BK196.out 7
        have hfz14_8 := blk_frozen BK196.out 8
        have hfz14_9 := blk_frozen BK196.out 9
        have hfz14_10 := blk_frozen BK196.out 10
        have hfz14_11 := blk_frozen BK196.out 11
        have hfz14_12 := blk_frozen BK196.out 12
        have hfz14_13 := blk_frozen BK196.out 13
        have hfz14_14 := blk_frozen BK196.out 14
        have hfz14_15 := blk_frozen BK196.out 15
        have hfz14_16 := blk_frozen BK196.out 16
        have hfz14_17 := blk_frozen BK196.out 17
        have hfz14_18 := blk_frozen BK196.out 18
        have hfz14_19 := blk_frozen BK196.out 19
        have hfz14_20 := blk_frozen BK196.out 20
        go_wp2
        go_meet
        case rel => exact ⟨_, (a3_13), (by first | rfl | (simp; done) | (simp [*]; done)), H', ⟨by first | omega | exact Nat.le_refl _⟩, ⟨by (with_reducible repeat (first | refine blk_drewN ?_ _ | refine blk_drew ?_ | refine blk_alloc ?_ _)); exact BK196.out⟩, ⟨by repeat (first | (with_reducible first | exact HB.out | apply below_alloc | apply pw_below_drewN | apply below_drew1 | refine below_set ?_ GE196.out) | exact HB.out)⟩⟩
      · replace c13 := Bool.eq_false_iff.mpr c13
        subst c13
        have H1 : (digits_Exponent.j0 k a1 (⟨#[]⟩ : ByteArray) t198 a3_0 a3_1 a3_2 a3_3 a3_4 a3_5 a3_6 a3_7 a3_8 a3_9 a3_10 a3_11 a3_12 a3_13 a3_14 a3_15 a3_16 a3_17 a3_18 a3_19 a3_20) = some r := by rw [if_neg (show ¬ (false = true) by decide)] at H; exact H
        clear H
        have H := H1
        clear H1
        have H' := Aside0.mk H
        clear H
        go_wp2
        go_meet
        case rel => exact ⟨_, ((⟨#[]⟩ : ByteArray)), (by first | rfl | (simp; done) | (simp [*]; done)), H', ⟨by first | omega | exact Nat.le_refl _⟩, ⟨by (with_reducible repeat (first | refine blk_drewN ?_ _ | refine blk_drew ?_ | refine blk_alloc ?_ _)); exact BK196.out⟩, ⟨by repeat (first | (with_reducible first | exact HB.out | apply below_alloc | apply pw_below_drewN | apply below_drew1 | refine below_set ?_ GE196.out) | exact HB.out)⟩⟩
  case rest =>
    clear HC7
    try clear c1
    try clear c2
    try clear p2
    try clear c11
    try clear c12
    try clear c13
    try clear hcz12_0
    try clear hcz12_1
    try clear hcz12_10
    try clear hcz12_11
    try clear hcz12_12
    try clear hcz12_13
    try clear hcz12_14
    try clear hcz12_15
    try clear hcz12_16
    try clear hcz12_17
    try clear hcz12_18
    try clear hcz12_19
    try clear hcz12_2
    try clear hcz12_20
    try clear hcz12_3
    try clear hcz12_4
    try clear hcz12_5
    try clear hcz12_6
    try clear hcz12_7
    try clear hcz12_8
    try clear hcz12_9
    try clear hcz14_0
    try clear hcz14_1
    try clear hcz14_10
    try clear hcz14_11
    try clear hcz14_12
    try clear hcz14_13
    try clear hcz14_14
    try clear hcz14_15
    try clear hcz14_16
    try clear hcz14_17
    try clear hcz14_18
    try clear hcz14_19
    try clear hcz14_2
    try clear hcz14_20
    try clear hcz14_3
    try clear hcz14_4
    try clear hcz14_5
    try clear hcz14_6
    try clear hcz14_7
    try clear hcz14_8
    try clear hcz14_9
    try clear hfz12_0
    try clear hfz12_1
    try clear hfz12_10
    try clear hfz12_11
    try clear hfz12_12
    try clear hfz12_13
    try clear hfz12_14
    try clear hfz12_15
    try clear hfz12_16
    try clear hfz12_17
    try clear hfz12_18
    try clear hfz12_19
    try clear hfz12_2
    try clear hfz12_20
    try clear hfz12_3
    try clear hfz12_4
    try clear hfz12_5
    try clear hfz12_6
    try clear hfz12_7
    try clear hfz12_8
    try clear hfz12_9
    try clear hfz14_0
    try clear hfz14_1
    try clear hfz14_10
    try clear hfz14_11
    try clear hfz14_12
    try clear hfz14_13
    try clear hfz14_14
    try clear hfz14_15
    try clear hfz14_16
    try clear hfz14_17
    try clear hfz14_18
    try clear hfz14_19
    try clear hfz14_2
    try clear hfz14_20
    try clear hfz14_3
    try clear hfz14_4
    try clear hfz14_5
    try clear hfz14_6
    try clear hfz14_7
    try clear hfz14_8
    try clear hfz14_9
    obtain ⟨kq, x9_6, rfl, HA, HJ6, BK196, HB⟩ := hcut
    cases kq with
    | zero => exact absurd HA.out (by simp [digits_Exponent.j0])
    | succ kj6 =>
      have H := HA.out
      clear HA
      simp only [digits_Exponent.j0] at H
      obtain ⟨ji15, hji15⟩ : ∃ j_ : Int, (mx a1 0) = j_ := ⟨_, rfl⟩
      replace H : (if (mn 99 (wrap64 ((ji15) - (t198.size : Int)))) > 0 then ((strings_Repeat.f (⟨#[48]⟩ : ByteArray) (mn 99 (wrap64 ((ji15) - (t198.size : Int))))).bind fun t200 => (if t200.size + t198.size ≤ 9223372036854775807 then ((digits_written.f (t200 ++ t198) a3_0 a3_1 a3_2 a3_3 a3_4 a3_5 a3_6 a3_7 a3_8 a3_9 a3_10 a3_11 a3_12 a3_13 a3_14 a3_15 a3_16 a3_17 a3_18 a3_19 a3_20).bind fun t201 => ((strings_Join.f t201 (⟨#[]⟩ : ByteArray)).bind fun t204 => ((digits_full.f (([(⟨a3_16, 6⟩ : S34), (⟨x9_6, 7⟩ : S34), (⟨t204, 8⟩ : S34)] : List (S34)))).bind fun t208 => (some t208)))) else (none))) else ((digits_written.f t198 a3_0 a3_1 a3_2 a3_3 a3_4 a3_5 a3_6 a3_7 a3_8 a3_9 a3_10 a3_11 a3_12 a3_13 a3_14 a3_15 a3_16 a3_17 a3_18 a3_19 a3_20).bind fun t211 => ((strings_Join.f t211 (⟨#[]⟩ : ByteArray)).bind fun t214 => ((digits_full.f (([(⟨a3_16, 6⟩ : S34), (⟨x9_6, 7⟩ : S34), (⟨t214, 8⟩ : S34)] : List (S34)))).bind fun t218 => (some t218))))) = some r := by first | (rw [hji15] at H; exact H) | (simp only [hji15] at H ⊢; exact H)
      have hji15_ : (if a1 < 0 then 0 else a1) = ji15 := hji15
      obtain ⟨ji16, hji16⟩ : ∃ j_ : Int, (mn 99 (wrap64 ((ji15) - (t198.size : Int)))) = j_ := ⟨_, rfl⟩
      replace H : (if (ji16) > 0 then ((strings_Repeat.f (⟨#[48]⟩ : ByteArray) (ji16)).bind fun t200 => (if t200.size + t198.size ≤ 9223372036854775807 then ((digits_written.f (t200 ++ t198) a3_0 a3_1 a3_2 a3_3 a3_4 a3_5 a3_6 a3_7 a3_8 a3_9 a3_10 a3_11 a3_12 a3_13 a3_14 a3_15 a3_16 a3_17 a3_18 a3_19 a3_20).bind fun t201 => ((strings_Join.f t201 (⟨#[]⟩ : ByteArray)).bind fun t204 => ((digits_full.f (([(⟨a3_16, 6⟩ : S34), (⟨x9_6, 7⟩ : S34), (⟨t204, 8⟩ : S34)] : List (S34)))).bind fun t208 => (some t208)))) else (none))) else ((digits_written.f t198 a3_0 a3_1 a3_2 a3_3 a3_4 a3_5 a3_6 a3_7 a3_8 a3_9 a3_10 a3_11 a3_12 a3_13 a3_14 a3_15 a3_16 a3_17 a3_18 a3_19 a3_20).bind fun t211 => ((strings_Join.f t211 (⟨#[]⟩ : ByteArray)).bind fun t214 => ((digits_full.f (([(⟨a3_16, 6⟩ : S34), (⟨x9_6, 7⟩ : S34), (⟨t214, 8⟩ : S34)] : List (S34)))).bind fun t218 => (some t218))))) = some r := by first | (rw [hji16] at H; exact H) | (simp only [hji16] at H ⊢; exact H)
      have hji16_ : (if (wrap64 ((ji15) - (t198.size : Int))) < 99 then (wrap64 ((ji15) - (t198.size : Int))) else 99) = ji16 := hji16
      by_cases c17 : (ji16) > 0
      · rw [if_pos c17] at H
        have c17b0 : decide (0 < (ji16)) = true := decide_eq_true c17
        clear c17
        replace H := Option.bind_eq_some_iff.mp H
        obtain ⟨t200, A180, H⟩ := H
        replace H : (if t200.size + t198.size ≤ 9223372036854775807 then ((digits_written.f (t200 ++ t198) a3_0 a3_1 a3_2 a3_3 a3_4 a3_5 a3_6 a3_7 a3_8 a3_9 a3_10 a3_11 a3_12 a3_13 a3_14 a3_15 a3_16 a3_17 a3_18 a3_19 a3_20).bind fun t201 => ((strings_Join.f t201 (⟨#[]⟩ : ByteArray)).bind fun t204 => ((digits_full.f (([(⟨a3_16, 6⟩ : S34), (⟨x9_6, 7⟩ : S34), (⟨t204, 8⟩ : S34)] : List (S34)))).bind fun t208 => (some t208)))) else (none)) = some r := H
        have A18 := Aside0.mk A180
        clear A180
        by_cases c19 : t200.size + t198.size ≤ 9223372036854775807
        · rw [if_pos c19] at H
          have c19b0 := eq_true c19
          have c19b1 : decide (t200.size + t198.size ≤ 9223372036854775807) = true := decide_eq_true c19
          try have c19b2 : (9223372036854775807 < t200.size + t198.size) = False := eq_false (Nat.not_lt.2 c19)
          replace H := Option.bind_eq_some_iff.mp H
          obtain ⟨t201, A200, H⟩ := H
          replace H : ((strings_Join.f t201 (⟨#[]⟩ : ByteArray)).bind fun t204 => ((digits_full.f (([(⟨a3_16, 6⟩ : S34), (⟨x9_6, 7⟩ : S34), (⟨t204, 8⟩ : S34)] : List (S34)))).bind fun t208 => (some t208))) = some r := H
          have A20 := Aside0.mk A200
          clear A200
          replace H := Option.bind_eq_some_iff.mp H
          obtain ⟨t204, A210, H⟩ := H
          replace H : ((digits_full.f (([(⟨a3_16, 6⟩ : S34), (⟨x9_6, 7⟩ : S34), (⟨t204, 8⟩ : S34)] : List (S34)))).bind fun t208 => (some t208)) = some r := H
          have A21 := Aside0.mk A210
          clear A210
          obtain ⟨y205, hy205⟩ : ∃ y_ : List (S34), y_ = (([(⟨a3_16, 6⟩ : S34), (⟨x9_6, 7⟩ : S34), (⟨t204, 8⟩ : S34)] : List (S34))) := ⟨_, rfl⟩
          replace H : ((digits_full.f y205).bind fun t208 => (some t208)) = some r := by first | (rw [hy205]; with_reducible exact H) | (have H2_ := (Option.bind_some _ _).symm.trans H; rw [hy205]; with_reducible exact H2_) | (have H2_ := (Option.bind_some _ _).symm.trans H; with_reducible exact H2_) | with_reducible exact H | (rw [hy205]; exact H) | exact H
          have Ny205 := Aside0.mk hy205
          clear hy205
          replace H := Option.bind_eq_some_iff.mp H
          obtain ⟨t208, A220, H⟩ := H
          replace H : (some t208) = some r := H
          have A22 := Aside0.mk A220
          clear A220
          obtain rfl := Option.some.inj H
          try go_wp2_with (first | ((with_reducible refine gate_callee (f := 23) rfl ?_); refine goesL_ (some 36) rfl rfl Tryd.func23 (by kernel_rfl) rfl #[.string (⟨#[48]⟩ : ByteArray), .int .i64 ji16] rfl (by (try simp only [List.map_toArray, List.map_cons, List.map_nil]); first | done | (simp only [hji16]; rfl) | rfl | (simp only [List.length_drop, List.length_take]; rfl)) ?_; (with_reducible refine (strings_Repeat.calls (⟨#[48]⟩ : ByteArray) ji16 t200 _ A18.out).mono ?_); rintro e w23 ⟨rfl, hb⟩; refine ⟨_, rfl, ?_⟩; have n0_ := Aside0.mk (blk_below (g := gb196) (o := .cells #[.string a3_0, .string a3_1, .string a3_2, .string a3_3, .string a3_4, .string a3_5, .string a3_6, .string a3_7, .string a3_8, .string a3_9, .string a3_10, .string a3_11, .string a3_12, .string a3_13, .string a3_14, .string a3_15, .string a3_16, .string a3_17, .string a3_18, .string a3_19, .string a3_20] 26 (0, 0)) (by (with_reducible repeat (first | refine blk_drewN ?_ _ | refine blk_drew ?_ | refine blk_alloc ?_ _)); exact BK196.out) hb); have n1_ := Aside0.mk (below_step (by repeat (first | (with_reducible first | exact HB.out | apply below_alloc | apply pw_below_drewN | apply below_drew1 | refine below_set ?_ GE196.out) | exact HB.out)) hb); clear BK196; clear HB; have BK196 := n0_; have HB := n1_; clear n0_ n1_; (try clear hb); (try clear hb2); (try clear hk); (try clear hi)))
          have n0_ := Aside0.mk (blk_drew BK196.out)
          have n1_ := Aside0.mk (below_drew1 HB.out)
          clear BK196
          clear HB
          have BK196 := n0_
          have HB := n1_
          clear n0_ n1_
          refine start_ (n := 13) (S := fun w' => w'.cell? ⟨gb196, 0, none⟩ = some (.string a3_0) ∧ w'.cell? ⟨gb196, 1, none⟩ = some (.string a3_1) ∧ w'.cell? ⟨gb196, 2, none⟩ = some (.string a3_2) ∧ w'.cell? ⟨gb196, 3, none⟩ = some (.string a3_3) ∧ w'.cell? ⟨gb196, 4, none⟩ = some (.string a3_4) ∧ w'.cell? ⟨gb196, 5, none⟩ = some (.string a3_5) ∧ w'.cell? ⟨gb196, 6, none⟩ = some (.string a3_6) ∧ w'.cell? ⟨gb196, 7, none⟩ = some (.string a3_7) ∧ w'.cell? ⟨gb196, 8, none⟩ = some (.string a3_8) ∧ w'.cell? ⟨gb196, 9, none⟩ = some (.string a3_9) ∧ w'.cell? ⟨gb196, 10, none⟩ = some (.string a3_10) ∧ w'.cell? ⟨gb196, 11, none⟩ = some (.string a3_11) ∧ w'.cell? ⟨gb196, 12, none⟩ = some (.string a3_12) ∧ w'.cell? ⟨gb196, 13, none⟩ = some (.string a3_13) ∧ w'.cell? ⟨gb196, 14, none⟩ = some (.string a3_14) ∧ w'.cell? ⟨gb196, 15, none⟩ = some (.string a3_15) ∧ w'.cell? ⟨gb196, 16, none⟩ = some (.string a3_16) ∧ w'.cell? ⟨gb196, 17, none⟩ = some (.string a3_17) ∧ w'.cell? ⟨gb196, 18, none⟩ = some (.string a3_18) ∧ w'.cell? ⟨gb196, 19, none⟩ = some (.string a3_19) ∧ w'.cell? ⟨gb196, 20, none⟩ = some (.string a3_20)) (ds := []) #[false, false, false, false, false, false, false, false, false, false, false, false, false] (by kernel_rfl) rfl rfl ⟨(blk_cell BK196.out 0).trans rfl, (blk_cell BK196.out 1).trans rfl, (blk_cell BK196.out 2).trans rfl, (blk_cell BK196.out 3).trans rfl, (blk_cell BK196.out 4).trans rfl, (blk_cell BK196.out 5).trans rfl, (blk_cell BK196.out 6).trans rfl, (blk_cell BK196.out 7).trans rfl, (blk_cell BK196.out 8).trans rfl, (blk_cell BK196.out 9).trans rfl, (blk_cell BK196.out 10).trans rfl, (blk_cell BK196.out 11).trans rfl, (blk_cell BK196.out 12).trans rfl, (blk_cell BK196.out 13).trans rfl, (blk_cell BK196.out 14).trans rfl, (blk_cell BK196.out 15).trans rfl, (blk_cell BK196.out 16).trans rfl, (blk_cell BK196.out 17).trans rfl, (blk_cell BK196.out 18).trans rfl, (blk_cell BK196.out 19).trans rfl, (blk_cell BK196.out 20).trans rfl⟩ (fun hHeld => ?_); refine with_tabW digits_Exponent.tab10 digits_Exponent.bits10 (fun HT_ HW_ => ?_)
          generalize w23.drew = w24 at BK196 HB hHeld ⊢
          refine pure_ (i := 0) (N := some 39) (v := ?_) (a' := ?_) #[true, false, false, false, false, false, false, false, false, false, false, false, false] rfl rfl (any_of HT_.out (by kernel_rfl)) (fun _ _ _ h => h) (Or.inl ⟨by rfl, ?_⟩) ?_ ?_
          rotate_left
          · intro w'
            go_simp
            with_reducible rfl
          rotate_left
          · simp only [Act.put, List.setIfInBounds_toArray, List.set_cons_zero, List.set_cons_succ, i64_w, i32_w]
            rfl
          refine pure_ (i := 3) (N := some 42) (v := ?_) (a' := ?_) #[true, false, false, true, false, false, false, false, false, false, false, false, false] rfl rfl (any_of HT_.out (by kernel_rfl)) (fun _ _ _ h => h) (Or.inl ⟨by rfl, ?_⟩) ?_ ?_
          rotate_left
          · intro w'
            go_simp
            with_reducible rfl
          rotate_left
          · simp only [Act.put, List.setIfInBounds_toArray, List.set_cons_zero, List.set_cons_succ, i64_w, i32_w]
            rfl
          refine pure_ (i := 4) (N := some 43) (v := ?_) (a' := ?_) #[true, false, false, true, true, false, false, false, false, false, false, false, false] rfl rfl (any_of HT_.out (by kernel_rfl)) (fun _ _ _ h => h) (Or.inl ⟨by rfl, ?_⟩) ?_ ?_
          rotate_left
          · intro w'
            go_simp
            with_reducible rfl
          rotate_left
          · simp only [Act.put, List.setIfInBounds_toArray, List.set_cons_zero, List.set_cons_succ, i64_w, i32_w]
            rfl
          refine pure_ (i := 5) (N := some 44) (v := ?_) (a' := ?_) #[true, false, false, true, true, true, false, false, false, false, false, false, false] rfl rfl (any_of HT_.out (by kernel_rfl)) (fun _ _ _ h => h) (Or.inl ⟨by rfl, ?_⟩) ?_ ?_
          rotate_left
          · intro w'
            go_simp
            with_reducible rfl
          rotate_left
          · simp only [Act.put, List.setIfInBounds_toArray, List.set_cons_zero, List.set_cons_succ, i64_w, i32_w]
            rfl
          refine take_ (i := 1) (N := some 40) (v := ?_) (a' := ?_) #[true, true, false, true, true, true, false, false, false, false, false, false, false] rfl rfl (take_ofW HT_.out HW_.out (by kernel_rfl)) (fun _ _ _ h => h) (Or.inl ⟨by rfl, ?_⟩) hHeld ?_ ?_
          rotate_left
          · rintro w' ⟨s0, s1, s2, s3, s4, s5, s6, s7, s8, s9, s10, s11, s12, s13, s14, s15, s16, s17, s18, s19, s20⟩
            go_simp
            with_reducible rfl
          rotate_left
          · simp only [Act.put, List.setIfInBounds_toArray, List.set_cons_zero, List.set_cons_succ, i64_w, i32_w]
            rfl
          refine pure_ (i := 2) (N := some 41) (v := ?_) (a' := ?_) #[true, true, true, true, true, true, false, false, false, false, false, false, false] rfl rfl (any_of HT_.out (by kernel_rfl)) (fun _ _ _ h => h) (Or.inl ⟨by rfl, ?_⟩) ?_ ?_
          rotate_left
          · intro w'
            go_simp
            with_reducible rfl
          rotate_left
          · simp only [Act.put, List.setIfInBounds_toArray, List.set_cons_zero, List.set_cons_succ, i64_w, i32_w]
            rfl
          refine take_ (i := 6) (N := some 45) (v := ?_) (a' := ?_) #[true, true, true, true, true, true, true, false, false, false, false, false, false] rfl rfl (take_ofW HT_.out HW_.out (by kernel_rfl)) (fun _ _ _ h => h) (Or.inl ⟨by rfl, ?_⟩) hHeld ?_ ?_
          rotate_left
          · rintro w' ⟨s0, s1, s2, s3, s4, s5, s6, s7, s8, s9, s10, s11, s12, s13, s14, s15, s16, s17, s18, s19, s20⟩
            refine load26 (x := .tmp 7) ?ho ?hx s0 s1 s2 s3 s4 s5 s6 s7 s8 s9 s10 s11 s12 s13 s14 s15 s16 s17 s18 s19 s20
            case ho => rfl
            case hx => rfl
          rotate_left
          · simp only [Act.put, List.setIfInBounds_toArray, List.set_cons_zero, List.set_cons_succ, i64_w, i32_w]
            rfl
          refine one_ (i := 7) (N := some 46) #[true, true, true, true, true, true, true, true, false, false, false, false, false] rfl rfl (one_of HT_.out (by kernel_rfl)) (by decide) (fun K hK => ?_)
          refine goes_ Tryd.func26 (by kernel_rfl) rfl #[.string (t200 ++ t198), .agg #[.string a3_0, .string a3_1, .string a3_2, .string a3_3, .string a3_4, .string a3_5, .string a3_6, .string a3_7, .string a3_8, .string a3_9, .string a3_10, .string a3_11, .string a3_12, .string a3_13, .string a3_14, .string a3_15, .string a3_16, .string a3_17, .string a3_18, .string a3_19, .string a3_20]] (by rfl) rfl rfl (by (try simp only [List.map_toArray, List.map_cons, List.map_nil]); first | done | rfl | (simp only [List.length_drop, List.length_take]; rfl)) ?_
          with_reducible refine (digits_written.calls (t200 ++ t198) a3_0 a3_1 a3_2 a3_3 a3_4 a3_5 a3_6 a3_7 a3_8 a3_9 a3_10 a3_11 a3_12 a3_13 a3_14 a3_15 a3_16 a3_17 a3_18 a3_19 a3_20 t201 _ A20.out).mono ?_
          rintro e w25 ⟨v202, rfl, ho0, hb⟩
          refine ⟨_, rfl, ?_⟩
          have n0_ := Aside0.mk (Kd.R_lower ho0 (below_size (by repeat (first | (with_reducible first | exact HB.out | apply below_alloc | apply pw_below_drewN | apply below_drew1 | refine below_set ?_ GE196.out) | exact HB.out))))
          have n1_ := Aside0.mk (blk_below (g := gb196) (o := .cells #[.string a3_0, .string a3_1, .string a3_2, .string a3_3, .string a3_4, .string a3_5, .string a3_6, .string a3_7, .string a3_8, .string a3_9, .string a3_10, .string a3_11, .string a3_12, .string a3_13, .string a3_14, .string a3_15, .string a3_16, .string a3_17, .string a3_18, .string a3_19, .string a3_20] 26 (0, 0)) (by (with_reducible repeat (first | refine blk_drewN ?_ _ | refine blk_drew ?_ | refine blk_alloc ?_ _)); exact BK196.out) hb)
          have n2_ := Aside0.mk (below_step (by repeat (first | (with_reducible first | exact HB.out | apply below_alloc | apply pw_below_drewN | apply below_drew1 | refine below_set ?_ GE196.out) | exact HB.out)) hb)
          clear BK196
          clear HB
          have HO203 := n0_
          have BK196 := n1_
          have HB := n2_
          clear n0_ n1_ n2_
          (try clear hb)
          (try clear hb2)
          (try clear hk)
          (try clear hi)
          (try clear ho0)
          obtain ⟨Ao26, co26, eo26⟩ := Kd.R_slice HO203.out
          (first | subst eo26 | (injection eo26 with f1_ f2_ f3_; have f4_ := f1_.symm; have f5_ := f3_.symm; clear f1_ f2_ f3_; subst f4_; subst f5_))
          refine hK.out _ _ ⟨(blk_cell BK196.out 0).trans rfl, (blk_cell BK196.out 1).trans rfl, (blk_cell BK196.out 2).trans rfl, (blk_cell BK196.out 3).trans rfl, (blk_cell BK196.out 4).trans rfl, (blk_cell BK196.out 5).trans rfl, (blk_cell BK196.out 6).trans rfl, (blk_cell BK196.out 7).trans rfl, (blk_cell BK196.out 8).trans rfl, (blk_cell BK196.out 9).trans rfl, (blk_cell BK196.out 10).trans rfl, (blk_cell BK196.out 11).trans rfl, (blk_cell BK196.out 12).trans rfl, (blk_cell BK196.out 13).trans rfl, (blk_cell BK196.out 14).trans rfl, (blk_cell BK196.out 15).trans rfl, (blk_cell BK196.out 16).trans rfl, (blk_cell BK196.out 17).trans rfl, (blk_cell BK196.out 18).trans rfl, (blk_cell BK196.out 19).trans rfl, (blk_cell BK196.out 20).trans rfl⟩ (fun hHeld => ?_)
          clear hK K
          refine norm_ (a' := ?_) ?_ ?_
          rotate_left
          · show Act.put _ (some 46) _ = _
            simp only [Act.put, List.setIfInBounds_toArray, List.set_cons_zero, List.set_cons_succ, i64_w, i32_w]
            rfl
          refine one_ (i := 8) (N := some 47) #[true, true, true, true, true, true, true, true, true, false, false, false, false] rfl rfl (one_of HT_.out (by kernel_rfl)) (by decide) (fun K hK => ?_)
          refine goes_ Tryd.func25 (by kernel_rfl) rfl #[.slice Ao26 t201.length co26, .string (⟨#[]⟩ : ByteArray)] (by rfl) rfl rfl (by (try simp only [List.map_toArray, List.map_cons, List.map_nil]); first | done | rfl | (simp only [List.length_drop, List.length_take]; rfl)) ?_
          with_reducible refine (strings_Join.calls _ _ t201 (⟨#[]⟩ : ByteArray) t204 _ ?side1 ?side2 A21.out).mono ?_
          (case side1 => repeat (first | exact (Kd.R_reads' HO203.out).2.2 | (with_reducible refine Kd.C_alloc ?_ _) | (with_reducible refine Kd.C_drewN ?_ _) | (with_reducible refine Kd.C_drew ?_)))
          (case side2 => exact (Kd.R_reads' HO203.out).2.1)
          rintro e w27 ⟨rfl, hb⟩
          refine ⟨_, rfl, ?_⟩
          have n0_ := Aside0.mk (Kd.R_below (by (with_reducible repeat (first | apply Kd.R_alloc | apply Kd.R_drewN | apply Kd.R_drew)); exact HO203.out) hb)
          have n1_ := Aside0.mk (blk_below (g := gb196) (o := .cells #[.string a3_0, .string a3_1, .string a3_2, .string a3_3, .string a3_4, .string a3_5, .string a3_6, .string a3_7, .string a3_8, .string a3_9, .string a3_10, .string a3_11, .string a3_12, .string a3_13, .string a3_14, .string a3_15, .string a3_16, .string a3_17, .string a3_18, .string a3_19, .string a3_20] 26 (0, 0)) (by (with_reducible repeat (first | refine blk_drewN ?_ _ | refine blk_drew ?_ | refine blk_alloc ?_ _)); exact BK196.out) hb)
          have n2_ := Aside0.mk (below_step (by repeat (first | (with_reducible first | exact HB.out | apply below_alloc | apply pw_below_drewN | apply below_drew1 | refine below_set ?_ GE196.out) | exact HB.out)) hb)
          clear HO203
          clear BK196
          clear HB
          have HO203 := n0_
          have BK196 := n1_
          have HB := n2_
          clear n0_ n1_ n2_
          (try clear hb)
          (try clear hb2)
          (try clear hk)
          (try clear hi)
          refine hK.out _ _ ⟨(blk_cell BK196.out 0).trans rfl, (blk_cell BK196.out 1).trans rfl, (blk_cell BK196.out 2).trans rfl, (blk_cell BK196.out 3).trans rfl, (blk_cell BK196.out 4).trans rfl, (blk_cell BK196.out 5).trans rfl, (blk_cell BK196.out 6).trans rfl, (blk_cell BK196.out 7).trans rfl, (blk_cell BK196.out 8).trans rfl, (blk_cell BK196.out 9).trans rfl, (blk_cell BK196.out 10).trans rfl, (blk_cell BK196.out 11).trans rfl, (blk_cell BK196.out 12).trans rfl, (blk_cell BK196.out 13).trans rfl, (blk_cell BK196.out 14).trans rfl, (blk_cell BK196.out 15).trans rfl, (blk_cell BK196.out 16).trans rfl, (blk_cell BK196.out 17).trans rfl, (blk_cell BK196.out 18).trans rfl, (blk_cell BK196.out 19).trans rfl, (blk_cell BK196.out 20).trans rfl⟩ (fun hHeld => ?_)
          clear hK K
          refine norm_ (a' := ?_) ?_ ?_
          rotate_left
          · show Act.put _ (some 47) _ = _
            simp only [Act.put, List.setIfInBounds_toArray, List.set_cons_zero, List.set_cons_succ, i64_w, i32_w]
            rfl
          refine pure_ (i := 9) (N := some 48) (v := ?_) (a' := ?_) #[true, true, true, true, true, true, true, true, true, true, false, false, false] rfl rfl (any_of HT_.out (by kernel_rfl)) (fun _ _ _ h => h) (Or.inl ⟨by rfl, ?_⟩) ?_ ?_
          rotate_left
          · intro w'
            go_simp
            with_reducible rfl
          rotate_left
          · simp only [Act.put, List.setIfInBounds_toArray, List.set_cons_zero, List.set_cons_succ, i64_w, i32_w]
            rfl
          refine one_ (i := 10) (N := some 49) #[true, true, true, true, true, true, true, true, true, true, true, false, false] rfl rfl (one_of HT_.out (by kernel_rfl)) (by decide) (fun K hK => ?_)
          refine Kd.R_lit_step k34 _ 34 ?hg (N := 49) ?hd (xs := ([(⟨a3_16, 6⟩ : S34), (⟨x9_6, 7⟩ : S34), (⟨t204, 8⟩ : S34)] : List (S34))) (inner := [.string a3_16, .int .i64 6, .string x9_6, .int .i64 7, .string t204, .int .i64 8]) (ok := fun _ => True) (okp := fun _ => True) ?hr ?hp (fun _ hk => hk) trivial (Below.refl _ _) (Nat.le_refl _) (by simp) ?_; (case hd => rfl); (case hg => rfl); (case hr => first | (go_simp; done) | (go_simp; rfl)); (case hp => exact (Reps.c2 (show Kd.M k34 _ _ _ (⟨a3_16, 6⟩ : S34) [.string a3_16, .int .i64 6] from (k34_mkM _ _ _ (⟨a3_16, 6⟩ : S34) )) (Reps.c2 (show Kd.M k34 _ _ _ (⟨x9_6, 7⟩ : S34) [.string x9_6, .int .i64 7] from (k34_mkM _ _ _ (⟨x9_6, 7⟩ : S34) )) (Reps.c2 (show Kd.M k34 _ _ _ (⟨t204, 8⟩ : S34) [.string t204, .int .i64 8] from (k34_mkM _ _ _ (⟨t204, 8⟩ : S34) )) (Reps.none _ _)))))
          intro v206 w28 ho29 hb hg_ hnew_
          clear hg_ hnew_
          (first | rw [← Ny205.out] at ho29 | (simp only [Int.reduceToNat] at ho29; rw [← Ny205.out] at ho29))
          have n0_ := Aside0.mk (Kd.R_below (by (with_reducible repeat (first | apply Kd.R_alloc | apply Kd.R_drewN | apply Kd.R_drew)); exact HO203.out) hb)
          have n1_ := Aside0.mk (Kd.R_lower ho29 (below_size (by repeat (first | (with_reducible first | exact HB.out | apply below_alloc | apply pw_below_drewN | apply below_drew1 | refine below_set ?_ GE196.out) | exact HB.out))))
          have n2_ := Aside0.mk (blk_below (g := gb196) (o := .cells #[.string a3_0, .string a3_1, .string a3_2, .string a3_3, .string a3_4, .string a3_5, .string a3_6, .string a3_7, .string a3_8, .string a3_9, .string a3_10, .string a3_11, .string a3_12, .string a3_13, .string a3_14, .string a3_15, .string a3_16, .string a3_17, .string a3_18, .string a3_19, .string a3_20] 26 (0, 0)) (by (with_reducible repeat (first | refine blk_drewN ?_ _ | refine blk_drew ?_ | refine blk_alloc ?_ _)); exact BK196.out) hb)
          have n3_ := Aside0.mk (below_step (by repeat (first | (with_reducible first | exact HB.out | apply below_alloc | apply pw_below_drewN | apply below_drew1 | refine below_set ?_ GE196.out) | exact HB.out)) hb)
          clear HO203
          clear BK196
          clear HB
          have HO203 := n0_
          have HO207 := n1_
          have BK196 := n2_
          have HB := n3_
          clear n0_ n1_ n2_ n3_
          clear hb ho29
          obtain ⟨Ao30, co30, eo30⟩ := Kd.R_slice HO207.out
          (first | subst eo30 | (injection eo30 with f1_ f2_ f3_; have f4_ := f1_.symm; have f5_ := f3_.symm; clear f1_ f2_ f3_; subst f4_; subst f5_))
          refine hK.out _ _ ⟨(blk_cell BK196.out 0).trans rfl, (blk_cell BK196.out 1).trans rfl, (blk_cell BK196.out 2).trans rfl, (blk_cell BK196.out 3).trans rfl, (blk_cell BK196.out 4).trans rfl, (blk_cell BK196.out 5).trans rfl, (blk_cell BK196.out 6).trans rfl, (blk_cell BK196.out 7).trans rfl, (blk_cell BK196.out 8).trans rfl, (blk_cell BK196.out 9).trans rfl, (blk_cell BK196.out 10).trans rfl, (blk_cell BK196.out 11).trans rfl, (blk_cell BK196.out 12).trans rfl, (blk_cell BK196.out 13).trans rfl, (blk_cell BK196.out 14).trans rfl, (blk_cell BK196.out 15).trans rfl, (blk_cell BK196.out 16).trans rfl, (blk_cell BK196.out 17).trans rfl, (blk_cell BK196.out 18).trans rfl, (blk_cell BK196.out 19).trans rfl, (blk_cell BK196.out 20).trans rfl⟩ (fun hHeld => ?_)
          clear hK K
          refine norm_ (a' := ?_) ?_ ?_
          rotate_left
          · show Act.put _ (some 49) _ = _
            simp only [Act.put, List.setIfInBounds_toArray, List.set_cons_zero, List.set_cons_succ, i64_w, i32_w]
            rfl
          refine one_ (i := 11) (N := some 50) #[true, true, true, true, true, true, true, true, true, true, true, true, false] rfl rfl (one_of HT_.out (by kernel_rfl)) (by decide) (fun K hK => ?_)
          refine goes_ Tryd.func24 (by kernel_rfl) rfl #[.slice Ao30 y205.length co30] (by rfl) rfl rfl (by (try simp only [List.map_toArray, List.map_cons, List.map_nil]); first | done | rfl | (simp only [List.length_drop, List.length_take]; rfl)) ?_
          refine (full_ext (by (with_reducible repeat (first | apply Kd.R_alloc | apply Kd.R_drewN | apply Kd.R_drew)); exact HO207.out) A22.out).mono ?_
          rintro e w31 ⟨v209, rfl, ho0, hbe, hbk⟩
          refine ⟨_, rfl, ?_⟩
          have m0_ := Aside0.mk (ho0)
          have m1_ := Aside0.mk (hbk _ _ 26 (by decide) (by (with_reducible repeat (first | refine blk_drewN ?_ _ | refine blk_drew ?_ | refine blk_alloc ?_ _)); exact BK196.out))
          have m2_ := Aside0.mk (hbe w rfl (by repeat (first | (with_reducible first | exact HB.out | apply below_alloc | apply pw_below_drewN | apply below_drew1 | refine below_set ?_ GE196.out) | exact HB.out)))
          clear HO203 HO207 BK196 HB
          have HO210 := m0_
          have BK196 := m1_
          have HB := m2_
          clear m0_ m1_ m2_
          clear hbe hbk ho0
          (try clear hb)
          (try clear hb2)
          (try clear hk)
          (try clear hi)
          (try clear ho0)
          refine hK.out _ _ ⟨(blk_cell BK196.out 0).trans rfl, (blk_cell BK196.out 1).trans rfl, (blk_cell BK196.out 2).trans rfl, (blk_cell BK196.out 3).trans rfl, (blk_cell BK196.out 4).trans rfl, (blk_cell BK196.out 5).trans rfl, (blk_cell BK196.out 6).trans rfl, (blk_cell BK196.out 7).trans rfl, (blk_cell BK196.out 8).trans rfl, (blk_cell BK196.out 9).trans rfl, (blk_cell BK196.out 10).trans rfl, (blk_cell BK196.out 11).trans rfl, (blk_cell BK196.out 12).trans rfl, (blk_cell BK196.out 13).trans rfl, (blk_cell BK196.out 14).trans rfl, (blk_cell BK196.out 15).trans rfl, (blk_cell BK196.out 16).trans rfl, (blk_cell BK196.out 17).trans rfl, (blk_cell BK196.out 18).trans rfl, (blk_cell BK196.out 19).trans rfl, (blk_cell BK196.out 20).trans rfl⟩ (fun hHeld => ?_)
          clear hK K
          refine norm_ (a' := ?_) ?_ ?_
          rotate_left
          · show Act.put _ (some 50) _ = _
            simp only [Act.put, List.setIfInBounds_toArray, List.set_cons_zero, List.set_cons_succ, i64_w, i32_w]
            rfl
          refine pure_ (i := 12) (N := some 8) (v := ?_) (a' := ?_) #[true, true, true, true, true, true, true, true, true, true, true, true, true] rfl rfl (any_of HT_.out (by kernel_rfl)) (fun _ _ _ h => h) (Or.inl ⟨by rfl, ?_⟩) ?_ ?_
          rotate_left
          · intro w'
            go_simp
            with_reducible rfl
          rotate_left
          · simp only [Act.put, List.setIfInBounds_toArray, List.set_cons_zero, List.set_cons_succ, i64_w, i32_w]
            rfl
          refine done_ (done_of HT_.out (by kernel_rfl)) ?_
          try go_wp2
          go_ret
          exact ⟨_, by first | rfl | (simp [errW_none, errW_some] <;> rfl) | (simp only [← hji15, ← hji16]; first | rfl | (simp [errW_none, errW_some] <;> rfl)) | (simp [*, errW_none, errW_some] <;> rfl) | (simp only [ne_nil_b]; first | done | rfl) | (simp [ne_nil_b]; done), by (with_reducible repeat (first | apply Kd.R_alloc | apply Kd.R_drewN | apply Kd.R_drew)); exact Kd.R_mono HO210.out (fun _ hk => trivial), by repeat (first | (with_reducible first | exact HB.out | apply below_alloc | apply pw_below_drewN | apply below_drew1 | refine below_set ?_ GE196.out) | exact HB.out)⟩
        · rw [if_neg c19] at H
          exact absurd H (by simp)
      · rw [if_neg c17] at H
        have c17b0 : decide (0 < (ji16)) = false := decide_eq_false c17
        clear c17
        replace H := Option.bind_eq_some_iff.mp H
        obtain ⟨t211, A320, H⟩ := H
        replace H : ((strings_Join.f t211 (⟨#[]⟩ : ByteArray)).bind fun t214 => ((digits_full.f (([(⟨a3_16, 6⟩ : S34), (⟨x9_6, 7⟩ : S34), (⟨t214, 8⟩ : S34)] : List (S34)))).bind fun t218 => (some t218))) = some r := H
        have A32 := Aside0.mk A320
        clear A320
        replace H := Option.bind_eq_some_iff.mp H
        obtain ⟨t214, A330, H⟩ := H
        replace H : ((digits_full.f (([(⟨a3_16, 6⟩ : S34), (⟨x9_6, 7⟩ : S34), (⟨t214, 8⟩ : S34)] : List (S34)))).bind fun t218 => (some t218)) = some r := H
        have A33 := Aside0.mk A330
        clear A330
        obtain ⟨y215, hy215⟩ : ∃ y_ : List (S34), y_ = (([(⟨a3_16, 6⟩ : S34), (⟨x9_6, 7⟩ : S34), (⟨t214, 8⟩ : S34)] : List (S34))) := ⟨_, rfl⟩
        replace H : ((digits_full.f y215).bind fun t218 => (some t218)) = some r := by first | (rw [hy215]; with_reducible exact H) | (have H2_ := (Option.bind_some _ _).symm.trans H; rw [hy215]; with_reducible exact H2_) | (have H2_ := (Option.bind_some _ _).symm.trans H; with_reducible exact H2_) | with_reducible exact H | (rw [hy215]; exact H) | exact H
        have Ny215 := Aside0.mk hy215
        clear hy215
        replace H := Option.bind_eq_some_iff.mp H
        obtain ⟨t218, A340, H⟩ := H
        replace H : (some t218) = some r := H
        have A34 := Aside0.mk A340
        clear A340
        obtain rfl := Option.some.inj H
        try go_wp2
        have n0_ := Aside0.mk (blk_drew BK196.out)
        have n1_ := Aside0.mk (below_drew1 HB.out)
        clear BK196
        clear HB
        have BK196 := n0_
        have HB := n1_
        clear n0_ n1_
        refine start_ (n := 13) (S := fun w' => w'.cell? ⟨gb196, 0, none⟩ = some (.string a3_0) ∧ w'.cell? ⟨gb196, 1, none⟩ = some (.string a3_1) ∧ w'.cell? ⟨gb196, 2, none⟩ = some (.string a3_2) ∧ w'.cell? ⟨gb196, 3, none⟩ = some (.string a3_3) ∧ w'.cell? ⟨gb196, 4, none⟩ = some (.string a3_4) ∧ w'.cell? ⟨gb196, 5, none⟩ = some (.string a3_5) ∧ w'.cell? ⟨gb196, 6, none⟩ = some (.string a3_6) ∧ w'.cell? ⟨gb196, 7, none⟩ = some (.string a3_7) ∧ w'.cell? ⟨gb196, 8, none⟩ = some (.string a3_8) ∧ w'.cell? ⟨gb196, 9, none⟩ = some (.string a3_9) ∧ w'.cell? ⟨gb196, 10, none⟩ = some (.string a3_10) ∧ w'.cell? ⟨gb196, 11, none⟩ = some (.string a3_11) ∧ w'.cell? ⟨gb196, 12, none⟩ = some (.string a3_12) ∧ w'.cell? ⟨gb196, 13, none⟩ = some (.string a3_13) ∧ w'.cell? ⟨gb196, 14, none⟩ = some (.string a3_14) ∧ w'.cell? ⟨gb196, 15, none⟩ = some (.string a3_15) ∧ w'.cell? ⟨gb196, 16, none⟩ = some (.string a3_16) ∧ w'.cell? ⟨gb196, 17, none⟩ = some (.string a3_17) ∧ w'.cell? ⟨gb196, 18, none⟩ = some (.string a3_18) ∧ w'.cell? ⟨gb196, 19, none⟩ = some (.string a3_19) ∧ w'.cell? ⟨gb196, 20, none⟩ = some (.string a3_20)) (ds := []) #[false, false, false, false, false, false, false, false, false, false, false, false, false] (by kernel_rfl) rfl rfl ⟨(blk_cell BK196.out 0).trans rfl, (blk_cell BK196.out 1).trans rfl, (blk_cell BK196.out 2).trans rfl, (blk_cell BK196.out 3).trans rfl, (blk_cell BK196.out 4).trans rfl, (blk_cell BK196.out 5).trans rfl, (blk_cell BK196.out 6).trans rfl, (blk_cell BK196.out 7).trans rfl, (blk_cell BK196.out 8).trans rfl, (blk_cell BK196.out 9).trans rfl, (blk_cell BK196.out 10).trans rfl, (blk_cell BK196.out 11).trans rfl, (blk_cell BK196.out 12).trans rfl, (blk_cell BK196.out 13).trans rfl, (blk_cell BK196.out 14).trans rfl, (blk_cell BK196.out 15).trans rfl, (blk_cell BK196.out 16).trans rfl, (blk_cell BK196.out 17).trans rfl, (blk_cell BK196.out 18).trans rfl, (blk_cell BK196.out 19).trans rfl, (blk_cell BK196.out 20).trans rfl⟩ (fun hHeld => ?_); refine with_tabW digits_Exponent.tab10 digits_Exponent.bits10 (fun HT_ HW_ => ?_)
        generalize wc.drew = w35 at BK196 HB hHeld ⊢
        refine pure_ (i := 0) (N := some 39) (v := ?_) (a' := ?_) #[true, false, false, false, false, false, false, false, false, false, false, false, false] rfl rfl (any_of HT_.out (by kernel_rfl)) (fun _ _ _ h => h) (Or.inl ⟨by rfl, ?_⟩) ?_ ?_
        rotate_left
        · intro w'
          go_simp
          with_reducible rfl
        rotate_left
        · simp only [Act.put, List.setIfInBounds_toArray, List.set_cons_zero, List.set_cons_succ, i64_w, i32_w]
          rfl
        refine pure_ (i := 3) (N := some 42) (v := ?_) (a' := ?_) #[true, false, false, true, false, false, false, false, false, false, false, false, false] rfl rfl (any_of HT_.out (by kernel_rfl)) (fun _ _ _ h => h) (Or.inl ⟨by rfl, ?_⟩) ?_ ?_
        rotate_left
        · intro w'
          go_simp
          with_reducible rfl
        rotate_left
        · simp only [Act.put, List.setIfInBounds_toArray, List.set_cons_zero, List.set_cons_succ, i64_w, i32_w]
          rfl
        refine pure_ (i := 4) (N := some 43) (v := ?_) (a' := ?_) #[true, false, false, true, true, false, false, false, false, false, false, false, false] rfl rfl (any_of HT_.out (by kernel_rfl)) (fun _ _ _ h => h) (Or.inl ⟨by rfl, ?_⟩) ?_ ?_
        rotate_left
        · intro w'
          go_simp
          with_reducible rfl
        rotate_left
        · simp only [Act.put, List.setIfInBounds_toArray, List.set_cons_zero, List.set_cons_succ, i64_w, i32_w]
          rfl
        refine pure_ (i := 5) (N := some 44) (v := ?_) (a' := ?_) #[true, false, false, true, true, true, false, false, false, false, false, false, false] rfl rfl (any_of HT_.out (by kernel_rfl)) (fun _ _ _ h => h) (Or.inl ⟨by rfl, ?_⟩) ?_ ?_
        rotate_left
        · intro w'
          go_simp
          with_reducible rfl
        rotate_left
        · simp only [Act.put, List.setIfInBounds_toArray, List.set_cons_zero, List.set_cons_succ, i64_w, i32_w]
          rfl
        refine take_ (i := 1) (N := some 40) (v := ?_) (a' := ?_) #[true, true, false, true, true, true, false, false, false, false, false, false, false] rfl rfl (take_ofW HT_.out HW_.out (by kernel_rfl)) (fun _ _ _ h => h) (Or.inl ⟨by rfl, ?_⟩) hHeld ?_ ?_
        rotate_left
        · rintro w' ⟨s0, s1, s2, s3, s4, s5, s6, s7, s8, s9, s10, s11, s12, s13, s14, s15, s16, s17, s18, s19, s20⟩
          go_simp
          with_reducible rfl
        rotate_left
        · simp only [Act.put, List.setIfInBounds_toArray, List.set_cons_zero, List.set_cons_succ, i64_w, i32_w]
          rfl
        refine pure_ (i := 2) (N := some 41) (v := ?_) (a' := ?_) #[true, true, true, true, true, true, false, false, false, false, false, false, false] rfl rfl (any_of HT_.out (by kernel_rfl)) (fun _ _ _ h => h) (Or.inl ⟨by rfl, ?_⟩) ?_ ?_
        rotate_left
        · intro w'
          go_simp
          with_reducible rfl
        rotate_left
        · simp only [Act.put, List.setIfInBounds_toArray, List.set_cons_zero, List.set_cons_succ, i64_w, i32_w]
          rfl
        refine take_ (i := 6) (N := some 45) (v := ?_) (a' := ?_) #[true, true, true, true, true, true, true, false, false, false, false, false, false] rfl rfl (take_ofW HT_.out HW_.out (by kernel_rfl)) (fun _ _ _ h => h) (Or.inl ⟨by rfl, ?_⟩) hHeld ?_ ?_
        rotate_left
        · rintro w' ⟨s0, s1, s2, s3, s4, s5, s6, s7, s8, s9, s10, s11, s12, s13, s14, s15, s16, s17, s18, s19, s20⟩
          refine load26 (x := .tmp 7) ?ho ?hx s0 s1 s2 s3 s4 s5 s6 s7 s8 s9 s10 s11 s12 s13 s14 s15 s16 s17 s18 s19 s20
          case ho => rfl
          case hx => rfl
        rotate_left
        · simp only [Act.put, List.setIfInBounds_toArray, List.set_cons_zero, List.set_cons_succ, i64_w, i32_w]
          rfl
        refine one_ (i := 7) (N := some 46) #[true, true, true, true, true, true, true, true, false, false, false, false, false] rfl rfl (one_of HT_.out (by kernel_rfl)) (by decide) (fun K hK => ?_)
        refine goes_ Tryd.func26 (by kernel_rfl) rfl #[.string t198, .agg #[.string a3_0, .string a3_1, .string a3_2, .string a3_3, .string a3_4, .string a3_5, .string a3_6, .string a3_7, .string a3_8, .string a3_9, .string a3_10, .string a3_11, .string a3_12, .string a3_13, .string a3_14, .string a3_15, .string a3_16, .string a3_17, .string a3_18, .string a3_19, .string a3_20]] (by rfl) rfl rfl (by (try simp only [List.map_toArray, List.map_cons, List.map_nil]); first | done | rfl | (simp only [List.length_drop, List.length_take]; rfl)) ?_
        with_reducible refine (digits_written.calls t198 a3_0 a3_1 a3_2 a3_3 a3_4 a3_5 a3_6 a3_7 a3_8 a3_9 a3_10 a3_11 a3_12 a3_13 a3_14 a3_15 a3_16 a3_17 a3_18 a3_19 a3_20 t211 _ A32.out).mono ?_
        rintro e w36 ⟨v212, rfl, ho0, hb⟩
        refine ⟨_, rfl, ?_⟩
        have n0_ := Aside0.mk (Kd.R_lower ho0 (below_size (by repeat (first | (with_reducible first | exact HB.out | apply below_alloc | apply pw_below_drewN | apply below_drew1 | refine below_set ?_ GE196.out) | exact HB.out))))
        have n1_ := Aside0.mk (blk_below (g := gb196) (o := .cells #[.string a3_0, .string a3_1, .string a3_2, .string a3_3, .string a3_4, .string a3_5, .string a3_6, .string a3_7, .string a3_8, .string a3_9, .string a3_10, .string a3_11, .string a3_12, .string a3_13, .string a3_14, .string a3_15, .string a3_16, .string a3_17, .string a3_18, .string a3_19, .string a3_20] 26 (0, 0)) (by (with_reducible repeat (first | refine blk_drewN ?_ _ | refine blk_drew ?_ | refine blk_alloc ?_ _)); exact BK196.out) hb)
        have n2_ := Aside0.mk (below_step (by repeat (first | (with_reducible first | exact HB.out | apply below_alloc | apply pw_below_drewN | apply below_drew1 | refine below_set ?_ GE196.out) | exact HB.out)) hb)
        clear BK196
        clear HB
        have HO213 := n0_
        have BK196 := n1_
        have HB := n2_
        clear n0_ n1_ n2_
        (try clear hb)
        (try clear hb2)
        (try clear hk)
        (try clear hi)
        (try clear ho0)
        obtain ⟨Ao37, co37, eo37⟩ := Kd.R_slice HO213.out
        (first | subst eo37 | (injection eo37 with f1_ f2_ f3_; have f4_ := f1_.symm; have f5_ := f3_.symm; clear f1_ f2_ f3_; subst f4_; subst f5_))
        refine hK.out _ _ ⟨(blk_cell BK196.out 0).trans rfl, (blk_cell BK196.out 1).trans rfl, (blk_cell BK196.out 2).trans rfl, (blk_cell BK196.out 3).trans rfl, (blk_cell BK196.out 4).trans rfl, (blk_cell BK196.out 5).trans rfl, (blk_cell BK196.out 6).trans rfl, (blk_cell BK196.out 7).trans rfl, (blk_cell BK196.out 8).trans rfl, (blk_cell BK196.out 9).trans rfl, (blk_cell BK196.out 10).trans rfl, (blk_cell BK196.out 11).trans rfl, (blk_cell BK196.out 12).trans rfl, (blk_cell BK196.out 13).trans rfl, (blk_cell BK196.out 14).trans rfl, (blk_cell BK196.out 15).trans rfl, (blk_cell BK196.out 16).trans rfl, (blk_cell BK196.out 17).trans rfl, (blk_cell BK196.out 18).trans rfl, (blk_cell BK196.out 19).trans rfl, (blk_cell BK196.out 20).trans rfl⟩ (fun hHeld => ?_)
        clear hK K
        refine norm_ (a' := ?_) ?_ ?_
        rotate_left
        · show Act.put _ (some 46) _ = _
          simp only [Act.put, List.setIfInBounds_toArray, List.set_cons_zero, List.set_cons_succ, i64_w, i32_w]
          rfl
        refine one_ (i := 8) (N := some 47) #[true, true, true, true, true, true, true, true, true, false, false, false, false] rfl rfl (one_of HT_.out (by kernel_rfl)) (by decide) (fun K hK => ?_)
        refine goes_ Tryd.func25 (by kernel_rfl) rfl #[.slice Ao37 t211.length co37, .string (⟨#[]⟩ : ByteArray)] (by rfl) rfl rfl (by (try simp only [List.map_toArray, List.map_cons, List.map_nil]); first | done | rfl | (simp only [List.length_drop, List.length_take]; rfl)) ?_
        with_reducible refine (strings_Join.calls _ _ t211 (⟨#[]⟩ : ByteArray) t214 _ ?side1 ?side2 A33.out).mono ?_
        (case side1 => repeat (first | exact (Kd.R_reads' HO213.out).2.2 | (with_reducible refine Kd.C_alloc ?_ _) | (with_reducible refine Kd.C_drewN ?_ _) | (with_reducible refine Kd.C_drew ?_)))
        (case side2 => exact (Kd.R_reads' HO213.out).2.1)
        rintro e w38 ⟨rfl, hb⟩
        refine ⟨_, rfl, ?_⟩
        have n0_ := Aside0.mk (Kd.R_below (by (with_reducible repeat (first | apply Kd.R_alloc | apply Kd.R_drewN | apply Kd.R_drew)); exact HO213.out) hb)
        have n1_ := Aside0.mk (blk_below (g := gb196) (o := .cells #[.string a3_0, .string a3_1, .string a3_2, .string a3_3, .string a3_4, .string a3_5, .string a3_6, .string a3_7, .string a3_8, .string a3_9, .string a3_10, .string a3_11, .string a3_12, .string a3_13, .string a3_14, .string a3_15, .string a3_16, .string a3_17, .string a3_18, .string a3_19, .string a3_20] 26 (0, 0)) (by (with_reducible repeat (first | refine blk_drewN ?_ _ | refine blk_drew ?_ | refine blk_alloc ?_ _)); exact BK196.out) hb)
        have n2_ := Aside0.mk (below_step (by repeat (first | (with_reducible first | exact HB.out | apply below_alloc | apply pw_below_drewN | apply below_drew1 | refine below_set ?_ GE196.out) | exact HB.out)) hb)
        clear HO213
        clear BK196
        clear HB
        have HO213 := n0_
        have BK196 := n1_
        have HB := n2_
        clear n0_ n1_ n2_
        (try clear hb)
        (try clear hb2)
        (try clear hk)
        (try clear hi)
        refine hK.out _ _ ⟨(blk_cell BK196.out 0).trans rfl, (blk_cell BK196.out 1).trans rfl, (blk_cell BK196.out 2).trans rfl, (blk_cell BK196.out 3).trans rfl, (blk_cell BK196.out 4).trans rfl, (blk_cell BK196.out 5).trans rfl, (blk_cell BK196.out 6).trans rfl, (blk_cell BK196.out 7).trans rfl, (blk_cell BK196.out 8).trans rfl, (blk_cell BK196.out 9).trans rfl, (blk_cell BK196.out 10).trans rfl, (blk_cell BK196.out 11).trans rfl, (blk_cell BK196.out 12).trans rfl, (blk_cell BK196.out 13).trans rfl, (blk_cell BK196.out 14).trans rfl, (blk_cell BK196.out 15).trans rfl, (blk_cell BK196.out 16).trans rfl, (blk_cell BK196.out 17).trans rfl, (blk_cell BK196.out 18).trans rfl, (blk_cell BK196.out 19).trans rfl, (blk_cell BK196.out 20).trans rfl⟩ (fun hHeld => ?_)
        clear hK K
        refine norm_ (a' := ?_) ?_ ?_
        rotate_left
        · show Act.put _ (some 47) _ = _
          simp only [Act.put, List.setIfInBounds_toArray, List.set_cons_zero, List.set_cons_succ, i64_w, i32_w]
          rfl
        refine pure_ (i := 9) (N := some 48) (v := ?_) (a' := ?_) #[true, true, true, true, true, true, true, true, true, true, false, false, false] rfl rfl (any_of HT_.out (by kernel_rfl)) (fun _ _ _ h => h) (Or.inl ⟨by rfl, ?_⟩) ?_ ?_
        rotate_left
        · intro w'
          go_simp
          with_reducible rfl
        rotate_left
        · simp only [Act.put, List.setIfInBounds_toArray, List.set_cons_zero, List.set_cons_succ, i64_w, i32_w]
          rfl
        refine one_ (i := 10) (N := some 49) #[true, true, true, true, true, true, true, true, true, true, true, false, false] rfl rfl (one_of HT_.out (by kernel_rfl)) (by decide) (fun K hK => ?_)
        refine Kd.R_lit_step k34 _ 34 ?hg (N := 49) ?hd (xs := ([(⟨a3_16, 6⟩ : S34), (⟨x9_6, 7⟩ : S34), (⟨t214, 8⟩ : S34)] : List (S34))) (inner := [.string a3_16, .int .i64 6, .string x9_6, .int .i64 7, .string t214, .int .i64 8]) (ok := fun _ => True) (okp := fun _ => True) ?hr ?hp (fun _ hk => hk) trivial (Below.refl _ _) (Nat.le_refl _) (by simp) ?_; (case hd => rfl); (case hg => rfl); (case hr => first | (go_simp; done) | (go_simp; rfl)); (case hp => exact (Reps.c2 (show Kd.M k34 _ _ _ (⟨a3_16, 6⟩ : S34) [.string a3_16, .int .i64 6] from (k34_mkM _ _ _ (⟨a3_16, 6⟩ : S34) )) (Reps.c2 (show Kd.M k34 _ _ _ (⟨x9_6, 7⟩ : S34) [.string x9_6, .int .i64 7] from (k34_mkM _ _ _ (⟨x9_6, 7⟩ : S34) )) (Reps.c2 (show Kd.M k34 _ _ _ (⟨t214, 8⟩ : S34) [.string t214, .int .i64 8] from (k34_mkM _ _ _ (⟨t214, 8⟩ : S34) )) (Reps.none _ _)))))
        intro v216 w39 ho40 hb hg_ hnew_
        clear hg_ hnew_
        (first | rw [← Ny215.out] at ho40 | (simp only [Int.reduceToNat] at ho40; rw [← Ny215.out] at ho40))
        have n0_ := Aside0.mk (Kd.R_below (by (with_reducible repeat (first | apply Kd.R_alloc | apply Kd.R_drewN | apply Kd.R_drew)); exact HO213.out) hb)
        have n1_ := Aside0.mk (Kd.R_lower ho40 (below_size (by repeat (first | (with_reducible first | exact HB.out | apply below_alloc | apply pw_below_drewN | apply below_drew1 | refine below_set ?_ GE196.out) | exact HB.out))))
        have n2_ := Aside0.mk (blk_below (g := gb196) (o := .cells #[.string a3_0, .string a3_1, .string a3_2, .string a3_3, .string a3_4, .string a3_5, .string a3_6, .string a3_7, .string a3_8, .string a3_9, .string a3_10, .string a3_11, .string a3_12, .string a3_13, .string a3_14, .string a3_15, .string a3_16, .string a3_17, .string a3_18, .string a3_19, .string a3_20] 26 (0, 0)) (by (with_reducible repeat (first | refine blk_drewN ?_ _ | refine blk_drew ?_ | refine blk_alloc ?_ _)); exact BK196.out) hb)
        have n3_ := Aside0.mk (below_step (by repeat (first | (with_reducible first | exact HB.out | apply below_alloc | apply pw_below_drewN | apply below_drew1 | refine below_set ?_ GE196.out) | exact HB.out)) hb)
        clear HO213
        clear BK196
        clear HB
        have HO213 := n0_
        have HO217 := n1_
        have BK196 := n2_
        have HB := n3_
        clear n0_ n1_ n2_ n3_
        clear hb ho40
        obtain ⟨Ao41, co41, eo41⟩ := Kd.R_slice HO217.out
        (first | subst eo41 | (injection eo41 with f1_ f2_ f3_; have f4_ := f1_.symm; have f5_ := f3_.symm; clear f1_ f2_ f3_; subst f4_; subst f5_))
        refine hK.out _ _ ⟨(blk_cell BK196.out 0).trans rfl, (blk_cell BK196.out 1).trans rfl, (blk_cell BK196.out 2).trans rfl, (blk_cell BK196.out 3).trans rfl, (blk_cell BK196.out 4).trans rfl, (blk_cell BK196.out 5).trans rfl, (blk_cell BK196.out 6).trans rfl, (blk_cell BK196.out 7).trans rfl, (blk_cell BK196.out 8).trans rfl, (blk_cell BK196.out 9).trans rfl, (blk_cell BK196.out 10).trans rfl, (blk_cell BK196.out 11).trans rfl, (blk_cell BK196.out 12).trans rfl, (blk_cell BK196.out 13).trans rfl, (blk_cell BK196.out 14).trans rfl, (blk_cell BK196.out 15).trans rfl, (blk_cell BK196.out 16).trans rfl, (blk_cell BK196.out 17).trans rfl, (blk_cell BK196.out 18).trans rfl, (blk_cell BK196.out 19).trans rfl, (blk_cell BK196.out 20).trans rfl⟩ (fun hHeld => ?_)
        clear hK K
        refine norm_ (a' := ?_) ?_ ?_
        rotate_left
        · show Act.put _ (some 49) _ = _
          simp only [Act.put, List.setIfInBounds_toArray, List.set_cons_zero, List.set_cons_succ, i64_w, i32_w]
          rfl
        refine one_ (i := 11) (N := some 50) #[true, true, true, true, true, true, true, true, true, true, true, true, false] rfl rfl (one_of HT_.out (by kernel_rfl)) (by decide) (fun K hK => ?_)
        refine goes_ Tryd.func24 (by kernel_rfl) rfl #[.slice Ao41 y215.length co41] (by rfl) rfl rfl (by (try simp only [List.map_toArray, List.map_cons, List.map_nil]); first | done | rfl | (simp only [List.length_drop, List.length_take]; rfl)) ?_
        refine (full_ext (by (with_reducible repeat (first | apply Kd.R_alloc | apply Kd.R_drewN | apply Kd.R_drew)); exact HO217.out) A34.out).mono ?_
        rintro e w42 ⟨v219, rfl, ho0, hbe, hbk⟩
        refine ⟨_, rfl, ?_⟩
        have m0_ := Aside0.mk (ho0)
        have m1_ := Aside0.mk (hbk _ _ 26 (by decide) (by (with_reducible repeat (first | refine blk_drewN ?_ _ | refine blk_drew ?_ | refine blk_alloc ?_ _)); exact BK196.out))
        have m2_ := Aside0.mk (hbe w rfl (by repeat (first | (with_reducible first | exact HB.out | apply below_alloc | apply pw_below_drewN | apply below_drew1 | refine below_set ?_ GE196.out) | exact HB.out)))
        clear HO213 HO217 BK196 HB
        have HO220 := m0_
        have BK196 := m1_
        have HB := m2_
        clear m0_ m1_ m2_
        clear hbe hbk ho0
        (try clear hb)
        (try clear hb2)
        (try clear hk)
        (try clear hi)
        (try clear ho0)
        refine hK.out _ _ ⟨(blk_cell BK196.out 0).trans rfl, (blk_cell BK196.out 1).trans rfl, (blk_cell BK196.out 2).trans rfl, (blk_cell BK196.out 3).trans rfl, (blk_cell BK196.out 4).trans rfl, (blk_cell BK196.out 5).trans rfl, (blk_cell BK196.out 6).trans rfl, (blk_cell BK196.out 7).trans rfl, (blk_cell BK196.out 8).trans rfl, (blk_cell BK196.out 9).trans rfl, (blk_cell BK196.out 10).trans rfl, (blk_cell BK196.out 11).trans rfl, (blk_cell BK196.out 12).trans rfl, (blk_cell BK196.out 13).trans rfl, (blk_cell BK196.out 14).trans rfl, (blk_cell BK196.out 15).trans rfl, (blk_cell BK196.out 16).trans rfl, (blk_cell BK196.out 17).trans rfl, (blk_cell BK196.out 18).trans rfl, (blk_cell BK196.out 19).trans rfl, (blk_cell BK196.out 20).trans rfl⟩ (fun hHeld => ?_)
        clear hK K
        refine norm_ (a' := ?_) ?_ ?_
        rotate_left
        · show Act.put _ (some 50) _ = _
          simp only [Act.put, List.setIfInBounds_toArray, List.set_cons_zero, List.set_cons_succ, i64_w, i32_w]
          rfl
        refine pure_ (i := 12) (N := some 8) (v := ?_) (a' := ?_) #[true, true, true, true, true, true, true, true, true, true, true, true, true] rfl rfl (any_of HT_.out (by kernel_rfl)) (fun _ _ _ h => h) (Or.inl ⟨by rfl, ?_⟩) ?_ ?_
        rotate_left
        · intro w'
          go_simp
          with_reducible rfl
        rotate_left
        · simp only [Act.put, List.setIfInBounds_toArray, List.set_cons_zero, List.set_cons_succ, i64_w, i32_w]
          rfl
        refine done_ (done_of HT_.out (by kernel_rfl)) ?_
        try go_wp2
        go_ret
        exact ⟨_, by first | rfl | (simp [errW_none, errW_some] <;> rfl) | (simp only [← hji15, ← hji16]; first | rfl | (simp [errW_none, errW_some] <;> rfl)) | (simp [*, errW_none, errW_some] <;> rfl) | (simp only [ne_nil_b]; first | done | rfl) | (simp [ne_nil_b]; done), by (with_reducible repeat (first | apply Kd.R_alloc | apply Kd.R_drewN | apply Kd.R_drew)); exact Kd.R_mono HO220.out (fun _ hk => trivial), by repeat (first | (with_reducible first | exact HB.out | apply below_alloc | apply pw_below_drewN | apply below_drew1 | refine below_set ?_ GE196.out) | exact HB.out)⟩
end Go.Proofs.YtefejkhcbelahaaDoor.Q
