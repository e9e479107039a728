import Derived.Test.YtnkggincckdoiaaDoorKr18
import Derived.Test.YtnkggincckdoiaaDoorKr20
import Derived.Deep.WholeRow
namespace Go.Proofs.YtnkggincckdoiaaDoor.Q
open Go.RowKit Go.Shelf Go.Proofs.YtnkggincckdoiaaDoorW.PrintWords Go.Proofs.YtnkggincckdoiaaDoorW.PrintLast Go.Proofs.YtnkggincckdoiaaDoorW.PrintMore
set_option linter.unusedVariables false
set_option linter.unusedSimpArgs false
def s0 : ByteArray := ⟨#[48]⟩
def opr0 : Opr := ⟨s0, 0, 0, s0, s0, 0⟩
theorem oin0 : OIn opr0 := ⟨by constructor <;> decide, by constructor <;> decide, by constructor <;> decide, by decide, by decide, by decide⟩
set_option maxHeartbeats 4000000 in
set_option maxRecDepth 100000 in
theorem check_in (s : ByteArray) (w : World) (hG : Gd w) :
    Calls Tryd.prog 20 #[.string s] w fun e w' => e = .returned (.int .i64 (pickR s opr0).2) ∧ Below w.heap.size w w' := by
  have hu29 := Tryd.underlying29
  have PK := Aside0.mk (fun w2 (hW : Below w.heap.size w w2) => picked_in s opr0 w2 (hG.below hW) oin0)
  unfold encO opr0 s0 at PK
  simp only [] at PK
  go_enter Tryd.func20, Tryd.ntmps20
  go_wp2_with (go_at_call 22; refine (PK.out _ (Below.refl _ _)).mono ?_; rintro e w2 ⟨rfl, hb⟩; have HB := Aside0.mk hb; clear hb)
  go_ret
  exact ⟨rfl, HB.out⟩
set_option maxHeartbeats 4000000 in
set_option maxRecDepth 100000 in
theorem checkranges_in (s : ByteArray) (w : World) :
    Calls Tryd.prog 11 #[.string s] w fun e w' => e = .returned (.int .i64 (entE s)) ∧ Below w.heap.size w w' := by
  have EN := Aside0.mk (fun w2 => entries_in s w2)
  go_enter Tryd.func11, Tryd.ntmps11
  go_upto_region 1 with (fail)
  refine wp_region_list ?_
  refine wpList_plain rfl fun K hK => ?_
  go_simp
  refine hK _ _ ?_
  clear hK K
  refine wpList_plain rfl fun K hK => ?_
  go_simp
  go_at_call 18
  refine (EN.out _).mono ?_
  rintro e w2 ⟨q, hq, rfl, hr, hb⟩
  have HR := Aside0.mk hr
  clear hr
  simp only []
  refine hK _ _ ?_
  clear hK K
  refine wpList_plain rfl fun K hK => ?_
  go_simp
  refine hK _ _ ?_
  clear hK K
  refine wpList_plain rfl fun K hK => ?_
  go_simp
  refine hK _ _ ?_
  clear hK K
  refine wpList_plain rfl fun K hK => ?_
  go_simp
  refine hK _ _ ?_
  clear hK K
  refine wpList_plain rfl fun K hK => ?_
  go_simp
  refine hK _ _ ?_
  clear hK K
  change wpList _ _ _ _ _ (w2.alloc (Obj.cells (cellsI noneI) 46))
  refine wpList_store_row rfl 46 (.tmp 3) (.tmp 8) rfl w2.heap.size (cellsI q) rfl rfl 46 (cellsI noneI) (blk_new w2 _) (by rw [size_cellsI, hq]; exact info46) (by rw [size_cellsI, size_cellsI, hq]; rfl) (all_cellsI _) ?_
  rw [World.setRow_alloc_new]
  have HB := Aside0.mk (below_alloc hb (Obj.cells (cellsI q) 46))
  have HQ := Aside0.mk (blk_new w2 (Obj.cells (cellsI q) 46))
  have HQL := Aside0.mk hq
  clear hb hq
  go_wp2
  go_ret
  exact ⟨rfl, HB.out⟩
theorem entE_zero {s : ByteArray} (h : entE s = 0) : ∃ q, entR s = some q := by
  unfold entE at h
  split at h
  · cases h
  · split at h
    · rename_i h2; exact Option.isSome_iff_exists.1 h2
    · cases h
/-- What PickRange answers. -/
def rangeF (s : ByteArray) (a b : Int) : Int × Int :=
  if entE s ≠ 0 then (0, entE s)
  else if a < 0 ∨ 6 ≤ a ∨ b < 0 ∨ 6 ≤ b then (0, 1)
  else if 0 < ((entR s).getD noneI).getD (a.toNat * 6 + b.toNat) 0 then (wrap64 (((entR s).getD noneI).getD (a.toNat * 6 + b.toNat) 0 - 1), 0)
  else (b, 0)
set_option maxHeartbeats 4000000 in
set_option maxRecDepth 100000 in
theorem pickrange_in (s : ByteArray) (a b : Int) (w : World) :
    Calls Tryd.prog 8 #[.string s, .int .i64 a, .int .i64 b] w fun e w' => e = .returned (.tuple #[.int .i64 (rangeF s a b).1, .int .i64 (rangeF s a b).2]) ∧ Below w.heap.size w w' := by
  have hu46 := Tryd.underlying46
  have hu45 := Tryd.underlying45
  have EN := Aside0.mk (fun w2 => entries_in s w2)
  by_cases hE : entE s = 0
  · obtain ⟨q0, hq0⟩ := entE_zero hE
    by_cases hab : a < 0 ∨ 6 ≤ a ∨ b < 0 ∨ 6 ≤ b
    · have e : rangeF s a b = (0, 1) := by rw [rangeF, if_neg (not_not_intro hE), if_pos hab]
      rw [e]
      have HAB := Aside0.mk hab
      rw [hE] at EN
      have HE := Aside0.mk hE
      clear hab hE hq0
      go_enter Tryd.func8, Tryd.ntmps8
      go_upto_region 1 with (fail)
      refine wp_region_list ?_
      refine wpList_plain rfl fun K hK => ?_
      go_simp
      refine hK _ _ ?_
      clear hK K
      refine wpList_plain rfl fun K hK => ?_
      go_simp
      go_at_call 18
      refine (EN.out _).mono ?_
      rintro e w2 ⟨q, hq, rfl, hr, hb⟩
      have HR := Aside0.mk hr
      clear hr
      simp only []
      refine hK _ _ ?_
      clear hK K
      refine wpList_plain rfl fun K hK => ?_
      go_simp
      refine hK _ _ ?_
      clear hK K
      refine wpList_plain rfl fun K hK => ?_
      go_simp
      refine hK _ _ ?_
      clear hK K
      refine wpList_plain rfl fun K hK => ?_
      go_simp
      refine hK _ _ ?_
      clear hK K
      refine wpList_plain rfl fun K hK => ?_
      go_simp
      refine hK _ _ ?_
      clear hK K
      change wpList _ _ _ _ _ (w2.alloc (Obj.cells (cellsI noneI) 46))
      refine wpList_store_row rfl 46 (.tmp 8) (.tmp 13) rfl w2.heap.size (cellsI q) rfl rfl 46 (cellsI noneI) (blk_new w2 _) (by rw [size_cellsI, hq]; exact info46) (by rw [size_cellsI, size_cellsI, hq]; rfl) (all_cellsI _) ?_
      rw [World.setRow_alloc_new]
      have HB := Aside0.mk (below_alloc hb (Obj.cells (cellsI q) 46))
      have HQ := Aside0.mk (blk_new w2 (Obj.cells (cellsI q) 46))
      have HQL := Aside0.mk hq
      clear hb hq
      by_cases c1 : a < 0
      · have d1 : decide (a < 0) = true := decide_eq_true c1
        go_wp2
        go_ret2
        exact ⟨rfl, HB.out⟩
      · have d1 : decide (a < 0) = false := decide_eq_false c1
        by_cases c2 : 6 ≤ a
        · have d2 : decide (6 ≤ a) = true := decide_eq_true c2
          go_wp2
          go_ret2
          exact ⟨rfl, HB.out⟩
        · have d2 : decide (6 ≤ a) = false := decide_eq_false c2
          by_cases c3 : b < 0
          · have d3 : decide (b < 0) = true := decide_eq_true c3
            go_wp2
            go_ret2
            exact ⟨rfl, HB.out⟩
          · have d3 : decide (b < 0) = false := decide_eq_false c3
            have c4 : 6 ≤ b := by have := HAB.out; omega
            have d4 : decide (6 ≤ b) = true := decide_eq_true c4
            go_wp2
            go_ret2
            exact ⟨rfl, HB.out⟩
    · obtain ⟨a1, rfl⟩ : ∃ a1 : Nat, a = (a1 : Int) := ⟨a.toNat, by omega⟩
      obtain ⟨b1, rfl⟩ : ∃ b1 : Nat, b = (b1 : Int) := ⟨b.toNat, by omega⟩
      obtain ⟨v, hv⟩ : ∃ v, v = q0.getD (a1 * 6 + b1) 0 := ⟨_, rfl⟩
      have e : rangeF s (a1 : Int) (b1 : Int) = if 0 < v then (wrap64 (v - 1), 0) else ((b1 : Int), 0) := by
        rw [rangeF, if_neg (not_not_intro hE), if_neg hab, hq0, Option.getD_some, Int.toNat_natCast, Int.toNat_natCast, ← hv]
      have HV := Aside0.mk hv
      have hq1 := Aside0.mk hq0
      rw [e]
      rw [hE] at EN
      have ha : (a1 : Int) < 6 := by omega
      have hb1 : (b1 : Int) < 6 := by omega
      have ha0 : (0 : Int) ≤ a1 := Int.natCast_nonneg _
      have hb0 : (0 : Int) ≤ b1 := Int.natCast_nonneg _
      have d1 : decide ((a1 : Int) < 0) = false := decide_eq_false (by omega)
      have d2 : decide ((6 : Int) ≤ a1) = false := decide_eq_false (by omega)
      have d3 : decide ((b1 : Int) < 0) = false := decide_eq_false (by omega)
      have d4 : decide ((6 : Int) ≤ b1) = false := decide_eq_false (by omega)
      clear hE hab hv hq0 e
      by_cases v0 : 0 < v
      · rw [if_pos v0]
        go_enter Tryd.func8, Tryd.ntmps8
        go_upto_region 1 with (fail)
        refine wp_region_list ?_
        refine wpList_plain rfl fun K hK => ?_
        go_simp
        refine hK _ _ ?_
        clear hK K
        refine wpList_plain rfl fun K hK => ?_
        go_simp
        go_at_call 18
        refine (EN.out _).mono ?_
        rintro e w2 ⟨q, hq, rfl, hr, hb⟩
        have HR := Aside0.mk hr
        clear hr
        simp only []
        refine hK _ _ ?_
        clear hK K
        refine wpList_plain rfl fun K hK => ?_
        go_simp
        refine hK _ _ ?_
        clear hK K
        refine wpList_plain rfl fun K hK => ?_
        go_simp
        refine hK _ _ ?_
        clear hK K
        refine wpList_plain rfl fun K hK => ?_
        go_simp
        refine hK _ _ ?_
        clear hK K
        refine wpList_plain rfl fun K hK => ?_
        go_simp
        refine hK _ _ ?_
        clear hK K
        change wpList _ _ _ _ _ (w2.alloc (Obj.cells (cellsI noneI) 46))
        refine wpList_store_row rfl 46 (.tmp 8) (.tmp 13) rfl w2.heap.size (cellsI q) rfl rfl 46 (cellsI noneI) (blk_new w2 _) (by rw [size_cellsI, hq]; exact info46) (by rw [size_cellsI, size_cellsI, hq]; rfl) (all_cellsI _) ?_
        rw [World.setRow_alloc_new]
        have HB := Aside0.mk (below_alloc hb (Obj.cells (cellsI q) 46))
        have HQ := Aside0.mk (blk_new w2 (Obj.cells (cellsI q) 46))
        have HQL := Aside0.mk hq
        clear hb hq
        have hqq := HR.out _ hq1.out
        subst hqq
        have hc := cellsI_at HQ.out (show a1 * 6 + b1 < q.length by rw [HQL.out]; omega)
        rw [← HV.out] at hc
        generalize w2.alloc (Obj.cells (cellsI q) 46) = w3 at HB HQ hc ⊢
        go_wp2
        go_ret2
        exact ⟨rfl, HB.out⟩
      · rw [if_neg v0]
        go_enter Tryd.func8, Tryd.ntmps8
        go_upto_region 1 with (fail)
        refine wp_region_list ?_
        refine wpList_plain rfl fun K hK => ?_
        go_simp
        refine hK _ _ ?_
        clear hK K
        refine wpList_plain rfl fun K hK => ?_
        go_simp
        go_at_call 18
        refine (EN.out _).mono ?_
        rintro e w2 ⟨q, hq, rfl, hr, hb⟩
        have HR := Aside0.mk hr
        clear hr
        simp only []
        refine hK _ _ ?_
        clear hK K
        refine wpList_plain rfl fun K hK => ?_
        go_simp
        refine hK _ _ ?_
        clear hK K
        refine wpList_plain rfl fun K hK => ?_
        go_simp
        refine hK _ _ ?_
        clear hK K
        refine wpList_plain rfl fun K hK => ?_
        go_simp
        refine hK _ _ ?_
        clear hK K
        refine wpList_plain rfl fun K hK => ?_
        go_simp
        refine hK _ _ ?_
        clear hK K
        change wpList _ _ _ _ _ (w2.alloc (Obj.cells (cellsI noneI) 46))
        refine wpList_store_row rfl 46 (.tmp 8) (.tmp 13) rfl w2.heap.size (cellsI q) rfl rfl 46 (cellsI noneI) (blk_new w2 _) (by rw [size_cellsI, hq]; exact info46) (by rw [size_cellsI, size_cellsI, hq]; rfl) (all_cellsI _) ?_
        rw [World.setRow_alloc_new]
        have HB := Aside0.mk (below_alloc hb (Obj.cells (cellsI q) 46))
        have HQ := Aside0.mk (blk_new w2 (Obj.cells (cellsI q) 46))
        have HQL := Aside0.mk hq
        clear hb hq
        have hqq := HR.out _ hq1.out
        subst hqq
        have hc := cellsI_at HQ.out (show a1 * 6 + b1 < q.length by rw [HQL.out]; omega)
        rw [← HV.out] at hc
        generalize w2.alloc (Obj.cells (cellsI q) 46) = w3 at HB HQ hc ⊢
        go_wp2
        go_ret2
        exact ⟨rfl, HB.out⟩
  · have e : rangeF s a b = (0, entE s) := if_pos hE
    rw [e]
    generalize entE s = E at hE EN
    have d0 : decide (E = 0) = false := decide_eq_false hE
    have d1 : (E == 0) = false := beq_eq_false_iff_ne.2 hE
    go_enter Tryd.func8, Tryd.ntmps8
    go_upto_region 1 with (fail)
    refine wp_region_list ?_
    refine wpList_plain rfl fun K hK => ?_
    go_simp
    refine hK _ _ ?_
    clear hK K
    refine wpList_plain rfl fun K hK => ?_
    go_simp
    go_at_call 18
    refine (EN.out _).mono ?_
    rintro e w2 ⟨q, hq, rfl, hr, hb⟩
    have HR := Aside0.mk hr
    clear hr
    simp only []
    refine hK _ _ ?_
    clear hK K
    refine wpList_plain rfl fun K hK => ?_
    go_simp
    refine hK _ _ ?_
    clear hK K
    refine wpList_plain rfl fun K hK => ?_
    go_simp
    refine hK _ _ ?_
    clear hK K
    refine wpList_plain rfl fun K hK => ?_
    go_simp
    refine hK _ _ ?_
    clear hK K
    refine wpList_plain rfl fun K hK => ?_
    go_simp
    refine hK _ _ ?_
    clear hK K
    change wpList _ _ _ _ _ (w2.alloc (Obj.cells (cellsI noneI) 46))
    refine wpList_store_row rfl 46 (.tmp 8) (.tmp 13) rfl w2.heap.size (cellsI q) rfl rfl 46 (cellsI noneI) (blk_new w2 _) (by rw [size_cellsI, hq]; exact info46) (by rw [size_cellsI, size_cellsI, hq]; rfl) (all_cellsI _) ?_
    rw [World.setRow_alloc_new]
    have HB := Aside0.mk (below_alloc hb (Obj.cells (cellsI q) 46))
    have HQ := Aside0.mk (blk_new w2 (Obj.cells (cellsI q) 46))
    have HQL := Aside0.mk hq
    clear hb hq
    go_wp2
    go_ret2
    exact ⟨rfl, HB.out⟩
/-- What Pick answers. -/
def pickF (s : ByteArray) (x : Opr) : Int × Int :=
  if (pickR s opr0).2 ≠ 0 then (0, (pickR s opr0).2)
  else if mayO x.i x.v x.w x.f x.t x.e = true then pickR s x else (0, 92)
theorem may_in (x : Opr) (hx : OIn x) (w : World) : Calls Tryd.prog 21 #[encO x] w fun e w' => e = .returned (.bool (mayO x.i x.v x.w x.f x.t x.e)) ∧ Below w.heap.size w w' :=
  operand_May.calls 2 x.i x.v x.w x.f x.t x.e _ w (OMay_p x.i x.v x.w x.f x.t x.e (by have := hx.i1; omega) (by have := hx.f1; omega) (by have := hx.t1; omega) 2 (Nat.le_refl _))
set_option maxHeartbeats 4000000 in
set_option maxRecDepth 100000 in
theorem pick_in (s : ByteArray) (x : Opr) (w : World) (hG : Gd w) (hx : OIn x) :
    Calls Tryd.prog 16 #[.string s, encO x] w fun e w' => e = .returned (.tuple #[.int .i64 (pickF s x).1, .int .i64 (pickF s x).2]) ∧ Below w.heap.size w w' := by
  have hu29 := Tryd.underlying29
  have CK := Aside0.mk (fun w2 (hW : Below w.heap.size w w2) => check_in s w2 (hG.below hW))
  have PK := Aside0.mk (fun w2 (hW : Below w.heap.size w w2) => picked_in s x w2 (hG.below hW) hx)
  have MY := Aside0.mk (fun w2 => may_in x hx w2)
  unfold encO at PK MY ⊢
  have hb1 := below_alloc (Below.refl w.heap.size w) (Obj.cells #[.string x.i, .int .i64 x.v, .int .i64 x.w, .string x.f, .string x.t, .int .i64 x.e] 29)
  have hm := blk_new w (Obj.cells #[.string x.i, .int .i64 x.v, .int .i64 x.w, .string x.f, .string x.t, .int .i64 x.e] 29)
  have HB1 := Aside0.mk hb1
  have HM1 := Aside0.mk hm
  clear hb1 hm hG hx
  generalize hE : (pickR s opr0).2 = E at CK
  by_cases e0 : E = 0
  · subst e0
    generalize hM : mayO x.i x.v x.w x.f x.t x.e = M at MY
    cases M with
    | false =>
      have e : pickF s x = (0, 92) := by rw [pickF, if_neg (not_not_intro hE), if_neg (by rw [hM]; decide)]
      rw [e]
      clear hE hM
      go_enter Tryd.func16, Tryd.ntmps16
      go_wp2_with (first | (go_at_call 20; refine (CK.out _ HB1.out).mono ?_; rintro e w2 ⟨rfl, hb⟩; have hm2 := blk_below HM1.out hb; have y0 := (blk_cell hm2 0).trans (rfl : _ = some (Value.string x.i)); have y1 := (blk_cell hm2 1).trans (rfl : _ = some (Value.int .i64 x.v)); have y2 := (blk_cell hm2 2).trans (rfl : _ = some (Value.int .i64 x.w)); have y3 := (blk_cell hm2 3).trans (rfl : _ = some (Value.string x.f)); have y4 := (blk_cell hm2 4).trans (rfl : _ = some (Value.string x.t)); have y5 := (blk_cell hm2 5).trans (rfl : _ = some (Value.int .i64 x.e)); have HB2 := Aside0.mk (below_step HB1.out hb); clear hb hm2) | (go_at_call 21; refine (MY.out _).mono ?_; rintro e w3 ⟨rfl, hb⟩; have HB3 := Aside0.mk (below_step HB2.out hb); clear hb))
      go_ret2
      exact ⟨rfl, HB3.out⟩
    | true =>
      have e : pickF s x = pickR s x := by rw [pickF, if_neg (not_not_intro hE), if_pos hM]
      rw [e]
      clear hE hM
      generalize pickR s x = P at PK
      go_enter Tryd.func16, Tryd.ntmps16
      go_wp2_with (first | (go_at_call 20; refine (CK.out _ HB1.out).mono ?_; rintro e w2 ⟨rfl, hb⟩; have hm2 := blk_below HM1.out hb; have HM2 := Aside0.mk hm2; have y0 := (blk_cell hm2 0).trans (rfl : _ = some (Value.string x.i)); have y1 := (blk_cell hm2 1).trans (rfl : _ = some (Value.int .i64 x.v)); have y2 := (blk_cell hm2 2).trans (rfl : _ = some (Value.int .i64 x.w)); have y3 := (blk_cell hm2 3).trans (rfl : _ = some (Value.string x.f)); have y4 := (blk_cell hm2 4).trans (rfl : _ = some (Value.string x.t)); have y5 := (blk_cell hm2 5).trans (rfl : _ = some (Value.int .i64 x.e)); have HB2 := Aside0.mk (below_step HB1.out hb); clear hb hm2) | (go_at_call 21; refine (MY.out _).mono ?_; rintro e w3 ⟨rfl, hb⟩; have hm2 := blk_below HM2.out hb; have z0 := (blk_cell hm2 0).trans (rfl : _ = some (Value.string x.i)); have z1 := (blk_cell hm2 1).trans (rfl : _ = some (Value.int .i64 x.v)); have z2 := (blk_cell hm2 2).trans (rfl : _ = some (Value.int .i64 x.w)); have z3 := (blk_cell hm2 3).trans (rfl : _ = some (Value.string x.f)); have z4 := (blk_cell hm2 4).trans (rfl : _ = some (Value.string x.t)); have z5 := (blk_cell hm2 5).trans (rfl : _ = some (Value.int .i64 x.e)); have HB3 := Aside0.mk (below_step HB2.out hb); clear hb hm2) | (go_at_call 22; refine (PK.out _ HB3.out).mono ?_; rintro e w4 ⟨rfl, hb⟩; have HB4 := Aside0.mk (below_step HB3.out hb); clear hb))
      go_ret2
      exact ⟨rfl, HB4.out⟩
  · have e : pickF s x = (0, E) := by rw [pickF, if_pos (by rw [hE]; exact e0), hE]
    rw [e]
    have d1 : (E == 0) = false := beq_eq_false_iff_ne.2 e0
    have d0 : decide (E = 0) = false := decide_eq_false e0
    clear hE
    go_enter Tryd.func16, Tryd.ntmps16
    go_wp2_with (go_at_call 20; refine (CK.out _ HB1.out).mono ?_; rintro e w2 ⟨rfl, hb⟩; have HB2 := Aside0.mk (below_step HB1.out hb); clear hb)
    go_ret2
    exact ⟨rfl, HB2.out⟩
end Go.Proofs.YtnkggincckdoiaaDoor.Q
