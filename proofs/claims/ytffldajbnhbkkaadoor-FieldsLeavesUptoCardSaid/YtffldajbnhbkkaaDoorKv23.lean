import Derived.Test.YtffldajbnhbkkaaDoorKv22
import Derived.StillTailTactics
namespace Go.Proofs.YtffldajbnhbkkaaDoor.Q
open Go.RowKit Go.Proofs.YtffldajbnhbkkaaDoorW.PrintWords Go.Proofs.YtffldajbnhbkkaaDoorW.PrintLast Go.Proofs.YtffldajbnhbkkaaDoorW.PrintMore
set_option linter.unusedVariables false
set_option linter.unusedSimpArgs false
attribute [local irreducible] Go.wpStill
theorem order_c (x y : S31) (W : World) : Calls Tryd.prog 32 #[.agg #[.int .i64 x.f0, .int .i64 x.f1, .int .i64 x.f2], .agg #[.int .i64 y.f0, .int .i64 y.f1, .int .i64 y.f2]] W fun e w' => e = .returned (.int .i64 (ordV x y)) ∧ Below W.heap.size W w' := fields_order.calls 3 _ _ _ _ _ _ _ W (order_p x y 0)
/-- Is none of the first k ahead of the one before it? -/
def sortTo (l : List S31) : Nat → Bool
  | 0 => true
  | k + 1 => if lt31 (rd_T31 l (k + 1 : Nat)) (rd_T31 l (k : Nat)) = true then false else sortTo l k
def sortB (l : List S31) : Bool := sortTo l (l.length - 1)
theorem so_nums (i : Nat) (h : i + 1 < 1000000000) : wrap64 (((i + 1 : Nat) : Int) - 1) = (i : Int) := by unfold wrap64; omega
theorem so_num2 (i : Nat) (h : i + 1 < 1000000000) : IntKind.i64.wrap (((i + 1 : Nat) : Int) - 1) = (i : Int) := (IntWalk.i64_in _ (by omega)).trans (by omega)
set_option maxHeartbeats 4000000 in
set_option maxRecDepth 100000 in
theorem sorted_walk (A : Option Addr) (c : Nat) (l : List S31) (W : World) (hr : Kd.C k31 W A l.length l) (hc : l.length ≤ c) (hl : l.length < 1000000000) :
    Calls Tryd.prog 37 #[.slice A l.length c, .func (.func 32) #[] #[]] W fun e w' => e = .returned (.bool (sortB l)) ∧ Below W.heap.size W w' := by
  have hu31 := Tryd.underlying31
  have hu23 := Tryd.underlying23
  have HR := Aside0.mk hr
  have HC := Aside0.mk hc
  have HL := Aside0.mk hl
  have hn1 : wrap64 ((l.length : Int) - 1) = (l.length : Int) - 1 := by unfold wrap64; omega
  have HN1 := Aside0.mk hn1
  clear hr hc hl hn1
  go_enter Tryd.func37, Tryd.ntmps37
  go_wp2
  go_loopw [5] (fun v5 wr => ∃ (j : Int), v5 = .int .i64 j ∧ j < (l.length : Int) ∧ Below W.heap.size W wr ∧ sortTo l j.toNat = sortB l) (fun v5 _ => (Lib.intOf v5).toNat)
  case atStart => exact ⟨(l.length : Int) - 1, by rw [HN1.out], by omega, Below.refl _ _, by unfold sortB; congr 1; omega⟩
  case round =>
    obtain ⟨j, rfl, hj, hb, hs⟩ := hrel
    by_cases h1 : j ≤ 0
    · have hz : ¬ ((0 : Int) < j) := by omega
      have hs2 : sortB l = true := by
        rw [← hs, show j.toNat = 0 from by omega]; rfl
      have HB := Aside0.mk hb
      clear hs hb hj h1
      rw [hs2]
      go_wp2
      go_ret
      exact ⟨rfl, HB.out⟩
    · obtain ⟨k, rfl⟩ : ∃ k : Nat, j = ((k + 1 : Nat) : Int) := ⟨(j - 1).toNat, by omega⟩
      have hkl : k + 1 < l.length := by omega
      obtain ⟨m, hm⟩ : ∃ m, k + 1 = m := ⟨_, rfl⟩
      rw [Int.toNat_natCast] at hs
      have hst : sortTo l (k + 1) = if lt31 (rd_T31 l (m : Nat)) (rd_T31 l (k : Nat)) = true then false else sortTo l k := by rw [← hm]; rfl
      rw [hst] at hs
      rw [hm] at hj hkl h1 ⊢
      have e1 : wrap64 ((m : Int) - 1) = (k : Int) := by rw [← hm]; exact so_nums k (by have := HL.out; omega)
      have e2 : IntKind.i64.wrap ((m : Int) - 1) = (k : Int) := by rw [← hm]; exact so_num2 k (by have := HL.out; omega)
      have q1 : (0 : Int) ≤ (m : Int) := Int.natCast_nonneg m
      have q2 : (0 : Int) ≤ (k : Int) := Int.natCast_nonneg k
      have q3 : (k : Int) < (l.length : Int) := by omega
      have q4 : (0 : Int) < (m : Int) := by omega
      obtain ⟨ad, ea, c0, c1, c2⟩ := at_T31 HR.out (m : Int) q1 hj
      obtain ⟨ad', eb, d0, d1, d2⟩ := at_T31 HR.out (k : Int) q2 q3
      obtain rfl : ad = ad' := by rw [ea] at eb; injection eb
      subst ea
      rw [Int.toNat_natCast] at c0 c1 c2 d0 d1 d2
      replace c0 := (hb.cell (World.block_lt_of_cell? W _ c0)).trans c0
      replace c1 := (hb.cell (World.block_lt_of_cell? W _ c1)).trans c1
      replace c2 := (hb.cell (World.block_lt_of_cell? W _ c2)).trans c2
      replace d0 := (hb.cell (World.block_lt_of_cell? W _ d0)).trans d0
      replace d1 := (hb.cell (World.block_lt_of_cell? W _ d1)).trans d1
      replace d2 := (hb.cell (World.block_lt_of_cell? W _ d2)).trans d2
      generalize rd_T31 l (m : Int) = x at *
      generalize rd_T31 l (k : Int) = y at *
      have hb2 : Below W.heap.size W wr.drew := below_drew1 hb
      replace c0 : wr.drew.cell? _ = _ := c0
      replace c1 : wr.drew.cell? _ = _ := c1
      replace c2 : wr.drew.cell? _ = _ := c2
      replace d0 : wr.drew.cell? _ = _ := d0
      replace d1 : wr.drew.cell? _ = _ := d1
      replace d2 : wr.drew.cell? _ = _ := d2
      have ew : (World.mk wr.heap wr.tape (wr.drawn + 1) wr.os wr.output) = wr.drew := rfl
      have EW := Aside0.mk ew
      have HS := Aside0.mk hs
      have HM := Aside0.mk hm
      have HKL := Aside0.mk hkl
      clear hs hb hm hst hkl h1 ew
      go_wp2
      go_still_tail 10, (by kernel_rfl)
      rw [EW.out]
      have hor := order_c x y wr.drew
      clear EW
      generalize wr.drew = w2 at c0 c1 c2 d0 d1 d2 hb2 hor ⊢
      repeat still_step
      try refine wpStill_nil ?_
      have HB2 := Aside0.mk hb2
      have OL := Aside0.mk (ordV_lt x y)
      clear hb2 c0 c1 c2 d0 d1 d2
      cases hlt : lt31 x y with
      | true =>
        have hov : ordV x y < 0 := of_decide_eq_true (OL.out.trans hlt)
        have HLT := Aside0.mk hlt
        clear hlt
        go_wp2_with (go_at_call 32; refine hor.mono ?_; rintro e w3 ⟨rfl, hb3⟩)
        go_ret
        refine ⟨?_, below_step HB2.out hb3⟩
        have h := HS.out
        rw [HLT.out, if_pos rfl] at h
        show Ending.returned (.bool false) = _
        rw [← h]
      | false =>
        have hov : ¬ (ordV x y < 0) := of_decide_eq_false (OL.out.trans hlt)
        have HLT := Aside0.mk hlt
        clear hlt
        go_wp2_with (go_at_call 32; refine hor.mono ?_; rintro e w3 ⟨rfl, hb3⟩; have HB3 := Aside0.mk (below_step HB2.out hb3); clear hb3)
        go_roundw
        case rel =>
          have h := HS.out
          rw [HLT.out, if_neg (by simp)] at h
          have hkl := HKL.out
          have hm := HM.out
          exact ⟨(k : Int), rfl, by omega, HB3.out, h⟩
        case measure => have hm := HM.out; show k < m; omega
end Go.Proofs.YtffldajbnhbkkaaDoor.Q
