import Derived.Test.YtffldajbnhbkkaaDoorKv26
namespace Go.Proofs.YtffldajbnhbkkaaDoor.Q
open Go.RowKit Go.Proofs.YtffldajbnhbkkaaDoorW.PrintWords Go.Proofs.YtffldajbnhbkkaaDoorW.PrintLast Go.Proofs.YtffldajbnhbkkaaDoorW.PrintMore
set_option linter.unusedVariables false
set_option linter.unusedSimpArgs false
def cr1 (a b : S31) : Bool := decide (a.f1 < b.f1) && (decide (b.f1 < a.f2) && decide (a.f2 < b.f2))
/-- Do two cross? -/
def crossB (a b : S31) : Bool := if a.f1 > b.f1 then cr1 b a else cr1 a b
theorem two_blocks (W : World) (X Y : Array Value) (t u : TypeId) : ((W.alloc (.cells X t)).alloc (.cells Y u)).heap[W.heap.size]? = some (.cells X t (0, 0)) ∧ ((W.alloc (.cells X t)).alloc (.cells Y u)).heap[W.heap.size + 1]? = some (.cells Y u (0, 0)) := by
  refine ⟨blk_alloc (blk_new W _) _, ?_⟩
  have := blk_new (W.alloc (.cells X t)) (.cells Y u)
  have e : (W.alloc (.cells X t)).heap.size = W.heap.size + 1 := by simp
  rw [e] at this; exact this
theorem cr_cases (a b : S31) : (a.f1 < b.f1 ∧ b.f1 < a.f2 ∧ cr1 a b = decide (a.f2 < b.f2)) ∨ (a.f1 < b.f1 ∧ ¬ b.f1 < a.f2 ∧ cr1 a b = false) ∨ (¬ a.f1 < b.f1 ∧ cr1 a b = false) := by
  unfold cr1
  by_cases h1 : a.f1 < b.f1
  · by_cases h2 : b.f1 < a.f2
    · left; refine ⟨h1, h2, ?_⟩; rw [decide_eq_true h1, decide_eq_true h2]; rfl
    · right; left; refine ⟨h1, h2, ?_⟩; rw [decide_eq_false h2]; simp
  · right; right; refine ⟨h1, ?_⟩; rw [decide_eq_false h1]; rfl
set_option maxHeartbeats 8000000 in
set_option maxRecDepth 100000 in
theorem cross_walk (x y : S31) (W : World) :
    Calls Tryd.prog 30 #[.agg #[.int .i64 x.f0, .int .i64 x.f1, .int .i64 x.f2], .agg #[.int .i64 y.f0, .int .i64 y.f1, .int .i64 y.f2]] W fun e w' => e = .returned (.bool (crossB x y)) ∧ Below W.heap.size W w' := by
  have hu31 := Tryd.underlying31
  obtain ⟨hX, hY⟩ := two_blocks W #[.int .i64 x.f0, .int .i64 x.f1, .int .i64 x.f2] #[.int .i64 y.f0, .int .i64 y.f1, .int .i64 y.f2] 31 31
  have hb : Below W.heap.size W ((W.alloc (.cells #[.int .i64 x.f0, .int .i64 x.f1, .int .i64 x.f2] 31)).alloc (.cells #[.int .i64 y.f0, .int .i64 y.f1, .int .i64 y.f2] 31)) := below_alloc (below_alloc (Below.refl _ _) _) _
  have HB := Aside0.mk hb
  have x0 := (blk_cell hX 0).trans (rfl : _ = some (Value.int .i64 x.f0))
  have x1 := (blk_cell hX 1).trans (rfl : _ = some (Value.int .i64 x.f1))
  have x2 := (blk_cell hX 2).trans (rfl : _ = some (Value.int .i64 x.f2))
  have y0 := (blk_cell hY 0).trans (rfl : _ = some (Value.int .i64 y.f0))
  have y1 := (blk_cell hY 1).trans (rfl : _ = some (Value.int .i64 y.f1))
  have y2 := (blk_cell hY 2).trans (rfl : _ = some (Value.int .i64 y.f2))
  have fx0 := blk_frozen hX 0
  have fx1 := blk_frozen hX 1
  have fx2 := blk_frozen hX 2
  have fy0 := blk_frozen hY 0
  have fy1 := blk_frozen hY 1
  have fy2 := blk_frozen hY 2
  clear hX hY hb
  by_cases h : x.f1 > y.f1
  · have e : crossB x y = cr1 y x := by unfold crossB; rw [if_pos h]
    rw [e]
    rcases cr_cases y x with ⟨h1, h2, e2⟩ | ⟨h1, h2, e2⟩ | ⟨h1, e2⟩
    · rw [e2]
      clear e e2
      go_enter Tryd.func30, Tryd.ntmps30
      go_wp2
      go_ret
      exact ⟨rfl, below_alloc (below_alloc (Below.refl _ _) _) _⟩
    · rw [e2]
      clear e e2
      go_enter Tryd.func30, Tryd.ntmps30
      go_wp2
      go_ret
      exact ⟨rfl, below_alloc (below_alloc (Below.refl _ _) _) _⟩
    · exact absurd h h1
  · have e : crossB x y = cr1 x y := by unfold crossB; rw [if_neg h]
    rw [e]
    rcases cr_cases x y with ⟨h1, h2, e2⟩ | ⟨h1, h2, e2⟩ | ⟨h1, e2⟩
    · rw [e2]
      clear e e2
      go_enter Tryd.func30, Tryd.ntmps30
      go_wp2
      go_ret
      exact ⟨rfl, HB.out⟩
    · rw [e2]
      clear e e2
      go_enter Tryd.func30, Tryd.ntmps30
      go_wp2
      go_ret
      exact ⟨rfl, HB.out⟩
    · rw [e2]
      clear e e2
      go_enter Tryd.func30, Tryd.ntmps30
      go_wp2
      go_ret
      exact ⟨rfl, HB.out⟩
/-- Wrap's test: of the span that is to come, and another one. -/
theorem wcross_walk (x y : S31) (gx : Nat) (W : World) (hx : W.heap[gx]? = some (.cells #[.int .i64 x.f0, .int .i64 x.f1, .int .i64 x.f2] 31 (0, 0))) :
    Calls Tryd.prog 29 #[.agg #[.int .i64 y.f0, .int .i64 y.f1, .int .i64 y.f2], .pointer (some ⟨gx, 0, none⟩)] W fun e w' => e = .returned (.bool (crossB x y)) ∧ Below W.heap.size W w' := by
  have hu31 := Tryd.underlying31
  have hX := blk_alloc hx (Obj.cells #[.int .i64 y.f0, .int .i64 y.f1, .int .i64 y.f2] 31)
  have x0 := (blk_cell hX 0).trans (rfl : _ = some (Value.int .i64 x.f0))
  have x1 := (blk_cell hX 1).trans (rfl : _ = some (Value.int .i64 x.f1))
  have x2 := (blk_cell hX 2).trans (rfl : _ = some (Value.int .i64 x.f2))
  have hc := cross_walk x y (W.alloc (Obj.cells #[.int .i64 y.f0, .int .i64 y.f1, .int .i64 y.f2] 31))
  have HB := Aside0.mk (below_alloc (Below.refl W.heap.size W) (Obj.cells #[.int .i64 y.f0, .int .i64 y.f1, .int .i64 y.f2] 31))
  clear hX hx
  go_enter Tryd.func29, Tryd.ntmps29
  go_wp2_with (go_at_call 30; refine hc.mono ?_; rintro e w2 ⟨rfl, hb⟩)
  go_ret
  exact ⟨rfl, below_step HB.out hb⟩
def findX (x : S31) : List S31 → Bool
  | [] => false
  | y :: ys => crossB x y || findX x ys
theorem findX_drop (x : S31) (l : List S31) (i : Nat) (h : i < l.length) : findX x (l.drop i) = (crossB x l[i] || findX x (l.drop (i + 1))) := by
  rw [List.drop_eq_getElem_cons h]; rfl
set_option maxHeartbeats 8000000 in
set_option maxRecDepth 100000 in
theorem indexf_walk (x : S31) (gx : Nat) (A : Option Addr) (c : Nat) (l : List S31) (W : World) (hr : Kd.C k31 W A l.length l) (hc : l.length ≤ c) (hl : l.length < 1000000000) (hx : W.heap[gx]? = some (.cells #[.int .i64 x.f0, .int .i64 x.f1, .int .i64 x.f2] 31 (0, 0))) :
    Calls Tryd.prog 47 #[.slice A l.length c, .func (.func 29) #[] #[.pointer (some ⟨gx, 0, none⟩)]] W fun e w' => (∃ n : Int, e = .returned (.int .i64 n) ∧ decide (0 ≤ n) = findX x l) ∧ Below W.heap.size W w' := by
  have hu31 := Tryd.underlying31
  have HR := Aside0.mk hr
  have HL := Aside0.mk hl
  have HX := Aside0.mk hx
  clear hr hc hl hx
  go_enter Tryd.func47, Tryd.ntmps47
  go_wp2
  go_loopw [8] (fun v8 wr => ∃ (i : Nat), v8 = .int .i64 i ∧ i ≤ l.length ∧ Below W.heap.size W wr ∧ findX x (l.drop i) = findX x l) (fun v8 _ => l.length - (Lib.intOf v8).toNat)
  case atStart => exact ⟨0, rfl, Nat.zero_le _, Below.refl _ _, by rw [List.drop_zero]⟩
  case round =>
    obtain ⟨i, rfl, hi, hb, hs⟩ := hrel
    by_cases hii : i < l.length
    · have hlt : (i : Int) < (l.length : Int) := Int.ofNat_lt.2 hii
      obtain ⟨ad, ea, c0, c1, c2⟩ := at_T31 HR.out (i : Int) (Int.natCast_nonneg i) hlt
      rw [rd31 l i hii, Int.toNat_natCast] at c0 c1 c2
      subst ea
      rw [findX_drop x l i hii] at hs
      obtain ⟨y, hy⟩ : ∃ y, y = l[i] := ⟨_, rfl⟩
      rw [← hy] at c0 c1 c2 hs
      replace c0 := (hb.cell (World.block_lt_of_cell? W _ c0)).trans c0
      replace c1 := (hb.cell (World.block_lt_of_cell? W _ c1)).trans c1
      replace c2 := (hb.cell (World.block_lt_of_cell? W _ c2)).trans c2
      have hcr := wcross_walk x y gx wr (blk_below HX.out hb)
      have HB := Aside0.mk hb
      have HS := Aside0.mk hs
      have HII := Aside0.mk hii
      have HWI := Aside0.mk (wrapIn hii HL.out)
      clear hb hs hi hy hii
      cases hcb : crossB x y with
      | true =>
        rw [hcb] at hcr
        have HS2 : Aside0 (findX x l = true) := ⟨by rw [← HS.out, hcb]; rfl⟩
        go_wp2_with (go_at_call 29; refine hcr.mono ?_; rintro e w2 ⟨rfl, hb⟩; have HB2 := Aside0.mk (below_step HB.out hb); clear hb)
        go_ret
        exact ⟨⟨(i : Int), rfl, by rw [HS2.out]; exact decide_eq_true (Int.natCast_nonneg i)⟩, HB2.out⟩
      | false =>
        rw [hcb] at hcr
        have HS2 : Aside0 (findX x (l.drop (i + 1)) = findX x l) := ⟨by rw [← HS.out, hcb]; rfl⟩
        go_wp2_with (go_at_call 29; refine hcr.mono ?_; rintro e w2 ⟨rfl, hb⟩; have HB2 := Aside0.mk (below_step HB.out hb); clear hb)
        go_roundw
        case rel => exact ⟨i + 1, by rw [HWI.out], HII.out, HB2.out, HS2.out⟩
        case measure => rw [HWI.out]; exact Nat.sub_lt_sub_left HII.out (Nat.lt_succ_self i)
    · have hlt : ¬ ((i : Int) < (l.length : Int)) := fun h => hii (Int.ofNat_lt.1 h)
      have HS2 : Aside0 (findX x l = false) := ⟨by rw [← hs, List.drop_of_length_le (by omega)]; rfl⟩
      have HB := Aside0.mk hb
      clear hb hs hi hii
      go_wp2
      go_ret
      exact ⟨⟨-1, rfl, by rw [HS2.out]; rfl⟩, HB.out⟩
set_option maxHeartbeats 8000000 in
set_option maxRecDepth 100000 in
theorem contains_walk (x : S31) (gx : Nat) (A : Option Addr) (c : Nat) (l : List S31) (W : World) (hr : Kd.C k31 W A l.length l) (hc : l.length ≤ c) (hl : l.length < 1000000000) (hx : W.heap[gx]? = some (.cells #[.int .i64 x.f0, .int .i64 x.f1, .int .i64 x.f2] 31 (0, 0))) :
    Calls Tryd.prog 28 #[.slice A l.length c, .func (.func 29) #[] #[.pointer (some ⟨gx, 0, none⟩)]] W fun e w' => e = .returned (.bool (findX x l)) ∧ Below W.heap.size W w' := by
  have hf := indexf_walk x gx A c l W hr hc hl hx
  clear hr hx
  go_enter Tryd.func28, Tryd.ntmps28
  go_wp2_with (go_at_call 47; refine hf.mono ?_; rintro e w2 ⟨⟨n, rfl, hn⟩, hb⟩; have HN := Aside0.mk hn; clear hn)
  go_ret
  exact ⟨by rw [← HN.out]; rfl, hb⟩
end Go.Proofs.YtffldajbnhbkkaaDoor.Q
