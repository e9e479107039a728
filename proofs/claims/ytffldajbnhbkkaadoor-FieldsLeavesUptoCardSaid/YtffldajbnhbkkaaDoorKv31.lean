import Derived.Test.YtffldajbnhbkkaaDoorKv30
namespace Go.Proofs.YtffldajbnhbkkaaDoor.Q
open Go.RowKit Go.Proofs.YtffldajbnhbkkaaDoorW.PrintWords Go.Proofs.YtffldajbnhbkkaaDoorW.PrintLast Go.Proofs.YtffldajbnhbkkaaDoorW.PrintMore
set_option linter.unusedVariables false
set_option linter.unusedSimpArgs false
attribute [local irreducible] Go.wpStill
/-- They are in order. -/
def Sorted (l : List S31) : Prop := ∀ i j (hi : i < l.length) (hj : j < l.length), i ≤ j → lt31 l[j] l[i] = false
theorem lt_left {a b x : S31} (h : lt31 b x = true) (hs : lt31 b a = false) : lt31 a x = true := by
  cases c : lt31 a x with
  | true => rfl
  | false => rw [ord31.trans x a b c hs] at h; cases h
theorem lt_right {a b x : S31} (h : lt31 a x = false) (hs : lt31 b a = false) : lt31 b x = false := ord31.trans x a b h hs
/-- The place of a span: all ahead of it stand ahead, none behind. -/
structure Place (l : List S31) (x : S31) (lo hi : Nat) : Prop where
  le : lo ≤ hi
  len : hi ≤ l.length
  lo : ∀ j (h : j < l.length), j < lo → lt31 l[j] x = true
  hi : ∀ j (h : j < l.length), hi ≤ j → lt31 l[j] x = false
theorem Place.right {l : List S31} {x : S31} {lo hi m : Nat} (h : Place l x lo hi) (hs : Sorted l) (hm : m < hi) (hm2 : m < l.length) (hlo : lo ≤ m) (hl : lt31 l[m] x = true) : Place l x (m + 1) hi :=
  ⟨hm, h.len, fun j hj h2 => lt_left hl (hs j m hj hm2 (by omega)), h.hi⟩
theorem Place.left {l : List S31} {x : S31} {lo hi m : Nat} (h : Place l x lo hi) (hs : Sorted l) (hm : m < hi) (hm2 : m < l.length) (hlo : lo ≤ m) (hl : lt31 l[m] x = false) : Place l x lo m :=
  ⟨hlo, Nat.le_of_lt hm2, h.lo, fun j hj h2 => lt_right hl (hs m j hm2 hj h2)⟩
theorem bs_nums (lo hi m : Nat) (h : lo < hi) (hb : hi < 1000000000) (hm : (lo + hi) / 2 = m) : lo ≤ m ∧ m < hi ∧ wrap64 ((lo : Int) + (hi : Int)) = (lo : Int) + (hi : Int) := by
  refine ⟨by omega, by omega, by unfold wrap64; omega⟩
theorem bs_mid (lo hi m : Nat) (h : lo < hi) (hb : hi < 1000000000) (hm : (lo + hi) / 2 = m) : wrap64 (IntKind.u64.wrap ((lo : Int) + (hi : Int)) / 2) = (m : Int) := by
  have e : IntKind.u64.wrap ((lo : Int) + (hi : Int)) = (lo : Int) + (hi : Int) := by
    unfold IntKind.wrap
    simp [IntKind.bits, IntKind.signed]
    omega
  rw [e]
  unfold wrap64
  omega
theorem Place.meas {l : List S31} {x : S31} {lo hi m : Nat} (h : lo ≤ m ∧ m < hi) : hi - (m + 1) < hi - lo ∧ m - lo < hi - lo := by omega
set_option maxHeartbeats 8000000 in
set_option maxRecDepth 100000 in
theorem bsearch_walk (x : S31) (A : Option Addr) (c : Nat) (l : List S31) (W : World) (hr : Kd.C k31 W A l.length l) (hc : l.length ≤ c) (hl : l.length < 1000000000) (hs : Sorted l) :
    Calls Tryd.prog 31 #[.slice A l.length c, .agg #[.int .i64 x.f0, .int .i64 x.f1, .int .i64 x.f2], .func (.func 32) #[] #[]] W fun e w' => (∃ (n : Nat) (b : Bool), e = .returned (.tuple #[.int .i64 n, .bool b]) ∧ Place l x n n) ∧ Below W.heap.size W w' := by
  have hu31 := Tryd.underlying31
  have hu23 := Tryd.underlying23
  have hn := blk_new W (Obj.cells #[.int .i64 x.f0, .int .i64 x.f1, .int .i64 x.f2] 31)
  have HN := Aside0.mk hn
  have HR := Aside0.mk hr
  have HL := Aside0.mk hl
  have HS := Aside0.mk hs
  have HB := Aside0.mk (below_alloc (Below.refl W.heap.size W) (Obj.cells #[.int .i64 x.f0, .int .i64 x.f1, .int .i64 x.f2] 31))
  clear hr hc hl hs hn
  go_enter Tryd.func31, Tryd.ntmps31
  go_wp2
  go_loopw [9, 10] (fun v9 v10 wr => ∃ (lo hi : Nat), v9 = .int .i64 lo ∧ v10 = .int .i64 hi ∧ Place l x lo hi ∧ Below W.heap.size W wr ∧ wr.heap[W.heap.size]? = some (.cells #[.int .i64 x.f0, .int .i64 x.f1, .int .i64 x.f2] 31 (0, 0))) (fun v9 v10 _ => (Lib.intOf v10).toNat - (Lib.intOf v9).toNat)
  case atStart => exact ⟨0, l.length, rfl, rfl, ⟨Nat.zero_le _, Nat.le_refl _, fun j _ h => absurd h (Nat.not_lt_zero _), fun j h h2 => absurd h (Nat.not_lt.2 h2)⟩, HB.out, HN.out⟩
  case round =>
    obtain ⟨lo, hi, rfl, rfl, hp, hb, hx⟩ := hrel
    have x0 := (blk_cell hx 0).trans (rfl : _ = some (Value.int .i64 x.f0))
    have x1 := (blk_cell hx 1).trans (rfl : _ = some (Value.int .i64 x.f1))
    have x2 := (blk_cell hx 2).trans (rfl : _ = some (Value.int .i64 x.f2))
    by_cases hlh : lo < hi
    · obtain ⟨m, hm⟩ : ∃ m, (lo + hi) / 2 = m := ⟨_, rfl⟩
      obtain ⟨m1, m2, m3⟩ := bs_nums lo hi m hlh (by have := HL.out; have := hp.len; omega) hm
      have hml : m < l.length := Nat.lt_of_lt_of_le m2 hp.len
      have hlt : (m : Int) < (l.length : Int) := Int.ofNat_lt.2 hml
      have hlh' : (lo : Int) < (hi : Int) := Int.ofNat_lt.2 hlh
      obtain ⟨ad, ea, c0, c1, c2⟩ := at_T31 HR.out (m : Int) (Int.natCast_nonneg m) hlt
      rw [rd31 l m hml, Int.toNat_natCast] at c0 c1 c2
      subst ea
      obtain ⟨y, hy⟩ : ∃ y, y = l[m] := ⟨_, rfl⟩
      rw [← hy] at c0 c1 c2
      replace c0 := (hb.cell (World.block_lt_of_cell? W _ c0)).trans c0
      replace c1 := (hb.cell (World.block_lt_of_cell? W _ c1)).trans c1
      replace c2 := (hb.cell (World.block_lt_of_cell? W _ c2)).trans c2
      have hor := order_c y x wr.drew
      have OL := Aside0.mk (ordV_lt y x)
      have HB1 := Aside0.mk (below_drew1 hb)
      have HX1 : Aside0 (wr.drew.heap[W.heap.size]? = _) := ⟨hx⟩
      replace c0 : wr.drew.cell? _ = _ := c0
      replace c1 : wr.drew.cell? _ = _ := c1
      replace c2 : wr.drew.cell? _ = _ := c2
      replace x0 : wr.drew.cell? _ = _ := x0
      replace x1 : wr.drew.cell? _ = _ := x1
      replace x2 : wr.drew.cell? _ = _ := x2
      have ew : (World.mk wr.heap wr.tape (wr.drawn + 1) wr.os wr.output) = wr.drew := rfl
      have EW := Aside0.mk ew
      have HP := Aside0.mk hp
      have HM := Aside0.mk (⟨m1, m2⟩ : lo ≤ m ∧ m < hi)
      have HY : Aside0 (∃ h : m < l.length, y = l[m]) := ⟨⟨hml, hy⟩⟩
      have HML := Aside0.mk hml
      have hw1 : wrap64 ((m : Int) + 1) = ((m + 1 : Nat) : Int) := wrapIn hml HL.out
      have HW1 := Aside0.mk hw1
      have hmid := bs_mid lo hi m hlh (by have := HL.out; have := hp.len; omega) hm
      clear hp m1 m2 hb hx ew hy hml hw1
      go_upto_region 5 with (fail)
      rw [hmid]
      clear hmid
      go_still_tail 6, (by kernel_rfl)
      rw [EW.out]
      generalize wr.drew = w2 at c0 c1 c2 x0 x1 x2 hor HB1 HX1 EW ⊢
      repeat still_step
      try refine wpStill_nil ?_
      clear c0 c1 c2 x0 x1 x2
      cases hlt2 : lt31 y x with
      | true =>
        have hov : ordV y x < 0 := of_decide_eq_true (OL.out.trans hlt2)
        have HLT := Aside0.mk hlt2
        clear hlt2
        go_wp2_with (go_at_call 32; refine hor.mono ?_; rintro e w3 ⟨rfl, hb3⟩; have HB3 := Aside0.mk (below_step HB1.out hb3); have HX3 := Aside0.mk (blk_below HX1.out hb3); clear hb3)
        go_roundw
        case rel =>
          obtain ⟨h, rfl⟩ := HY.out
          exact ⟨m + 1, hi, by rw [HW1.out], rfl, HP.out.right HS.out HM.out.2 h HM.out.1 HLT.out, HB3.out, HX3.out⟩
        case measure => rw [HW1.out]; exact (Place.meas (l := l) (x := x) HM.out).1
      | false =>
        have hov : ¬ (ordV y x < 0) := of_decide_eq_false (OL.out.trans hlt2)
        have HLT := Aside0.mk hlt2
        clear hlt2
        go_wp2_with (go_at_call 32; refine hor.mono ?_; rintro e w3 ⟨rfl, hb3⟩; have HB3 := Aside0.mk (below_step HB1.out hb3); have HX3 := Aside0.mk (blk_below HX1.out hb3); clear hb3)
        go_roundw
        case rel =>
          obtain ⟨h, rfl⟩ := HY.out
          exact ⟨lo, m, rfl, rfl, HP.out.left HS.out HM.out.2 h HM.out.1 HLT.out, HB3.out, HX3.out⟩
        case measure => exact (Place.meas (l := l) (x := x) HM.out).2
    · obtain rfl : lo = hi := by have := hp.le; omega
      have hlh' : ¬ ((lo : Int) < (lo : Int)) := Int.lt_irrefl _
      have HP := Aside0.mk hp
      have HB1 := Aside0.mk hb
      by_cases hin : lo < l.length
      · have hi1 : (lo : Int) < (l.length : Int) := Int.ofNat_lt.2 hin
        obtain ⟨ad, ea, c0, c1, c2⟩ := at_T31 HR.out (lo : Int) (Int.natCast_nonneg lo) hi1
        rw [rd31 l lo hin, Int.toNat_natCast] at c0 c1 c2
        subst ea
        obtain ⟨y, hy⟩ : ∃ y, y = l[lo] := ⟨_, rfl⟩
        rw [← hy] at c0 c1 c2
        replace c0 := (hb.cell (World.block_lt_of_cell? W _ c0)).trans c0
        replace c1 := (hb.cell (World.block_lt_of_cell? W _ c1)).trans c1
        replace c2 := (hb.cell (World.block_lt_of_cell? W _ c2)).trans c2
        have hor := order_c y x wr.drew
        replace c0 : wr.drew.cell? _ = _ := c0
        replace c1 : wr.drew.cell? _ = _ := c1
        replace c2 : wr.drew.cell? _ = _ := c2
        replace x0 : wr.drew.cell? _ = _ := x0
        replace x1 : wr.drew.cell? _ = _ := x1
        replace x2 : wr.drew.cell? _ = _ := x2
        have HB2 := Aside0.mk (below_drew1 hb)
        have CC := Aside0.mk (⟨c0, c1, c2, x0, x1, x2⟩ : wr.drew.cell? _ = _ ∧ wr.drew.cell? _ = _ ∧ wr.drew.cell? _ = _ ∧ wr.drew.cell? _ = _ ∧ wr.drew.cell? _ = _ ∧ wr.drew.cell? _ = _)
        clear hp hb hx hy
        go_wp2
        go_region_held3 (fun w' => w'.cell? (ad.add (lo * 3)) = some (.int .i64 y.f0) ∧ w'.cell? ⟨(ad.add (lo * 3)).block, (ad.add (lo * 3)).off + 1, none⟩ = some (.int .i64 y.f1) ∧ w'.cell? ⟨(ad.add (lo * 3)).block, (ad.add (lo * 3)).off + 2, none⟩ = some (.int .i64 y.f2) ∧ w'.cell? ⟨W.heap.size, 0, none⟩ = some (.int .i64 x.f0) ∧ w'.cell? ⟨W.heap.size, 1, none⟩ = some (.int .i64 x.f1) ∧ w'.cell? ⟨W.heap.size, 2, none⟩ = some (.int .i64 x.f2))
          (first | go_keep | exact ⟨pw_cell_below ‹Below wr.drew.heap.size wr.drew _› CC.out.1, pw_cell_below ‹Below wr.drew.heap.size wr.drew _› CC.out.2.1, pw_cell_below ‹Below wr.drew.heap.size wr.drew _› CC.out.2.2.1, pw_cell_below ‹Below wr.drew.heap.size wr.drew _› CC.out.2.2.2.1, pw_cell_below ‹Below wr.drew.heap.size wr.drew _› CC.out.2.2.2.2.1, pw_cell_below ‹Below wr.drew.heap.size wr.drew _› CC.out.2.2.2.2.2⟩)
          (first | (go_at_call 32; refine hor.mono ?_; rintro e w3 ⟨rfl, hb3⟩))
        have HB3 := Aside0.mk (below_step HB2.out hb3)
        clear hb3
        go_wp2
        go_ret2
        exact ⟨⟨lo, _, rfl, HP.out⟩, HB3.out⟩
      · have hi1 : ¬ ((lo : Int) < (l.length : Int)) := fun h => hin (Int.ofNat_lt.1 h)
        clear hp hb hx
        go_wp2_with fail
        go_quiet (fail)
        go_wp2
        go_ret2
        exact ⟨⟨lo, _, rfl, HP.out⟩, pw_below_drewN HB1.out _⟩
end Go.Proofs.YtffldajbnhbkkaaDoor.Q
