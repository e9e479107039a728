import Derived.Test.YtepahimiakgieaaDoorFindC
namespace Go.Proofs.YtepahimiakgieaaDoor.Q
open Go.RowKit Go.Proofs.YtepahimiakgieaaDoorW.PrintWords Go.Proofs.YtepahimiakgieaaDoorW.PrintMore
set_option linter.unusedVariables false
set_option linter.unusedSimpArgs false

/-! ### 22: what is found by its name -/
def uis (code : ByteArray) (x : S57) : Bool := x.f0.toList == code.toList
theorem uclo (x : S57) (code : ByteArray) (B : Nat) (w : World) (hB : B < w.heap.size) (hc : w.cell? ⟨B, 0, none⟩ = some (.string code)) :
    Calls Tryd.prog 33 #[.agg #[.string x.f0, .string x.f1.f0, .string x.f1.f1, .string x.f1.f2, .string x.f1.f3, .string x.f1.f4, .string x.f1.f5, .string x.f2.f0, .string x.f2.f1, .string x.f2.f2, .string x.f2.f3, .string x.f2.f4, .string x.f2.f5, .string x.f3], .pointer (some ⟨B, 0, none⟩)] w fun e w' => e = .returned (.bool (uis code x)) ∧ Below w.heap.size w w' := by
  have hne : B ≠ w.heap.size := by omega
  have hu := Tryd.underlying57
  unfold uis
  go_enter Tryd.func33, Tryd.ntmps33
  go_wp2
  go_ret
  exact ⟨rfl, below_alloc (Below.refl _ _) _⟩
def uno (code : ByteArray) (l : List S57) (m : Nat) : Prop := ∀ j (h : j < l.length), j < m → uis code l[j] = false
theorem ufirst {code : ByteArray} {l : List S57} {m : Nat} (h : m < l.length) (hn : uno code l m) (hy : uis code l[m] = true) : l.findIdx (uis code) = m :=
  (List.findIdx_eq h).2 ⟨hy, fun j hj => hn j (by omega) hj⟩
theorem unone {code : ByteArray} {l : List S57} (hn : uno code l l.length) : l.findIdx (uis code) = l.length := by
  rw [List.findIdx_eq_length]
  intro x hx
  obtain ⟨j, hj, rfl⟩ := List.getElem_of_mem hx
  exact hn j hj hj
theorem urd (l : List S57) (m : Nat) (h : m < l.length) : rd_T57 l (m : Int) = l[m] := by
  unfold rd_T57; rw [Int.toNat_natCast, List.getD_eq_getElem?_getD, List.getElem?_eq_getElem h]; rfl
def uat (code : ByteArray) (l : List S57) : Int := if l.findIdx (uis code) < l.length then (l.findIdx (uis code) : Int) else -1
set_option maxHeartbeats 2000000 in
set_option maxRecDepth 100000 in
theorem uidx (A : Option Addr) (c : Nat) (l : List S57) (code : ByteArray) (B : Nat) (w : World) (hr : Kd.C k57 w A l.length l) (hB : B < w.heap.size) (hc : w.cell? ⟨B, 0, none⟩ = some (.string code)) :
    Calls Tryd.prog 43 #[.slice A l.length c, .func (.func 33) #[] #[.pointer (some ⟨B, 0, none⟩)]] w fun e w' => e = .returned (.int .i64 (uat code l)) ∧ Below w.heap.size w w' := by
  have HR := Aside0.mk hr
  have hm := Kd.C_max hr
  have HC := Aside0.mk hc
  have HB0 := Aside0.mk hB
  have hu := Tryd.underlying57
  clear hr hc hB
  go_enter Tryd.func43, Tryd.ntmps43
  go_wp2_with fail
  go_loopw [8] (fun v8 wr => ∃ m : Nat, m ≤ l.length ∧ v8 = .int .i64 (m : Int) ∧ Aside0 (uno code l m) ∧ Aside0 (Below w.heap.size w wr)) (fun v8 _ => l.length - (intOf v8).toNat)
  case atStart => exact ⟨0, Nat.zero_le _, rfl, ⟨fun j h hj => absurd hj (by omega)⟩, ⟨Below.refl _ _⟩⟩
  case round =>
    obtain ⟨m, hmm, rfl, HN, HB⟩ := hrel
    by_cases hlt : m < l.length
    · obtain ⟨ad, rfl, hx0, hx1, hx2, hx3, hx4, hx5, hx6, hx7, hx8, hx9, hx10, hx11, hx12, hx13⟩ := at_T57 HR.out (m : Int) (by omega) (by omega)
      rw [urd l m hlt, Int.toNat_natCast] at hx0 hx1 hx2 hx3 hx4 hx5 hx6 hx7 hx8 hx9 hx10 hx11 hx12 hx13
      replace hx0 := (HB.out.cell (World.block_lt_of_cell? w _ hx0)).trans hx0
      replace hx1 := (HB.out.cell (World.block_lt_of_cell? w _ hx1)).trans hx1
      replace hx2 := (HB.out.cell (World.block_lt_of_cell? w _ hx2)).trans hx2
      replace hx3 := (HB.out.cell (World.block_lt_of_cell? w _ hx3)).trans hx3
      replace hx4 := (HB.out.cell (World.block_lt_of_cell? w _ hx4)).trans hx4
      replace hx5 := (HB.out.cell (World.block_lt_of_cell? w _ hx5)).trans hx5
      replace hx6 := (HB.out.cell (World.block_lt_of_cell? w _ hx6)).trans hx6
      replace hx7 := (HB.out.cell (World.block_lt_of_cell? w _ hx7)).trans hx7
      replace hx8 := (HB.out.cell (World.block_lt_of_cell? w _ hx8)).trans hx8
      replace hx9 := (HB.out.cell (World.block_lt_of_cell? w _ hx9)).trans hx9
      replace hx10 := (HB.out.cell (World.block_lt_of_cell? w _ hx10)).trans hx10
      replace hx11 := (HB.out.cell (World.block_lt_of_cell? w _ hx11)).trans hx11
      replace hx12 := (HB.out.cell (World.block_lt_of_cell? w _ hx12)).trans hx12
      replace hx13 := (HB.out.cell (World.block_lt_of_cell? w _ hx13)).trans hx13
      have HXE : Aside0 (∀ x, l[m] = x → (uis code x = true → uat code l = (m : Int)) ∧ (uis code x = false → uno code l (m + 1))) := ⟨by
        rintro x rfl
        refine ⟨fun hy => ?_, fun hn j h hj => ?_⟩
        · unfold uat
          rw [ufirst hlt HN.out hy, if_pos hlt]
        · rcases Nat.lt_or_ge j m with h1 | h1
          · exact HN.out j h h1
          · obtain rfl : j = m := by omega
            exact hn⟩
      have hBr : B < wr.heap.size := Nat.lt_of_lt_of_le HB0.out HB.out.size
      have hcr : wr.cell? ⟨B, 0, none⟩ = some (.string code) := (HB.out.cell (p := ⟨B, 0, none⟩) HB0.out).trans HC.out
      obtain ⟨x, hx⟩ : ∃ x, l[m] = x := ⟨_, rfl⟩
      rw [hx] at hx0 hx1 hx2 hx3 hx4 hx5 hx6 hx7 hx8 hx9 hx10 hx11 hx12 hx13
      obtain ⟨E1, E2⟩ := HXE.out x hx
      have EE1 := Aside0.mk E1
      have EE2 := Aside0.mk E2
      clear hx E1 E2 HXE
      go_wp2_with fail
      refine (uclo x code B wr hBr hcr).mono ?_
      rintro e w1 ⟨rfl, hb1⟩
      have HB1 := Aside0.mk (below_step HB.out hb1)
      clear hb1 hx0 hx1 hx2 hx3 hx4 hx5 hx6 hx7 hx8 hx9 hx10 hx11 hx12 hx13 hBr hcr
      cases hy : uis code x with
      | true =>
        have E := Aside0.mk (EE1.out hy)
        clear EE1 EE2 hy
        go_wp2
        go_ret
        exact ⟨by rw [E.out]; rfl, HB1.out⟩
      | false =>
        have E := Aside0.mk (EE2.out hy)
        clear EE1 EE2 hy
        go_wp2
        go_roundw
        case rel => exact ⟨m + 1, hlt, by go_num, E, HB1⟩
        case measure => simp [intOf]; omega
    · have hge : l.length ≤ m := Nat.le_of_not_lt hlt
      have E : Aside0 (uat code l = -1) := ⟨by
        obtain rfl : m = l.length := by omega
        unfold uat
        rw [unone HN.out, if_neg (Nat.lt_irrefl _)]⟩
      clear hlt
      go_wp2
      go_ret
      exact ⟨by rw [E.out]; rfl, HB.out⟩
def upick (code : ByteArray) (l : List S57) : S57 := l.getD (l.findIdx (uis code)) z57
def uerr (code : ByteArray) (l : List S57) (no : Int) : Int := if l.findIdx (uis code) < l.length then 0 else no
theorem uput {W : World} {g : Nat} {x0 x1 x2 x3 x4 x5 x6 x7 x8 x9 x10 x11 x12 x13 : Value} (h : W.heap[g]? = some (.cells #[x0, x1, x2, x3, x4, x5, x6, x7, x8, x9, x10, x11, x12, x13] 57 (0, 0))) (y0 y1 y2 y3 y4 y5 y6 y7 y8 y9 y10 y11 y12 y13 : Value) :
    ((((((((((((((W.setCell ⟨g, 0, none⟩ y0).setCell ⟨g, 1, none⟩ y1).setCell ⟨g, 2, none⟩ y2).setCell ⟨g, 3, none⟩ y3).setCell ⟨g, 4, none⟩ y4).setCell ⟨g, 5, none⟩ y5).setCell ⟨g, 6, none⟩ y6).setCell ⟨g, 7, none⟩ y7).setCell ⟨g, 8, none⟩ y8).setCell ⟨g, 9, none⟩ y9).setCell ⟨g, 10, none⟩ y10).setCell ⟨g, 11, none⟩ y11).setCell ⟨g, 12, none⟩ y12).setCell ⟨g, 13, none⟩ y13).heap[g]? = some (.cells #[y0, y1, y2, y3, y4, y5, y6, y7, y8, y9, y10, y11, y12, y13] 57 (0, 0)) :=
  by
  have h0 := blk_put (cs' := #[y0, x1, x2, x3, x4, x5, x6, x7, x8, x9, x10, x11, x12, x13]) h 0 y0 rfl
  have h1 := blk_put (cs' := #[y0, y1, x2, x3, x4, x5, x6, x7, x8, x9, x10, x11, x12, x13]) h0 1 y1 rfl
  have h2 := blk_put (cs' := #[y0, y1, y2, x3, x4, x5, x6, x7, x8, x9, x10, x11, x12, x13]) h1 2 y2 rfl
  have h3 := blk_put (cs' := #[y0, y1, y2, y3, x4, x5, x6, x7, x8, x9, x10, x11, x12, x13]) h2 3 y3 rfl
  have h4 := blk_put (cs' := #[y0, y1, y2, y3, y4, x5, x6, x7, x8, x9, x10, x11, x12, x13]) h3 4 y4 rfl
  have h5 := blk_put (cs' := #[y0, y1, y2, y3, y4, y5, x6, x7, x8, x9, x10, x11, x12, x13]) h4 5 y5 rfl
  have h6 := blk_put (cs' := #[y0, y1, y2, y3, y4, y5, y6, x7, x8, x9, x10, x11, x12, x13]) h5 6 y6 rfl
  have h7 := blk_put (cs' := #[y0, y1, y2, y3, y4, y5, y6, y7, x8, x9, x10, x11, x12, x13]) h6 7 y7 rfl
  have h8 := blk_put (cs' := #[y0, y1, y2, y3, y4, y5, y6, y7, y8, x9, x10, x11, x12, x13]) h7 8 y8 rfl
  have h9 := blk_put (cs' := #[y0, y1, y2, y3, y4, y5, y6, y7, y8, y9, x10, x11, x12, x13]) h8 9 y9 rfl
  have h10 := blk_put (cs' := #[y0, y1, y2, y3, y4, y5, y6, y7, y8, y9, y10, x11, x12, x13]) h9 10 y10 rfl
  have h11 := blk_put (cs' := #[y0, y1, y2, y3, y4, y5, y6, y7, y8, y9, y10, y11, x12, x13]) h10 11 y11 rfl
  have h12 := blk_put (cs' := #[y0, y1, y2, y3, y4, y5, y6, y7, y8, y9, y10, y11, y12, x13]) h11 12 y12 rfl
  have h13 := blk_put (cs' := #[y0, y1, y2, y3, y4, y5, y6, y7, y8, y9, y10, y11, y12, y13]) h12 13 y13 rfl
  exact h13
theorem uset {w W : World} {g : Nat} {y0 y1 y2 y3 y4 y5 y6 y7 y8 y9 y10 y11 y12 y13 : Value} (hg : w.heap.size ≤ g) (h : Below w.heap.size w W) : Below w.heap.size w ((((((((((((((W.setCell ⟨g, 0, none⟩ y0).setCell ⟨g, 1, none⟩ y1).setCell ⟨g, 2, none⟩ y2).setCell ⟨g, 3, none⟩ y3).setCell ⟨g, 4, none⟩ y4).setCell ⟨g, 5, none⟩ y5).setCell ⟨g, 6, none⟩ y6).setCell ⟨g, 7, none⟩ y7).setCell ⟨g, 8, none⟩ y8).setCell ⟨g, 9, none⟩ y9).setCell ⟨g, 10, none⟩ y10).setCell ⟨g, 11, none⟩ y11).setCell ⟨g, 12, none⟩ y12).setCell ⟨g, 13, none⟩ y13) :=
  below_set (below_set (below_set (below_set (below_set (below_set (below_set (below_set (below_set (below_set (below_set (below_set (below_set (below_set (h) hg) hg) hg) hg) hg) hg) hg) hg) hg) hg) hg) hg) hg) hg
set_option maxHeartbeats 4000000 in
set_option maxRecDepth 100000 in
theorem ufnd (A : Option Addr) (c : Nat) (l : List S57) (code : ByteArray) (no : Int) (B : Nat) (w : World) (hr : Kd.C k57 w A l.length l) (hcl : l.length ≤ c) (hB : B < w.heap.size) (hc : w.cell? ⟨B, 0, none⟩ = some (.string code)) :
    Calls Tryd.prog 32 #[.slice A l.length c, .int .i64 no, .func (.func 33) #[] #[.pointer (some ⟨B, 0, none⟩)]] w fun e w' => e = .returned (.tuple #[.agg #[.string (upick code l).f0, .string (upick code l).f1.f0, .string (upick code l).f1.f1, .string (upick code l).f1.f2, .string (upick code l).f1.f3, .string (upick code l).f1.f4, .string (upick code l).f1.f5, .string (upick code l).f2.f0, .string (upick code l).f2.f1, .string (upick code l).f2.f2, .string (upick code l).f2.f3, .string (upick code l).f2.f4, .string (upick code l).f2.f5, .string (upick code l).f3], .int .i64 (uerr code l no)]) ∧ Below w.heap.size w w' := by
  have HR := Aside0.mk hr
  have HC := Aside0.mk hc
  have HB0 := Aside0.mk hB
  have hu := Tryd.underlying57
  clear hr hc hB
  go_enter Tryd.func32, Tryd.ntmps32
  go_wp2_with fail
  have hB2 : B < w.heap.size + 1 + 1 := by have := HB0.out; omega
  refine (uidx A c l code B _ (Kd.C_alloc (Kd.C_alloc HR.out _) _) (by simpa using hB2) (cell_2 _ _ HB0.out HC.out)).mono ?_
  rintro e w1 ⟨rfl, hb⟩
  have G0 : Aside0 (w1.heap[w.heap.size]? = some (.cells #[.string ⟨#[]⟩, .string ⟨#[]⟩, .string ⟨#[]⟩, .string ⟨#[]⟩, .string ⟨#[]⟩, .string ⟨#[]⟩, .string ⟨#[]⟩, .string ⟨#[]⟩, .string ⟨#[]⟩, .string ⟨#[]⟩, .string ⟨#[]⟩, .string ⟨#[]⟩, .string ⟨#[]⟩, .string ⟨#[]⟩] 57 (0, 0))) := ⟨blk_below (blk_alloc (blk_new _ _) _) hb⟩
  have G1 : Aside0 (w1.heap[w.heap.size + 1]? = some (.cells #[.string ⟨#[]⟩, .string ⟨#[]⟩, .string ⟨#[]⟩, .string ⟨#[]⟩, .string ⟨#[]⟩, .string ⟨#[]⟩, .string ⟨#[]⟩, .string ⟨#[]⟩, .string ⟨#[]⟩, .string ⟨#[]⟩, .string ⟨#[]⟩, .string ⟨#[]⟩, .string ⟨#[]⟩, .string ⟨#[]⟩] 57 (0, 0))) := ⟨blk_below (by have := blk_new (w.alloc (.cells #[.string ⟨#[]⟩, .string ⟨#[]⟩, .string ⟨#[]⟩, .string ⟨#[]⟩, .string ⟨#[]⟩, .string ⟨#[]⟩, .string ⟨#[]⟩, .string ⟨#[]⟩, .string ⟨#[]⟩, .string ⟨#[]⟩, .string ⟨#[]⟩, .string ⟨#[]⟩, .string ⟨#[]⟩, .string ⟨#[]⟩] 57)) (.cells #[.string ⟨#[]⟩, .string ⟨#[]⟩, .string ⟨#[]⟩, .string ⟨#[]⟩, .string ⟨#[]⟩, .string ⟨#[]⟩, .string ⟨#[]⟩, .string ⟨#[]⟩, .string ⟨#[]⟩, .string ⟨#[]⟩, .string ⟨#[]⟩, .string ⟨#[]⟩, .string ⟨#[]⟩, .string ⟨#[]⟩] 57); simpa using this) hb⟩
  have HB := Aside0.mk (below_step (below_alloc (below_alloc (Below.refl _ _) _) _) hb)
  clear hb hB2
  have l1 : w.heap.size + 1 < w1.heap.size := blk_lt G1.out
  by_cases hf : l.findIdx (uis code) < l.length
  · have EA : Aside0 (uat code l = (l.findIdx (uis code) : Int)) := ⟨if_pos hf⟩
    have EE : Aside0 (uerr code l no = 0) := ⟨if_pos hf⟩
    obtain ⟨ad, rfl, hx0, hx1, hx2, hx3, hx4, hx5, hx6, hx7, hx8, hx9, hx10, hx11, hx12, hx13⟩ := at_T57 HR.out ((l.findIdx (uis code) : Nat) : Int) (by omega) (by omega)
    have EP : Aside0 (upick code l = l[l.findIdx (uis code)]) := ⟨by unfold upick; rw [List.getD_eq_getElem?_getD, List.getElem?_eq_getElem hf]; rfl⟩
    obtain ⟨x, hx⟩ : ∃ x, upick code l = x := ⟨_, rfl⟩
    rw [urd l _ hf, ← EP.out, hx, Int.toNat_natCast] at hx0 hx1 hx2 hx3 hx4 hx5 hx6 hx7 hx8 hx9 hx10 hx11 hx12 hx13
    replace hx0 := (HB.out.cell (World.block_lt_of_cell? w _ hx0)).trans hx0
    replace hx1 := (HB.out.cell (World.block_lt_of_cell? w _ hx1)).trans hx1
    replace hx2 := (HB.out.cell (World.block_lt_of_cell? w _ hx2)).trans hx2
    replace hx3 := (HB.out.cell (World.block_lt_of_cell? w _ hx3)).trans hx3
    replace hx4 := (HB.out.cell (World.block_lt_of_cell? w _ hx4)).trans hx4
    replace hx5 := (HB.out.cell (World.block_lt_of_cell? w _ hx5)).trans hx5
    replace hx6 := (HB.out.cell (World.block_lt_of_cell? w _ hx6)).trans hx6
    replace hx7 := (HB.out.cell (World.block_lt_of_cell? w _ hx7)).trans hx7
    replace hx8 := (HB.out.cell (World.block_lt_of_cell? w _ hx8)).trans hx8
    replace hx9 := (HB.out.cell (World.block_lt_of_cell? w _ hx9)).trans hx9
    replace hx10 := (HB.out.cell (World.block_lt_of_cell? w _ hx10)).trans hx10
    replace hx11 := (HB.out.cell (World.block_lt_of_cell? w _ hx11)).trans hx11
    replace hx12 := (HB.out.cell (World.block_lt_of_cell? w _ hx12)).trans hx12
    replace hx13 := (HB.out.cell (World.block_lt_of_cell? w _ hx13)).trans hx13
    clear EP
    have HX := Aside0.mk hx
    clear hx
    rw [EA.out]
    have hm := Kd.C_max HR.out
    obtain ⟨m, hmm⟩ : ∃ m, l.findIdx (uis code) = m := ⟨_, rfl⟩
    rw [hmm] at hf hx0 hx1 hx2 hx3 hx4 hx5 hx6 hx7 hx8 hx9 hx10 hx11 hx12 hx13 ⊢
    clear EA hmm
    have y0 : w1.cell? ⟨w.heap.size, 0, none⟩ = some (.string ⟨#[]⟩) := (blk_cell G0.out 0).trans rfl
    have f0 := blk_frozen G0.out 0
    have y1 : w1.cell? ⟨w.heap.size, 1, none⟩ = some (.string ⟨#[]⟩) := (blk_cell G0.out 1).trans rfl
    have f1 := blk_frozen G0.out 1
    have y2 : w1.cell? ⟨w.heap.size, 2, none⟩ = some (.string ⟨#[]⟩) := (blk_cell G0.out 2).trans rfl
    have f2 := blk_frozen G0.out 2
    have y3 : w1.cell? ⟨w.heap.size, 3, none⟩ = some (.string ⟨#[]⟩) := (blk_cell G0.out 3).trans rfl
    have f3 := blk_frozen G0.out 3
    have y4 : w1.cell? ⟨w.heap.size, 4, none⟩ = some (.string ⟨#[]⟩) := (blk_cell G0.out 4).trans rfl
    have f4 := blk_frozen G0.out 4
    have y5 : w1.cell? ⟨w.heap.size, 5, none⟩ = some (.string ⟨#[]⟩) := (blk_cell G0.out 5).trans rfl
    have f5 := blk_frozen G0.out 5
    have y6 : w1.cell? ⟨w.heap.size, 6, none⟩ = some (.string ⟨#[]⟩) := (blk_cell G0.out 6).trans rfl
    have f6 := blk_frozen G0.out 6
    have y7 : w1.cell? ⟨w.heap.size, 7, none⟩ = some (.string ⟨#[]⟩) := (blk_cell G0.out 7).trans rfl
    have f7 := blk_frozen G0.out 7
    have y8 : w1.cell? ⟨w.heap.size, 8, none⟩ = some (.string ⟨#[]⟩) := (blk_cell G0.out 8).trans rfl
    have f8 := blk_frozen G0.out 8
    have y9 : w1.cell? ⟨w.heap.size, 9, none⟩ = some (.string ⟨#[]⟩) := (blk_cell G0.out 9).trans rfl
    have f9 := blk_frozen G0.out 9
    have y10 : w1.cell? ⟨w.heap.size, 10, none⟩ = some (.string ⟨#[]⟩) := (blk_cell G0.out 10).trans rfl
    have f10 := blk_frozen G0.out 10
    have y11 : w1.cell? ⟨w.heap.size, 11, none⟩ = some (.string ⟨#[]⟩) := (blk_cell G0.out 11).trans rfl
    have f11 := blk_frozen G0.out 11
    have y12 : w1.cell? ⟨w.heap.size, 12, none⟩ = some (.string ⟨#[]⟩) := (blk_cell G0.out 12).trans rfl
    have f12 := blk_frozen G0.out 12
    have y13 : w1.cell? ⟨w.heap.size, 13, none⟩ = some (.string ⟨#[]⟩) := (blk_cell G0.out 13).trans rfl
    have f13 := blk_frozen G0.out 13
    go_wp2
    refine bodyPost_ret (results_ct rfl _ _ w.heap.size 57 #[.string x.f0, .string x.f1.f0, .string x.f1.f1, .string x.f1.f2, .string x.f1.f3, .string x.f1.f4, .string x.f1.f5, .string x.f2.f0, .string x.f2.f1, .string x.f2.f2, .string x.f2.f3, .string x.f2.f4, .string x.f2.f5, .string x.f3] (0, 0) _ rfl (uput G0.out (.string x.f0) (.string x.f1.f0) (.string x.f1.f1) (.string x.f1.f2) (.string x.f1.f3) (.string x.f1.f4) (.string x.f1.f5) (.string x.f2.f0) (.string x.f2.f1) (.string x.f2.f2) (.string x.f2.f3) (.string x.f2.f4) (.string x.f2.f5) (.string x.f3)) Tryd.underlying57 rfl (by kernel_rfl)) rfl ?_
    refine ⟨?_, ?_⟩
    · rw [HX.out, EE.out]; rfl
    · exact uset (Nat.le_refl _) HB.out
  · have EA : Aside0 (uat code l = -1) := ⟨if_neg hf⟩
    have EE : Aside0 (uerr code l no = no) := ⟨if_neg hf⟩
    have EP : Aside0 (upick code l = z57) := ⟨by unfold upick; rw [List.getD_eq_getElem?_getD, List.getElem?_eq_none (Nat.le_of_not_lt hf)]; rfl⟩
    rw [EA.out]
    clear EA hf
    have z0 : w1.cell? ⟨w.heap.size + 1, 0, none⟩ = some (.string ⟨#[]⟩) := (blk_cell G1.out 0).trans rfl
    have z1 : w1.cell? ⟨w.heap.size + 1, 1, none⟩ = some (.string ⟨#[]⟩) := (blk_cell G1.out 1).trans rfl
    have z2 : w1.cell? ⟨w.heap.size + 1, 2, none⟩ = some (.string ⟨#[]⟩) := (blk_cell G1.out 2).trans rfl
    have z3 : w1.cell? ⟨w.heap.size + 1, 3, none⟩ = some (.string ⟨#[]⟩) := (blk_cell G1.out 3).trans rfl
    have z4 : w1.cell? ⟨w.heap.size + 1, 4, none⟩ = some (.string ⟨#[]⟩) := (blk_cell G1.out 4).trans rfl
    have z5 : w1.cell? ⟨w.heap.size + 1, 5, none⟩ = some (.string ⟨#[]⟩) := (blk_cell G1.out 5).trans rfl
    have z6 : w1.cell? ⟨w.heap.size + 1, 6, none⟩ = some (.string ⟨#[]⟩) := (blk_cell G1.out 6).trans rfl
    have z7 : w1.cell? ⟨w.heap.size + 1, 7, none⟩ = some (.string ⟨#[]⟩) := (blk_cell G1.out 7).trans rfl
    have z8 : w1.cell? ⟨w.heap.size + 1, 8, none⟩ = some (.string ⟨#[]⟩) := (blk_cell G1.out 8).trans rfl
    have z9 : w1.cell? ⟨w.heap.size + 1, 9, none⟩ = some (.string ⟨#[]⟩) := (blk_cell G1.out 9).trans rfl
    have z10 : w1.cell? ⟨w.heap.size + 1, 10, none⟩ = some (.string ⟨#[]⟩) := (blk_cell G1.out 10).trans rfl
    have z11 : w1.cell? ⟨w.heap.size + 1, 11, none⟩ = some (.string ⟨#[]⟩) := (blk_cell G1.out 11).trans rfl
    have z12 : w1.cell? ⟨w.heap.size + 1, 12, none⟩ = some (.string ⟨#[]⟩) := (blk_cell G1.out 12).trans rfl
    have z13 : w1.cell? ⟨w.heap.size + 1, 13, none⟩ = some (.string ⟨#[]⟩) := (blk_cell G1.out 13).trans rfl
    have y0 : w1.cell? ⟨w.heap.size, 0, none⟩ = some (.string ⟨#[]⟩) := (blk_cell G0.out 0).trans rfl
    have f0 := blk_frozen G0.out 0
    have y1 : w1.cell? ⟨w.heap.size, 1, none⟩ = some (.string ⟨#[]⟩) := (blk_cell G0.out 1).trans rfl
    have f1 := blk_frozen G0.out 1
    have y2 : w1.cell? ⟨w.heap.size, 2, none⟩ = some (.string ⟨#[]⟩) := (blk_cell G0.out 2).trans rfl
    have f2 := blk_frozen G0.out 2
    have y3 : w1.cell? ⟨w.heap.size, 3, none⟩ = some (.string ⟨#[]⟩) := (blk_cell G0.out 3).trans rfl
    have f3 := blk_frozen G0.out 3
    have y4 : w1.cell? ⟨w.heap.size, 4, none⟩ = some (.string ⟨#[]⟩) := (blk_cell G0.out 4).trans rfl
    have f4 := blk_frozen G0.out 4
    have y5 : w1.cell? ⟨w.heap.size, 5, none⟩ = some (.string ⟨#[]⟩) := (blk_cell G0.out 5).trans rfl
    have f5 := blk_frozen G0.out 5
    have y6 : w1.cell? ⟨w.heap.size, 6, none⟩ = some (.string ⟨#[]⟩) := (blk_cell G0.out 6).trans rfl
    have f6 := blk_frozen G0.out 6
    have y7 : w1.cell? ⟨w.heap.size, 7, none⟩ = some (.string ⟨#[]⟩) := (blk_cell G0.out 7).trans rfl
    have f7 := blk_frozen G0.out 7
    have y8 : w1.cell? ⟨w.heap.size, 8, none⟩ = some (.string ⟨#[]⟩) := (blk_cell G0.out 8).trans rfl
    have f8 := blk_frozen G0.out 8
    have y9 : w1.cell? ⟨w.heap.size, 9, none⟩ = some (.string ⟨#[]⟩) := (blk_cell G0.out 9).trans rfl
    have f9 := blk_frozen G0.out 9
    have y10 : w1.cell? ⟨w.heap.size, 10, none⟩ = some (.string ⟨#[]⟩) := (blk_cell G0.out 10).trans rfl
    have f10 := blk_frozen G0.out 10
    have y11 : w1.cell? ⟨w.heap.size, 11, none⟩ = some (.string ⟨#[]⟩) := (blk_cell G0.out 11).trans rfl
    have f11 := blk_frozen G0.out 11
    have y12 : w1.cell? ⟨w.heap.size, 12, none⟩ = some (.string ⟨#[]⟩) := (blk_cell G0.out 12).trans rfl
    have f12 := blk_frozen G0.out 12
    have y13 : w1.cell? ⟨w.heap.size, 13, none⟩ = some (.string ⟨#[]⟩) := (blk_cell G0.out 13).trans rfl
    have f13 := blk_frozen G0.out 13
    go_wp2
    refine bodyPost_ret (results_ct rfl _ _ w.heap.size 57 #[.string ⟨#[]⟩, .string ⟨#[]⟩, .string ⟨#[]⟩, .string ⟨#[]⟩, .string ⟨#[]⟩, .string ⟨#[]⟩, .string ⟨#[]⟩, .string ⟨#[]⟩, .string ⟨#[]⟩, .string ⟨#[]⟩, .string ⟨#[]⟩, .string ⟨#[]⟩, .string ⟨#[]⟩, .string ⟨#[]⟩] (0, 0) _ rfl (uput G0.out (.string ⟨#[]⟩) (.string ⟨#[]⟩) (.string ⟨#[]⟩) (.string ⟨#[]⟩) (.string ⟨#[]⟩) (.string ⟨#[]⟩) (.string ⟨#[]⟩) (.string ⟨#[]⟩) (.string ⟨#[]⟩) (.string ⟨#[]⟩) (.string ⟨#[]⟩) (.string ⟨#[]⟩) (.string ⟨#[]⟩) (.string ⟨#[]⟩)) Tryd.underlying57 rfl (by kernel_rfl)) rfl ?_
    refine ⟨?_, ?_⟩
    · rw [EP.out, EE.out]; rfl
    · exact uset (Nat.le_refl _) HB.out
def money_Unit.f (a0_0 : ByteArray) (a0_1 : ByteArray) (a0_2 : ByteArray) (a0_3 : ByteArray) (a0_4 : ByteArray) (a0_5 : ByteArray) (a0_6 : ByteArray) (a0_7 : ByteArray) (a0_8 : ByteArray) (a0_9 : ByteArray) (a0_10 : ByteArray) (a0_11 : ByteArray) (a0_12 : ByteArray) (a0_13 : ByteArray) (a0_14 : ByteArray) (a0_15 : ByteArray) (a0_16 : ByteArray) (a0_17 : ByteArray) (a0_18 : ByteArray) (a0_19 : ByteArray) (a0_20 : ByteArray) (a0_21 : ByteArray) (a0_22 : Int) (a0_23 : ByteArray) (a0_24 : ByteArray) (a0_25 : ByteArray) (a0_26 : ByteArray) (a0_27 : ByteArray) (a0_28 : ByteArray) (a0_29 : ByteArray) (l0_30 : List (S129)) (l0_31 : List (S129)) (l0_32 : List (S24)) (l0_33 : List (S57)) (a0_34 : ByteArray) (a1 : ByteArray) : Option (ByteArray × ByteArray × ByteArray × ByteArray × ByteArray × ByteArray × ByteArray × ByteArray × ByteArray × ByteArray × ByteArray × ByteArray × ByteArray × ByteArray × Int) := some ((upick a1 l0_33).f0, (upick a1 l0_33).f1.f0, (upick a1 l0_33).f1.f1, (upick a1 l0_33).f1.f2, (upick a1 l0_33).f1.f3, (upick a1 l0_33).f1.f4, (upick a1 l0_33).f1.f5, (upick a1 l0_33).f2.f0, (upick a1 l0_33).f2.f1, (upick a1 l0_33).f2.f2, (upick a1 l0_33).f2.f3, (upick a1 l0_33).f2.f4, (upick a1 l0_33).f2.f5, (upick a1 l0_33).f3, uerr a1 l0_33 201)
set_option maxHeartbeats 4000000 in
set_option maxRecDepth 100000 in
theorem money_Unit.calls (a0_0 : ByteArray) (a0_1 : ByteArray) (a0_2 : ByteArray) (a0_3 : ByteArray) (a0_4 : ByteArray) (a0_5 : ByteArray) (a0_6 : ByteArray) (a0_7 : ByteArray) (a0_8 : ByteArray) (a0_9 : ByteArray) (a0_10 : ByteArray) (a0_11 : ByteArray) (a0_12 : ByteArray) (a0_13 : ByteArray) (a0_14 : ByteArray) (a0_15 : ByteArray) (a0_16 : ByteArray) (a0_17 : ByteArray) (a0_18 : ByteArray) (a0_19 : ByteArray) (a0_20 : ByteArray) (a0_21 : ByteArray) (a0_22 : Int) (a0_23 : ByteArray) (a0_24 : ByteArray) (a0_25 : ByteArray) (a0_26 : ByteArray) (a0_27 : ByteArray) (a0_28 : ByteArray) (a0_29 : ByteArray) (A0_30 : Option Addr) (c0_30 : Nat) (l0_30 : List (S129)) (A0_31 : Option Addr) (c0_31 : Nat) (l0_31 : List (S129)) (A0_32 : Option Addr) (c0_32 : Nat) (l0_32 : List (S24)) (A0_33 : Option Addr) (c0_33 : Nat) (l0_33 : List (S57)) (a0_34 : ByteArray) (a1 : ByteArray) (r1 : ByteArray) (r2 : ByteArray) (r3 : ByteArray) (r4 : ByteArray) (r5 : ByteArray) (r6 : ByteArray) (r7 : ByteArray) (r8 : ByteArray) (r9 : ByteArray) (r10 : ByteArray) (r11 : ByteArray) (r12 : ByteArray) (r13 : ByteArray) (r14 : ByteArray) (r15 : Int) (w : World) (hr0_30 : Kd.C k129 w A0_30 l0_30.length l0_30) (hc0_30 : l0_30.length ≤ c0_30) (hr0_31 : Kd.C k129 w A0_31 l0_31.length l0_31) (hc0_31 : l0_31.length ≤ c0_31) (hr0_32 : Kd.C k24 w A0_32 l0_32.length l0_32) (hc0_32 : l0_32.length ≤ c0_32) (hr0_33 : Kd.C k57 w A0_33 l0_33.length l0_33) (hc0_33 : l0_33.length ≤ c0_33) (h : money_Unit.f a0_0 a0_1 a0_2 a0_3 a0_4 a0_5 a0_6 a0_7 a0_8 a0_9 a0_10 a0_11 a0_12 a0_13 a0_14 a0_15 a0_16 a0_17 a0_18 a0_19 a0_20 a0_21 a0_22 a0_23 a0_24 a0_25 a0_26 a0_27 a0_28 a0_29 l0_30 l0_31 l0_32 l0_33 a0_34 a1 = some (r1, r2, r3, r4, r5, r6, r7, r8, r9, r10, r11, r12, r13, r14, r15)) :
    Calls Tryd.prog 22 #[.agg #[.string a0_0, .string a0_1, .string a0_2, .string a0_3, .string a0_4, .string a0_5, .string a0_6, .string a0_7, .string a0_8, .string a0_9, .string a0_10, .string a0_11, .string a0_12, .string a0_13, .string a0_14, .string a0_15, .string a0_16, .string a0_17, .string a0_18, .string a0_19, .string a0_20, .string a0_21, .int .i64 a0_22, .string a0_23, .string a0_24, .string a0_25, .string a0_26, .string a0_27, .string a0_28, .string a0_29, .slice A0_30 l0_30.length c0_30, .slice A0_31 l0_31.length c0_31, .slice A0_32 l0_32.length c0_32, .slice A0_33 l0_33.length c0_33, .string a0_34], .string a1] w fun e w' => e = .returned (.tuple #[.agg #[.string r1, .string r2, .string r3, .string r4, .string r5, .string r6, .string r7, .string r8, .string r9, .string r10, .string r11, .string r12, .string r13, .string r14], .int .i64 r15]) ∧ Below w.heap.size w w' := by
  simp only [money_Unit.f, Option.some.injEq, Prod.mk.injEq] at h
  obtain ⟨rfl, rfl, rfl, rfl, rfl, rfl, rfl, rfl, rfl, rfl, rfl, rfl, rfl, rfl, rfl⟩ := h
  have hu := Tryd.underlying57
  have hu52 := Tryd.underlying52
  have hmf : ∀ (fn : Fn) (first cap : Array Value) (w : World), (Instr.makeFunc fn first cap).run Tryd.prog w = .ok (.func fn first cap) w := fun _ _ _ _ => rfl
  have HR := Aside0.mk hr0_33
  have HL := Aside0.mk hc0_33
  clear hr0_30 hc0_30 hr0_31 hc0_31 hr0_32 hc0_32 hr0_33 hc0_33
  go_enter Tryd.func22, Tryd.ntmps22
  go_wp2_with fail
  refine (ufnd A0_33 c0_33 l0_33 a1 201 (w.heap.size + 1) _ (Kd.C_alloc (Kd.C_alloc (Kd.C_alloc HR.out _) _) _) HL.out (by simp) ((blk_cell (blk_alloc (by have := blk_new (w.alloc (.cells #[.string a0_0, .string a0_1, .string a0_2, .string a0_3, .string a0_4, .string a0_5, .string a0_6, .string a0_7, .string a0_8, .string a0_9, .string a0_10, .string a0_11, .string a0_12, .string a0_13, .string a0_14, .string a0_15, .string a0_16, .string a0_17, .string a0_18, .string a0_19, .string a0_20, .string a0_21, .int .i64 a0_22, .string a0_23, .string a0_24, .string a0_25, .string a0_26, .string a0_27, .string a0_28, .string a0_29, .slice A0_30 l0_30.length c0_30, .slice A0_31 l0_31.length c0_31, .slice A0_32 l0_32.length c0_32, .slice A0_33 l0_33.length c0_33, .string a0_34] 52)) (.cells #[.string a1] 9); simpa using this) _) 0).trans rfl)).mono ?_
  rintro e w1 ⟨rfl, hb⟩
  have G0 : Aside0 (w1.heap[w.heap.size + 2]? = some (.cells #[.string ⟨#[]⟩, .string ⟨#[]⟩, .string ⟨#[]⟩, .string ⟨#[]⟩, .string ⟨#[]⟩, .string ⟨#[]⟩, .string ⟨#[]⟩, .string ⟨#[]⟩, .string ⟨#[]⟩, .string ⟨#[]⟩, .string ⟨#[]⟩, .string ⟨#[]⟩, .string ⟨#[]⟩, .string ⟨#[]⟩] 57 (0, 0))) := ⟨blk_below (by have := blk_new ((w.alloc (.cells #[.string a0_0, .string a0_1, .string a0_2, .string a0_3, .string a0_4, .string a0_5, .string a0_6, .string a0_7, .string a0_8, .string a0_9, .string a0_10, .string a0_11, .string a0_12, .string a0_13, .string a0_14, .string a0_15, .string a0_16, .string a0_17, .string a0_18, .string a0_19, .string a0_20, .string a0_21, .int .i64 a0_22, .string a0_23, .string a0_24, .string a0_25, .string a0_26, .string a0_27, .string a0_28, .string a0_29, .slice A0_30 l0_30.length c0_30, .slice A0_31 l0_31.length c0_31, .slice A0_32 l0_32.length c0_32, .slice A0_33 l0_33.length c0_33, .string a0_34] 52)).alloc (.cells #[.string a1] 9)) (.cells #[.string ⟨#[]⟩, .string ⟨#[]⟩, .string ⟨#[]⟩, .string ⟨#[]⟩, .string ⟨#[]⟩, .string ⟨#[]⟩, .string ⟨#[]⟩, .string ⟨#[]⟩, .string ⟨#[]⟩, .string ⟨#[]⟩, .string ⟨#[]⟩, .string ⟨#[]⟩, .string ⟨#[]⟩, .string ⟨#[]⟩] 57); simpa using this) hb⟩
  have HB := Aside0.mk (below_step (below_alloc (below_alloc (below_alloc (Below.refl _ _) _) _) _) hb)
  clear hb
  have l2 : w.heap.size + 2 < w1.heap.size := blk_lt G0.out
  have y0 : w1.cell? ⟨w.heap.size + 2, 0, none⟩ = some (.string ⟨#[]⟩) := (blk_cell G0.out 0).trans rfl
  have f0 := blk_frozen G0.out 0
  have y1 : w1.cell? ⟨w.heap.size + 2, 1, none⟩ = some (.string ⟨#[]⟩) := (blk_cell G0.out 1).trans rfl
  have f1 := blk_frozen G0.out 1
  have y2 : w1.cell? ⟨w.heap.size + 2, 2, none⟩ = some (.string ⟨#[]⟩) := (blk_cell G0.out 2).trans rfl
  have f2 := blk_frozen G0.out 2
  have y3 : w1.cell? ⟨w.heap.size + 2, 3, none⟩ = some (.string ⟨#[]⟩) := (blk_cell G0.out 3).trans rfl
  have f3 := blk_frozen G0.out 3
  have y4 : w1.cell? ⟨w.heap.size + 2, 4, none⟩ = some (.string ⟨#[]⟩) := (blk_cell G0.out 4).trans rfl
  have f4 := blk_frozen G0.out 4
  have y5 : w1.cell? ⟨w.heap.size + 2, 5, none⟩ = some (.string ⟨#[]⟩) := (blk_cell G0.out 5).trans rfl
  have f5 := blk_frozen G0.out 5
  have y6 : w1.cell? ⟨w.heap.size + 2, 6, none⟩ = some (.string ⟨#[]⟩) := (blk_cell G0.out 6).trans rfl
  have f6 := blk_frozen G0.out 6
  have y7 : w1.cell? ⟨w.heap.size + 2, 7, none⟩ = some (.string ⟨#[]⟩) := (blk_cell G0.out 7).trans rfl
  have f7 := blk_frozen G0.out 7
  have y8 : w1.cell? ⟨w.heap.size + 2, 8, none⟩ = some (.string ⟨#[]⟩) := (blk_cell G0.out 8).trans rfl
  have f8 := blk_frozen G0.out 8
  have y9 : w1.cell? ⟨w.heap.size + 2, 9, none⟩ = some (.string ⟨#[]⟩) := (blk_cell G0.out 9).trans rfl
  have f9 := blk_frozen G0.out 9
  have y10 : w1.cell? ⟨w.heap.size + 2, 10, none⟩ = some (.string ⟨#[]⟩) := (blk_cell G0.out 10).trans rfl
  have f10 := blk_frozen G0.out 10
  have y11 : w1.cell? ⟨w.heap.size + 2, 11, none⟩ = some (.string ⟨#[]⟩) := (blk_cell G0.out 11).trans rfl
  have f11 := blk_frozen G0.out 11
  have y12 : w1.cell? ⟨w.heap.size + 2, 12, none⟩ = some (.string ⟨#[]⟩) := (blk_cell G0.out 12).trans rfl
  have f12 := blk_frozen G0.out 12
  have y13 : w1.cell? ⟨w.heap.size + 2, 13, none⟩ = some (.string ⟨#[]⟩) := (blk_cell G0.out 13).trans rfl
  have f13 := blk_frozen G0.out 13
  obtain ⟨x, hx⟩ : ∃ x, upick a1 l0_33 = x := ⟨_, rfl⟩
  obtain ⟨er, her⟩ : ∃ er, uerr a1 l0_33 201 = er := ⟨_, rfl⟩
  rw [hx, her]
  have HX := Aside0.mk hx
  have HE := Aside0.mk her
  clear hx her
  go_wp2
  refine bodyPost_ret (results_ct rfl _ _ (w.heap.size + 2) 57 #[.string x.f0, .string x.f1.f0, .string x.f1.f1, .string x.f1.f2, .string x.f1.f3, .string x.f1.f4, .string x.f1.f5, .string x.f2.f0, .string x.f2.f1, .string x.f2.f2, .string x.f2.f3, .string x.f2.f4, .string x.f2.f5, .string x.f3] (0, 0) _ rfl (uput G0.out (.string x.f0) (.string x.f1.f0) (.string x.f1.f1) (.string x.f1.f2) (.string x.f1.f3) (.string x.f1.f4) (.string x.f1.f5) (.string x.f2.f0) (.string x.f2.f1) (.string x.f2.f2) (.string x.f2.f3) (.string x.f2.f4) (.string x.f2.f5) (.string x.f3)) Tryd.underlying57 rfl (by kernel_rfl)) rfl ?_
  refine ⟨?_, ?_⟩
  · rw [HX.out, HE.out]; rfl
  · exact uset (by omega) HB.out
end Go.Proofs.YtepahimiakgieaaDoor.Q
