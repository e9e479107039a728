-- Written by a program of this session (mkp.py) over the translation.
import Derived.Test.YtepahimiakgieaaDoorExt
import Derived.Test.YtepahimiakgieaaDoorQ0
namespace Go.Proofs.YtepahimiakgieaaDoor.Q
open Go.RowKit Go.Proofs.YtepahimiakgieaaDoorW.PrintWords Go.Proofs.YtepahimiakgieaaDoorW.PrintLast Go.Proofs.YtepahimiakgieaaDoorW.PrintMore
attribute [local go_sem] max2_int min2_int max_two min_two max_three min_three max_four min_four   -- for this text's walks alone
set_option linter.unusedVariables false
set_option linter.unusedSimpArgs false

/-! ### quipuref20_Coin: function 21 -/
def quipuref20_Coin.l0 : Nat → ByteArray → Int → ByteArray → ByteArray → ByteArray → ByteArray → ByteArray → ByteArray → ByteArray → ByteArray → ByteArray → ByteArray → ByteArray → ByteArray → ByteArray → ByteArray → ByteArray → ByteArray → ByteArray → ByteArray → ByteArray → ByteArray → ByteArray → ByteArray → Int → ByteArray → ByteArray → ByteArray → ByteArray → ByteArray → ByteArray → ByteArray → List (S129) → List (S129) → List (S24) → List (S57) → ByteArray → Option (ByteArray × ByteArray × ByteArray × ByteArray × ByteArray × ByteArray × ByteArray × ByteArray × ByteArray × Int × Int × Int × Int)
  | 0, _, _, _, _, _, _, _, _, _, _, _, _, _, _, _, _, _, _, _, _, _, _, _, _, _, _, _, _, _, _, _, _, _, _, _, _, _ => none
  | k + 1, x1, x6, x294000, x294001, x294002, x294003, x294004, x294005, x294006, x294007, x294008, x294009, x294010, x294011, x294012, x294013, x294014, x294015, x294016, x294017, x294018, x294019, x294020, x294021, x294022, x294023, x294024, x294025, x294026, x294027, x294028, x294029, x294030, x294031, x294032, x294033, x294034 => if x6 < (x294032.length : Int) then (if 0 ≤ x6 then (if ((rd_T24 x294032 x6).f0).toList = x1.toList then (some ((rd_T24 x294032 x6).f0, (rd_T24 x294032 x6).f1, (rd_T24 x294032 x6).f2, (rd_T24 x294032 x6).f3.f0, (rd_T24 x294032 x6).f3.f1, (rd_T24 x294032 x6).f3.f2, (rd_T24 x294032 x6).f3.f3, (rd_T24 x294032 x6).f3.f4, (rd_T24 x294032 x6).f3.f5, (rd_T24 x294032 x6).f4, (rd_T24 x294032 x6).f5, (rd_T24 x294032 x6).f6, 0)) else (quipuref20_Coin.l0 k x1 (wrap64 (x6 + 1)) x294000 x294001 x294002 x294003 x294004 x294005 x294006 x294007 x294008 x294009 x294010 x294011 x294012 x294013 x294014 x294015 x294016 x294017 x294018 x294019 x294020 x294021 x294022 x294023 x294024 x294025 x294026 x294027 x294028 x294029 x294030 x294031 x294032 x294033 x294034)) else (none)) else (some ((⟨#[]⟩ : ByteArray), (⟨#[]⟩ : ByteArray), (⟨#[]⟩ : ByteArray), (⟨#[]⟩ : ByteArray), (⟨#[]⟩ : ByteArray), (⟨#[]⟩ : ByteArray), (⟨#[]⟩ : ByteArray), (⟨#[]⟩ : ByteArray), (⟨#[]⟩ : ByteArray), 0, 0, 0, 200))
def quipuref20_Coin.f (k : Nat) (a0_0 : ByteArray) (a0_1 : ByteArray) (a0_2 : ByteArray) (a0_3 : ByteArray) (a0_4 : ByteArray) (a0_5 : ByteArray) (a0_6 : ByteArray) (a0_7 : ByteArray) (a0_8 : ByteArray) (a0_9 : ByteArray) (a0_10 : ByteArray) (a0_11 : ByteArray) (a0_12 : ByteArray) (a0_13 : ByteArray) (a0_14 : ByteArray) (a0_15 : ByteArray) (a0_16 : ByteArray) (a0_17 : ByteArray) (a0_18 : ByteArray) (a0_19 : ByteArray) (a0_20 : ByteArray) (a0_21 : ByteArray) (a0_22 : Int) (a0_23 : ByteArray) (a0_24 : ByteArray) (a0_25 : ByteArray) (a0_26 : ByteArray) (a0_27 : ByteArray) (a0_28 : ByteArray) (a0_29 : ByteArray) (l0_30 : List (S129)) (l0_31 : List (S129)) (l0_32 : List (S24)) (l0_33 : List (S57)) (a0_34 : ByteArray) (a1 : ByteArray) : Option (ByteArray × ByteArray × ByteArray × ByteArray × ByteArray × ByteArray × ByteArray × ByteArray × ByteArray × Int × Int × Int × Int) := quipuref20_Coin.l0 k a1 0 a0_0 a0_1 a0_2 a0_3 a0_4 a0_5 a0_6 a0_7 a0_8 a0_9 a0_10 a0_11 a0_12 a0_13 a0_14 a0_15 a0_16 a0_17 a0_18 a0_19 a0_20 a0_21 a0_22 a0_23 a0_24 a0_25 a0_26 a0_27 a0_28 a0_29 l0_30 l0_31 l0_32 l0_33 a0_34
theorem quipuref20_Coin.mono_l : ∀ k, (∀ y0 y1 y2 y3 y4 y5 y6 y7 y8 y9 y10 y11 y12 y13 y14 y15 y16 y17 y18 y19 y20 y21 y22 y23 y24 y25 y26 y27 y28 y29 y30 y31 y32 y33 y34 y35 y36, LeO (quipuref20_Coin.l0 k y0 y1 y2 y3 y4 y5 y6 y7 y8 y9 y10 y11 y12 y13 y14 y15 y16 y17 y18 y19 y20 y21 y22 y23 y24 y25 y26 y27 y28 y29 y30 y31 y32 y33 y34 y35 y36) (quipuref20_Coin.l0 (k + 1) y0 y1 y2 y3 y4 y5 y6 y7 y8 y9 y10 y11 y12 y13 y14 y15 y16 y17 y18 y19 y20 y21 y22 y23 y24 y25 y26 y27 y28 y29 y30 y31 y32 y33 y34 y35 y36))
  | 0 => fun _ _ _ _ _ _ _ _ _ _ _ _ _ _ _ _ _ _ _ _ _ _ _ _ _ _ _ _ _ _ _ _ _ _ _ _ _ r h => by simp [quipuref20_Coin.l0] at h
  | k + 1 => by
    have ih0 := quipuref20_Coin.mono_l k
    · intro y0 y1 y2 y3 y4 y5 y6 y7 y8 y9 y10 y11 y12 y13 y14 y15 y16 y17 y18 y19 y20 y21 y22 y23 y24 y25 y26 y27 y28 y29 y30 y31 y32 y33 y34 y35 y36
      unfold quipuref20_Coin.l0
      repeat' first
      | (with_reducible exact ih0 _ _ _ _ _ _ _ _ _ _ _ _ _ _ _ _ _ _ _ _ _ _ _ _ _ _ _ _ _ _ _ _ _ _ _ _ _)
      | (with_reducible exact LeO.refl _)
      | (with_reducible exact LeO.none _)
      | (with_reducible refine LeO.ite ?_ ?_)
      | (with_reducible refine LeO.bind ?_ (fun _ => ?_))
      | exact ih0 _ _ _ _ _ _ _ _ _ _ _ _ _ _ _ _ _ _ _ _ _ _ _ _ _ _ _ _ _ _ _ _ _ _ _ _ _
      | exact LeO.none _
      | refine LeO.ite ?_ ?_
      | refine LeO.bind ?_ (fun _ => ?_)
theorem quipuref20_Coin.mono : ∀ a0 a1 a2 a3 a4 a5 a6 a7 a8 a9 a10 a11 a12 a13 a14 a15 a16 a17 a18 a19 a20 a21 a22 a23 a24 a25 a26 a27 a28 a29 a30 a31 a32 a33 a34 a35 k, LeO (quipuref20_Coin.f k a0 a1 a2 a3 a4 a5 a6 a7 a8 a9 a10 a11 a12 a13 a14 a15 a16 a17 a18 a19 a20 a21 a22 a23 a24 a25 a26 a27 a28 a29 a30 a31 a32 a33 a34 a35) (quipuref20_Coin.f (k + 1) a0 a1 a2 a3 a4 a5 a6 a7 a8 a9 a10 a11 a12 a13 a14 a15 a16 a17 a18 a19 a20 a21 a22 a23 a24 a25 a26 a27 a28 a29 a30 a31 a32 a33 a34 a35) := by
  intro a0 a1 a2 a3 a4 a5 a6 a7 a8 a9 a10 a11 a12 a13 a14 a15 a16 a17 a18 a19 a20 a21 a22 a23 a24 a25 a26 a27 a28 a29 a30 a31 a32 a33 a34 a35 k
  have ih0 := quipuref20_Coin.mono_l k
  unfold quipuref20_Coin.f
  repeat' first
      | (with_reducible exact ih0 _ _ _ _ _ _ _ _ _ _ _ _ _ _ _ _ _ _ _ _ _ _ _ _ _ _ _ _ _ _ _ _ _ _ _ _ _)
      | (with_reducible exact LeO.refl _)
      | (with_reducible exact LeO.none _)
      | (with_reducible refine LeO.ite ?_ ?_)
      | (with_reducible refine LeO.bind ?_ (fun _ => ?_))
      | exact ih0 _ _ _ _ _ _ _ _ _ _ _ _ _ _ _ _ _ _ _ _ _ _ _ _ _ _ _ _ _ _ _ _ _ _ _ _ _
      | exact LeO.none _
      | refine LeO.ite ?_ ?_
      | refine LeO.bind ?_ (fun _ => ?_)
set_option maxHeartbeats 8000000 in
set_option maxRecDepth 100000 in
theorem quipuref20_Coin.calls (k : Nat) (a0_0 : ByteArray) (a0_1 : ByteArray) (a0_2 : ByteArray) (a0_3 : ByteArray) (a0_4 : ByteArray) (a0_5 : ByteArray) (a0_6 : ByteArray) (a0_7 : ByteArray) (a0_8 : ByteArray) (a0_9 : ByteArray) (a0_10 : ByteArray) (a0_11 : ByteArray) (a0_12 : ByteArray) (a0_13 : ByteArray) (a0_14 : ByteArray) (a0_15 : ByteArray) (a0_16 : ByteArray) (a0_17 : ByteArray) (a0_18 : ByteArray) (a0_19 : ByteArray) (a0_20 : ByteArray) (a0_21 : ByteArray) (a0_22 : Int) (a0_23 : ByteArray) (a0_24 : ByteArray) (a0_25 : ByteArray) (a0_26 : ByteArray) (a0_27 : ByteArray) (a0_28 : ByteArray) (a0_29 : ByteArray) (A0_30 : Option Addr) (c0_30 : Nat) (l0_30 : List (S129)) (A0_31 : Option Addr) (c0_31 : Nat) (l0_31 : List (S129)) (A0_32 : Option Addr) (c0_32 : Nat) (l0_32 : List (S24)) (A0_33 : Option Addr) (c0_33 : Nat) (l0_33 : List (S57)) (a0_34 : ByteArray) (a1 : ByteArray) (r1 : ByteArray) (r2 : ByteArray) (r3 : ByteArray) (r4 : ByteArray) (r5 : ByteArray) (r6 : ByteArray) (r7 : ByteArray) (r8 : ByteArray) (r9 : ByteArray) (r10 : Int) (r11 : Int) (r12 : Int) (r13 : Int) (w : World) (hr0_30 : Kd.C k129 w A0_30 l0_30.length l0_30) (hc0_30 : l0_30.length ≤ c0_30) (hr0_31 : Kd.C k129 w A0_31 l0_31.length l0_31) (hc0_31 : l0_31.length ≤ c0_31) (hr0_32 : Kd.C k24 w A0_32 l0_32.length l0_32) (hc0_32 : l0_32.length ≤ c0_32) (hr0_33 : Kd.C k57 w A0_33 l0_33.length l0_33) (hc0_33 : l0_33.length ≤ c0_33) (h : quipuref20_Coin.f k a0_0 a0_1 a0_2 a0_3 a0_4 a0_5 a0_6 a0_7 a0_8 a0_9 a0_10 a0_11 a0_12 a0_13 a0_14 a0_15 a0_16 a0_17 a0_18 a0_19 a0_20 a0_21 a0_22 a0_23 a0_24 a0_25 a0_26 a0_27 a0_28 a0_29 l0_30 l0_31 l0_32 l0_33 a0_34 a1 = some (r1, r2, r3, r4, r5, r6, r7, r8, r9, r10, r11, r12, r13)) :
    Calls Tryd.prog 21 #[.agg #[.string a0_0, .string a0_1, .string a0_2, .string a0_3, .string a0_4, .string a0_5, .string a0_6, .string a0_7, .string a0_8, .string a0_9, .string a0_10, .string a0_11, .string a0_12, .string a0_13, .string a0_14, .string a0_15, .string a0_16, .string a0_17, .string a0_18, .string a0_19, .string a0_20, .string a0_21, .int .i64 a0_22, .string a0_23, .string a0_24, .string a0_25, .string a0_26, .string a0_27, .string a0_28, .string a0_29, .slice A0_30 l0_30.length c0_30, .slice A0_31 l0_31.length c0_31, .slice A0_32 l0_32.length c0_32, .slice A0_33 l0_33.length c0_33, .string a0_34], .string a1] w fun e w' => e = .returned (.tuple #[.agg #[.string r1, .string r2, .string r3, .string r4, .string r5, .string r6, .string r7, .string r8, .string r9, .int .i64 r10, .int .i64 r11, .int .i64 r12], .int .i64 r13]) ∧ Below w.heap.size w w' := by
  have hu52 := Tryd.underlying52
  have hu24 := Tryd.underlying24
  have HR0_30 := Aside0.mk hr0_30
  have HC0_30 := Aside0.mk hc0_30
  clear hr0_30 hc0_30
  have HR0_31 := Aside0.mk hr0_31
  have HC0_31 := Aside0.mk hc0_31
  clear hr0_31 hc0_31
  have HR0_32 := Aside0.mk hr0_32
  have HC0_32 := Aside0.mk hc0_32
  clear hr0_32 hc0_32
  have HR0_33 := Aside0.mk hr0_33
  have HC0_33 := Aside0.mk hc0_33
  clear hr0_33 hc0_33
  have HB := Aside0.mk (Below.refl w.heap.size w)
  have H : (quipuref20_Coin.l0 k a1 0 a0_0 a0_1 a0_2 a0_3 a0_4 a0_5 a0_6 a0_7 a0_8 a0_9 a0_10 a0_11 a0_12 a0_13 a0_14 a0_15 a0_16 a0_17 a0_18 a0_19 a0_20 a0_21 a0_22 a0_23 a0_24 a0_25 a0_26 a0_27 a0_28 a0_29 l0_30 l0_31 l0_32 l0_33 a0_34) = some (r1, r2, r3, r4, r5, r6, r7, r8, r9, r10, r11, r12, r13) := h
  clear h
  have H' := Aside0.mk H
  clear H
  go_enter Tryd.func21, Tryd.ntmps21
  go_wp2_with (first | ((with_reducible refine gate_dst (N := 2) rfl ?_); refine box_event ?hg (N := 2) ?hd (cs := #[.string a0_0, .string a0_1, .string a0_2, .string a0_3, .string a0_4, .string a0_5, .string a0_6, .string a0_7, .string a0_8, .string a0_9, .string a0_10, .string a0_11, .string a0_12, .string a0_13, .string a0_14, .string a0_15, .string a0_16, .string a0_17, .string a0_18, .string a0_19, .string a0_20, .string a0_21, .int .i64 a0_22, .string a0_23, .string a0_24, .string a0_25, .string a0_26, .string a0_27, .string a0_28, .string a0_29, .slice A0_30 l0_30.length c0_30, .slice A0_31 l0_31.length c0_31, .slice A0_32 l0_32.length c0_32, .slice A0_33 l0_33.length c0_33, .string a0_34]) (t := 52) ?hr ?_; (case hd => rfl); (case hg => rfl); (case hr => first | (go_simp; done) | (go_simp; rfl)); intro gb293 hg w3 hbox hb; have n0_ := Aside0.mk (below_step (by repeat (first | (with_reducible first | exact HB.out | apply below_alloc | apply pw_below_drewN | apply below_drew1) | exact HB.out)) hb); have n1_ := Aside0.mk (hbox); have n2_ := Aside0.mk ((by rw [hg]; exact (below_size (by repeat (first | (with_reducible first | exact HB.out | apply below_alloc | apply pw_below_drewN | apply below_drew1) | exact HB.out))) : w.heap.size ≤ gb293)); have n3_ := Aside0.mk ((by rw [hg]; exact (below_size (by repeat (first | (with_reducible first | exact HB.out | apply below_alloc | apply pw_below_drewN | apply below_drew1) | exact HB.out))) : w.heap.size ≤ gb293)); clear HB; have HB := n0_; have BK293 := n1_; have GW293 := n2_; have GE293 := n3_; clear n0_ n1_ n2_ n3_; clear hb hbox hg) | ((with_reducible refine gate_dst (N := 4) rfl ?_); refine box_event ?hg (N := 4) ?hd (cs := #[.string (⟨#[]⟩ : ByteArray), .string (⟨#[]⟩ : ByteArray), .string (⟨#[]⟩ : ByteArray), .string (⟨#[]⟩ : ByteArray), .string (⟨#[]⟩ : ByteArray), .string (⟨#[]⟩ : ByteArray), .string (⟨#[]⟩ : ByteArray), .string (⟨#[]⟩ : ByteArray), .string (⟨#[]⟩ : ByteArray), .int .i64 0, .int .i64 0, .int .i64 0]) (t := 24) ?hr ?_; (case hd => rfl); (case hg => rfl); (case hr => first | (go_simp; done) | (go_simp; rfl)); intro gb294 hg w4 hbox hb; have n0_ := Aside0.mk (blk_below (g := gb293) (o := .cells #[.string a0_0, .string a0_1, .string a0_2, .string a0_3, .string a0_4, .string a0_5, .string a0_6, .string a0_7, .string a0_8, .string a0_9, .string a0_10, .string a0_11, .string a0_12, .string a0_13, .string a0_14, .string a0_15, .string a0_16, .string a0_17, .string a0_18, .string a0_19, .string a0_20, .string a0_21, .int .i64 a0_22, .string a0_23, .string a0_24, .string a0_25, .string a0_26, .string a0_27, .string a0_28, .string a0_29, .slice A0_30 l0_30.length c0_30, .slice A0_31 l0_31.length c0_31, .slice A0_32 l0_32.length c0_32, .slice A0_33 l0_33.length c0_33, .string a0_34] 52 (0, 0)) (by (with_reducible repeat (first | refine blk_drewN ?_ _ | refine blk_drew ?_ | refine blk_alloc ?_ _)); exact BK293.out) hb); have n1_ := Aside0.mk (below_step (by repeat (first | (with_reducible first | exact HB.out | apply below_alloc | apply pw_below_drewN | apply below_drew1 | refine below_set ?_ GE293.out) | exact HB.out)) hb); have n2_ := Aside0.mk (hbox); have n3_ := Aside0.mk ((by rw [hg]; exact (below_size (by repeat (first | (with_reducible first | exact HB.out | apply below_alloc | apply pw_below_drewN | apply below_drew1 | refine below_set ?_ GE293.out) | exact HB.out))) : w.heap.size ≤ gb294)); have n4_ := Aside0.mk ((by rw [hg]; exact (below_size (by repeat (first | (with_reducible first | exact HB.out | apply below_alloc | apply pw_below_drewN | apply below_drew1 | refine below_set ?_ GE293.out) | exact HB.out))) : w.heap.size ≤ gb294)); have n5_ := Aside0.mk ((by rw [hg]; exact Nat.ne_of_lt (blk_lt (g := gb293) (o := .cells #[.string a0_0, .string a0_1, .string a0_2, .string a0_3, .string a0_4, .string a0_5, .string a0_6, .string a0_7, .string a0_8, .string a0_9, .string a0_10, .string a0_11, .string a0_12, .string a0_13, .string a0_14, .string a0_15, .string a0_16, .string a0_17, .string a0_18, .string a0_19, .string a0_20, .string a0_21, .int .i64 a0_22, .string a0_23, .string a0_24, .string a0_25, .string a0_26, .string a0_27, .string a0_28, .string a0_29, .slice A0_30 l0_30.length c0_30, .slice A0_31 l0_31.length c0_31, .slice A0_32 l0_32.length c0_32, .slice A0_33 l0_33.length c0_33, .string a0_34] 52 (0, 0)) (by (with_reducible repeat (first | refine blk_drewN ?_ _ | refine blk_drew ?_ | refine blk_alloc ?_ _)); exact BK293.out)) : gb293 ≠ gb294)); have n6_ := Aside0.mk ((by rw [hg]; exact Nat.ne_of_gt (blk_lt (g := gb293) (o := .cells #[.string a0_0, .string a0_1, .string a0_2, .string a0_3, .string a0_4, .string a0_5, .string a0_6, .string a0_7, .string a0_8, .string a0_9, .string a0_10, .string a0_11, .string a0_12, .string a0_13, .string a0_14, .string a0_15, .string a0_16, .string a0_17, .string a0_18, .string a0_19, .string a0_20, .string a0_21, .int .i64 a0_22, .string a0_23, .string a0_24, .string a0_25, .string a0_26, .string a0_27, .string a0_28, .string a0_29, .slice A0_30 l0_30.length c0_30, .slice A0_31 l0_31.length c0_31, .slice A0_32 l0_32.length c0_32, .slice A0_33 l0_33.length c0_33, .string a0_34] 52 (0, 0)) (by (with_reducible repeat (first | refine blk_drewN ?_ _ | refine blk_drew ?_ | refine blk_alloc ?_ _)); exact BK293.out)) : gb294 ≠ gb293)); clear BK293; clear HB; have BK293 := n0_; have HB := n1_; have BK294 := n2_; have GW294 := n3_; have GE294 := n4_; have NB293_294 := n5_; have NB294_293 := n6_; clear n0_ n1_ n2_ n3_ n4_ n5_ n6_; clear hb hbox hg))
  go_loopg [6] k (fun kq v6 w' => ∃ (x6_1 : Int) (x295000_1 : ByteArray) (x295001_1 : ByteArray) (x295002_1 : ByteArray) (x295003_1 : ByteArray) (x295004_1 : ByteArray) (x295005_1 : ByteArray) (x295006_1 : ByteArray) (x295007_1 : ByteArray) (x295008_1 : ByteArray) (x295009_1 : Int) (x295010_1 : Int) (x295011_1 : Int), v6 = .int .i64 x6_1 ∧ Aside0 (quipuref20_Coin.l0 kq a1 x6_1 a0_0 a0_1 a0_2 a0_3 a0_4 a0_5 a0_6 a0_7 a0_8 a0_9 a0_10 a0_11 a0_12 a0_13 a0_14 a0_15 a0_16 a0_17 a0_18 a0_19 a0_20 a0_21 a0_22 a0_23 a0_24 a0_25 a0_26 a0_27 a0_28 a0_29 l0_30 l0_31 l0_32 l0_33 a0_34 = some (r1, r2, r3, r4, r5, r6, r7, r8, r9, r10, r11, r12, r13)) ∧ Aside0 (kq ≤ k) ∧ Aside0 (w'.heap[gb293]? = some (.cells #[.string a0_0, .string a0_1, .string a0_2, .string a0_3, .string a0_4, .string a0_5, .string a0_6, .string a0_7, .string a0_8, .string a0_9, .string a0_10, .string a0_11, .string a0_12, .string a0_13, .string a0_14, .string a0_15, .string a0_16, .string a0_17, .string a0_18, .string a0_19, .string a0_20, .string a0_21, .int .i64 a0_22, .string a0_23, .string a0_24, .string a0_25, .string a0_26, .string a0_27, .string a0_28, .string a0_29, (.slice A0_30 l0_30.length c0_30), (.slice A0_31 l0_31.length c0_31), (.slice A0_32 l0_32.length c0_32), (.slice A0_33 l0_33.length c0_33), .string a0_34] 52 (0, 0))) ∧ Aside0 (w'.heap[gb294]? = some (.cells #[.string x295000_1, .string x295001_1, .string x295002_1, .string x295003_1, .string x295004_1, .string x295005_1, .string x295006_1, .string x295007_1, .string x295008_1, .int .i64 x295009_1, .int .i64 x295010_1, .int .i64 x295011_1] 24 (0, 0))) ∧ Aside0 (Below w.heap.size w w'))
  case atStart => exact ⟨(0), ((⟨#[]⟩ : ByteArray)), ((⟨#[]⟩ : ByteArray)), ((⟨#[]⟩ : ByteArray)), ((⟨#[]⟩ : ByteArray)), ((⟨#[]⟩ : ByteArray)), ((⟨#[]⟩ : ByteArray)), ((⟨#[]⟩ : ByteArray)), ((⟨#[]⟩ : ByteArray)), ((⟨#[]⟩ : ByteArray)), (0), (0), (0), (by first | rfl | (simp; done) | (simp [*]; done)), H', ⟨Nat.le_refl _⟩, ⟨by (with_reducible repeat (first | refine blk_drewN ?_ _ | refine blk_drew ?_ | refine blk_alloc ?_ _)); exact BK293.out⟩, ⟨by (with_reducible repeat (first | refine blk_drewN ?_ _ | refine blk_drew ?_ | refine blk_alloc ?_ _)); exact BK294.out⟩, ⟨by repeat (first | (with_reducible first | exact HB.out | apply below_alloc | apply pw_below_drewN | apply below_drew1 | refine below_set ?_ GE293.out | refine below_set ?_ GE294.out) | exact HB.out)⟩⟩
  case round =>
    clear H'
    try clear c2
    try clear p2
    obtain ⟨x6_1, x295000_1, x295001_1, x295002_1, x295003_1, x295004_1, x295005_1, x295006_1, x295007_1, x295008_1, x295009_1, x295010_1, x295011_1, rfl, HA, HK1, BK293, BK294, HB⟩ := hrel
    cases gk with
    | zero => exact absurd HA.out (by simp [quipuref20_Coin.l0])
    | succ k1 =>
      have H := HA.out
      clear HA
      simp only [quipuref20_Coin.l0] at H
      by_cases c5 : x6_1 < (l0_32.length : Int)
      · rw [if_pos c5] at H
        have c5b0 : decide (x6_1 < (l0_32.length : Int)) = true := decide_eq_true c5
        clear c5
        by_cases c6 : 0 ≤ x6_1
        · rw [if_pos c6] at H
          have c6b0 : decide (0 ≤ x6_1) = true := decide_eq_true c6
          clear c6
          by_cases c7 : ((rd_T24 l0_32 x6_1).f0).toList = a1.toList
          · rw [if_pos c7] at H
            have c7b0 : (((rd_T24 l0_32 x6_1).f0).toList == a1.toList) = true := beq_iff_eq.mpr c7
            have c7b1 : (((rd_T24 l0_32 x6_1).f0).toList != a1.toList) = false := bne_eq_false_iff_eq.mpr c7
            clear c7
            simp only [Option.some.injEq, Prod.mk.injEq] at H
            obtain ⟨rfl, rfl, rfl, rfl, rfl, rfl, rfl, rfl, rfl, rfl, rfl, rfl, rfl⟩ := H
            have hnb8 := NB293_294.out
            have hnc8 := NB294_293.out
            have hcz9_0 : wr.cell? ⟨gb293, 0, none⟩ = some (.string a0_0) := (blk_cell BK293.out 0).trans rfl
            have hcz9_1 : wr.cell? ⟨gb293, 1, none⟩ = some (.string a0_1) := (blk_cell BK293.out 1).trans rfl
            have hcz9_2 : wr.cell? ⟨gb293, 2, none⟩ = some (.string a0_2) := (blk_cell BK293.out 2).trans rfl
            have hcz9_3 : wr.cell? ⟨gb293, 3, none⟩ = some (.string a0_3) := (blk_cell BK293.out 3).trans rfl
            have hcz9_4 : wr.cell? ⟨gb293, 4, none⟩ = some (.string a0_4) := (blk_cell BK293.out 4).trans rfl
            have hcz9_5 : wr.cell? ⟨gb293, 5, none⟩ = some (.string a0_5) := (blk_cell BK293.out 5).trans rfl
            have hcz9_6 : wr.cell? ⟨gb293, 6, none⟩ = some (.string a0_6) := (blk_cell BK293.out 6).trans rfl
            have hcz9_7 : wr.cell? ⟨gb293, 7, none⟩ = some (.string a0_7) := (blk_cell BK293.out 7).trans rfl
            have hcz9_8 : wr.cell? ⟨gb293, 8, none⟩ = some (.string a0_8) := (blk_cell BK293.out 8).trans rfl
            have hcz9_9 : wr.cell? ⟨gb293, 9, none⟩ = some (.string a0_9) := (blk_cell BK293.out 9).trans rfl
            have hcz9_10 : wr.cell? ⟨gb293, 10, none⟩ = some (.string a0_10) := (blk_cell BK293.out 10).trans rfl
            have hcz9_11 : wr.cell? ⟨gb293, 11, none⟩ = some (.string a0_11) := (blk_cell BK293.out 11).trans rfl
            have hcz9_12 : wr.cell? ⟨gb293, 12, none⟩ = some (.string a0_12) := (blk_cell BK293.out 12).trans rfl
            have hcz9_13 : wr.cell? ⟨gb293, 13, none⟩ = some (.string a0_13) := (blk_cell BK293.out 13).trans rfl
            have hcz9_14 : wr.cell? ⟨gb293, 14, none⟩ = some (.string a0_14) := (blk_cell BK293.out 14).trans rfl
            have hcz9_15 : wr.cell? ⟨gb293, 15, none⟩ = some (.string a0_15) := (blk_cell BK293.out 15).trans rfl
            have hcz9_16 : wr.cell? ⟨gb293, 16, none⟩ = some (.string a0_16) := (blk_cell BK293.out 16).trans rfl
            have hcz9_17 : wr.cell? ⟨gb293, 17, none⟩ = some (.string a0_17) := (blk_cell BK293.out 17).trans rfl
            have hcz9_18 : wr.cell? ⟨gb293, 18, none⟩ = some (.string a0_18) := (blk_cell BK293.out 18).trans rfl
            have hcz9_19 : wr.cell? ⟨gb293, 19, none⟩ = some (.string a0_19) := (blk_cell BK293.out 19).trans rfl
            have hcz9_20 : wr.cell? ⟨gb293, 20, none⟩ = some (.string a0_20) := (blk_cell BK293.out 20).trans rfl
            have hcz9_21 : wr.cell? ⟨gb293, 21, none⟩ = some (.string a0_21) := (blk_cell BK293.out 21).trans rfl
            have hcz9_22 : wr.cell? ⟨gb293, 22, none⟩ = some (.int .i64 a0_22) := (blk_cell BK293.out 22).trans rfl
            have hcz9_23 : wr.cell? ⟨gb293, 23, none⟩ = some (.string a0_23) := (blk_cell BK293.out 23).trans rfl
            have hcz9_24 : wr.cell? ⟨gb293, 24, none⟩ = some (.string a0_24) := (blk_cell BK293.out 24).trans rfl
            have hcz9_25 : wr.cell? ⟨gb293, 25, none⟩ = some (.string a0_25) := (blk_cell BK293.out 25).trans rfl
            have hcz9_26 : wr.cell? ⟨gb293, 26, none⟩ = some (.string a0_26) := (blk_cell BK293.out 26).trans rfl
            have hcz9_27 : wr.cell? ⟨gb293, 27, none⟩ = some (.string a0_27) := (blk_cell BK293.out 27).trans rfl
            have hcz9_28 : wr.cell? ⟨gb293, 28, none⟩ = some (.string a0_28) := (blk_cell BK293.out 28).trans rfl
            have hcz9_29 : wr.cell? ⟨gb293, 29, none⟩ = some (.string a0_29) := (blk_cell BK293.out 29).trans rfl
            have hcz9_30 : wr.cell? ⟨gb293, 30, none⟩ = some (.slice A0_30 l0_30.length c0_30) := (blk_cell BK293.out 30).trans rfl
            have hcz9_31 : wr.cell? ⟨gb293, 31, none⟩ = some (.slice A0_31 l0_31.length c0_31) := (blk_cell BK293.out 31).trans rfl
            have hcz9_32 : wr.cell? ⟨gb293, 32, none⟩ = some (.slice A0_32 l0_32.length c0_32) := (blk_cell BK293.out 32).trans rfl
            have hcz9_33 : wr.cell? ⟨gb293, 33, none⟩ = some (.slice A0_33 l0_33.length c0_33) := (blk_cell BK293.out 33).trans rfl
            have hcz9_34 : wr.cell? ⟨gb293, 34, none⟩ = some (.string a0_34) := (blk_cell BK293.out 34).trans rfl
            have hfz9_0 := blk_frozen BK293.out 0
            have hfz9_1 := blk_frozen BK293.out 1
            have hfz9_2 := blk_frozen BK293.out 2
            have hfz9_3 := blk_frozen BK293.out 3
            have hfz9_4 := blk_frozen BK293.out 4
            have hfz9_5 := blk_frozen BK293.out 5
            have hfz9_6 := blk_frozen BK293.out 6
            have hfz9_7 := blk_frozen BK293.out 7
            have hfz9_8 := blk_frozen BK293.out 8
            have hfz9_9 := blk_frozen BK293.out 9
            have hfz9_10 := blk_frozen BK293.out 10
            have hfz9_11 := blk_frozen BK293.out 11
            have hfz9_12 := blk_frozen BK293.out 12
            have hfz9_13 := blk_frozen BK293.out 13
            have hfz9_14 := blk_frozen BK293.out 14
            have hfz9_15 := blk_frozen BK293.out 15
            have hfz9_16 := blk_frozen BK293.out 16
            have hfz9_17 := blk_frozen BK293.out 17
            have hfz9_18 := blk_frozen BK293.out 18
            have hfz9_19 := blk_frozen BK293.out 19
            have hfz9_20 := blk_frozen BK293.out 20
            have hfz9_21 := blk_frozen BK293.out 21
            have hfz9_22 := blk_frozen BK293.out 22
            have hfz9_23 := blk_frozen BK293.out 23
            have hfz9_24 := blk_frozen BK293.out 24
            have hfz9_25 := blk_frozen BK293.out 25
            have hfz9_26 := blk_frozen BK293.out 26
            have hfz9_27 := blk_frozen BK293.out 27
            have hfz9_28 := blk_frozen BK293.out 28
            have hfz9_29 := blk_frozen BK293.out 29
            have hfz9_30 := blk_frozen BK293.out 30
            have hfz9_31 := blk_frozen BK293.out 31
            have hfz9_32 := blk_frozen BK293.out 32
            have hfz9_33 := blk_frozen BK293.out 33
            have hfz9_34 := blk_frozen BK293.out 34
            have p295 : 0 ≤ (x6_1 : Int) := of_decide_eq_true (by first | (with_reducible assumption) | assumption)
            have q295 : x6_1 < (l0_32.length : Int) := of_decide_eq_true (by first | (with_reducible assumption) | assumption)
            obtain ⟨ad295, e295, hx295_0, hx295_1, hx295_2, hx295_3, hx295_4, hx295_5, hx295_6, hx295_7, hx295_8, hx295_9, hx295_10, hx295_11⟩ := at_T24 HR0_32.out x6_1 p295 q295
            cases e295
            replace hx295_0 := (HB.out.cell (World.block_lt_of_cell? w _ hx295_0)).trans hx295_0
            replace hx295_1 := (HB.out.cell (World.block_lt_of_cell? w _ hx295_1)).trans hx295_1
            replace hx295_2 := (HB.out.cell (World.block_lt_of_cell? w _ hx295_2)).trans hx295_2
            replace hx295_3 := (HB.out.cell (World.block_lt_of_cell? w _ hx295_3)).trans hx295_3
            replace hx295_4 := (HB.out.cell (World.block_lt_of_cell? w _ hx295_4)).trans hx295_4
            replace hx295_5 := (HB.out.cell (World.block_lt_of_cell? w _ hx295_5)).trans hx295_5
            replace hx295_6 := (HB.out.cell (World.block_lt_of_cell? w _ hx295_6)).trans hx295_6
            replace hx295_7 := (HB.out.cell (World.block_lt_of_cell? w _ hx295_7)).trans hx295_7
            replace hx295_8 := (HB.out.cell (World.block_lt_of_cell? w _ hx295_8)).trans hx295_8
            replace hx295_9 := (HB.out.cell (World.block_lt_of_cell? w _ hx295_9)).trans hx295_9
            replace hx295_10 := (HB.out.cell (World.block_lt_of_cell? w _ hx295_10)).trans hx295_10
            replace hx295_11 := (HB.out.cell (World.block_lt_of_cell? w _ hx295_11)).trans hx295_11
            replace p295 := eq_true p295
            replace q295 := eq_true q295
            have p296 : 0 ≤ (x6_1 : Int) := of_decide_eq_true (by first | (with_reducible assumption) | assumption)
            have q296 : x6_1 < (l0_32.length : Int) := of_decide_eq_true (by first | (with_reducible assumption) | assumption)
            obtain ⟨ad296, e296, hx296_0, hx296_1, hx296_2, hx296_3, hx296_4, hx296_5, hx296_6, hx296_7, hx296_8, hx296_9, hx296_10, hx296_11⟩ := at_T24 HR0_32.out x6_1 p296 q296
            obtain rfl : ad295 = ad296 := (by injection e296)
            replace hx296_0 := (HB.out.cell (World.block_lt_of_cell? w _ hx296_0)).trans hx296_0
            replace hx296_1 := (HB.out.cell (World.block_lt_of_cell? w _ hx296_1)).trans hx296_1
            replace hx296_2 := (HB.out.cell (World.block_lt_of_cell? w _ hx296_2)).trans hx296_2
            replace hx296_3 := (HB.out.cell (World.block_lt_of_cell? w _ hx296_3)).trans hx296_3
            replace hx296_4 := (HB.out.cell (World.block_lt_of_cell? w _ hx296_4)).trans hx296_4
            replace hx296_5 := (HB.out.cell (World.block_lt_of_cell? w _ hx296_5)).trans hx296_5
            replace hx296_6 := (HB.out.cell (World.block_lt_of_cell? w _ hx296_6)).trans hx296_6
            replace hx296_7 := (HB.out.cell (World.block_lt_of_cell? w _ hx296_7)).trans hx296_7
            replace hx296_8 := (HB.out.cell (World.block_lt_of_cell? w _ hx296_8)).trans hx296_8
            replace hx296_9 := (HB.out.cell (World.block_lt_of_cell? w _ hx296_9)).trans hx296_9
            replace hx296_10 := (HB.out.cell (World.block_lt_of_cell? w _ hx296_10)).trans hx296_10
            replace hx296_11 := (HB.out.cell (World.block_lt_of_cell? w _ hx296_11)).trans hx296_11
            replace p296 := eq_true p296
            replace q296 := eq_true q296
            have hcz10_0 : wr.cell? ⟨gb294, 0, none⟩ = some (.string x295000_1) := (blk_cell BK294.out 0).trans rfl
            have hcz10_1 : wr.cell? ⟨gb294, 1, none⟩ = some (.string x295001_1) := (blk_cell BK294.out 1).trans rfl
            have hcz10_2 : wr.cell? ⟨gb294, 2, none⟩ = some (.string x295002_1) := (blk_cell BK294.out 2).trans rfl
            have hcz10_3 : wr.cell? ⟨gb294, 3, none⟩ = some (.string x295003_1) := (blk_cell BK294.out 3).trans rfl
            have hcz10_4 : wr.cell? ⟨gb294, 4, none⟩ = some (.string x295004_1) := (blk_cell BK294.out 4).trans rfl
            have hcz10_5 : wr.cell? ⟨gb294, 5, none⟩ = some (.string x295005_1) := (blk_cell BK294.out 5).trans rfl
            have hcz10_6 : wr.cell? ⟨gb294, 6, none⟩ = some (.string x295006_1) := (blk_cell BK294.out 6).trans rfl
            have hcz10_7 : wr.cell? ⟨gb294, 7, none⟩ = some (.string x295007_1) := (blk_cell BK294.out 7).trans rfl
            have hcz10_8 : wr.cell? ⟨gb294, 8, none⟩ = some (.string x295008_1) := (blk_cell BK294.out 8).trans rfl
            have hcz10_9 : wr.cell? ⟨gb294, 9, none⟩ = some (.int .i64 x295009_1) := (blk_cell BK294.out 9).trans rfl
            have hcz10_10 : wr.cell? ⟨gb294, 10, none⟩ = some (.int .i64 x295010_1) := (blk_cell BK294.out 10).trans rfl
            have hcz10_11 : wr.cell? ⟨gb294, 11, none⟩ = some (.int .i64 x295011_1) := (blk_cell BK294.out 11).trans rfl
            have hfz10_0 := blk_frozen BK294.out 0
            have hfz10_1 := blk_frozen BK294.out 1
            have hfz10_2 := blk_frozen BK294.out 2
            have hfz10_3 := blk_frozen BK294.out 3
            have hfz10_4 := blk_frozen BK294.out 4
            have hfz10_5 := blk_frozen BK294.out 5
            have hfz10_6 := blk_frozen BK294.out 6
            have hfz10_7 := blk_frozen BK294.out 7
            have hfz10_8 := blk_frozen BK294.out 8
            have hfz10_9 := blk_frozen BK294.out 9
            have hfz10_10 := blk_frozen BK294.out 10
            have hfz10_11 := blk_frozen BK294.out 11
            go_wp2
            refine bodyPost_ret (results_ct rfl _ _ gb294 24 #[.string ((rd_T24 l0_32 x6_1).f0), .string ((rd_T24 l0_32 x6_1).f1), .string ((rd_T24 l0_32 x6_1).f2), .string ((rd_T24 l0_32 x6_1).f3.f0), .string ((rd_T24 l0_32 x6_1).f3.f1), .string ((rd_T24 l0_32 x6_1).f3.f2), .string ((rd_T24 l0_32 x6_1).f3.f3), .string ((rd_T24 l0_32 x6_1).f3.f4), .string ((rd_T24 l0_32 x6_1).f3.f5), .int .i64 ((rd_T24 l0_32 x6_1).f4), .int .i64 ((rd_T24 l0_32 x6_1).f5), .int .i64 ((rd_T24 l0_32 x6_1).f6)] (0, 0) _ rfl (by (with_reducible repeat (first | refine blk_drewN ?_ _ | refine blk_drew ?_ | refine blk_alloc ?_ _)); refine blk_put (cs := #[.string ((rd_T24 l0_32 x6_1).f0), .string ((rd_T24 l0_32 x6_1).f1), .string ((rd_T24 l0_32 x6_1).f2), .string ((rd_T24 l0_32 x6_1).f3.f0), .string ((rd_T24 l0_32 x6_1).f3.f1), .string ((rd_T24 l0_32 x6_1).f3.f2), .string ((rd_T24 l0_32 x6_1).f3.f3), .string ((rd_T24 l0_32 x6_1).f3.f4), .string ((rd_T24 l0_32 x6_1).f3.f5), .int .i64 ((rd_T24 l0_32 x6_1).f4), .int .i64 ((rd_T24 l0_32 x6_1).f5), .int .i64 x295011_1]) ?_ 11 _ rfl; (with_reducible repeat (first | refine blk_drewN ?_ _ | refine blk_drew ?_ | refine blk_alloc ?_ _)); refine blk_put (cs := #[.string ((rd_T24 l0_32 x6_1).f0), .string ((rd_T24 l0_32 x6_1).f1), .string ((rd_T24 l0_32 x6_1).f2), .string ((rd_T24 l0_32 x6_1).f3.f0), .string ((rd_T24 l0_32 x6_1).f3.f1), .string ((rd_T24 l0_32 x6_1).f3.f2), .string ((rd_T24 l0_32 x6_1).f3.f3), .string ((rd_T24 l0_32 x6_1).f3.f4), .string ((rd_T24 l0_32 x6_1).f3.f5), .int .i64 ((rd_T24 l0_32 x6_1).f4), .int .i64 x295010_1, .int .i64 x295011_1]) ?_ 10 _ rfl; (with_reducible repeat (first | refine blk_drewN ?_ _ | refine blk_drew ?_ | refine blk_alloc ?_ _)); refine blk_put (cs := #[.string ((rd_T24 l0_32 x6_1).f0), .string ((rd_T24 l0_32 x6_1).f1), .string ((rd_T24 l0_32 x6_1).f2), .string ((rd_T24 l0_32 x6_1).f3.f0), .string ((rd_T24 l0_32 x6_1).f3.f1), .string ((rd_T24 l0_32 x6_1).f3.f2), .string ((rd_T24 l0_32 x6_1).f3.f3), .string ((rd_T24 l0_32 x6_1).f3.f4), .string ((rd_T24 l0_32 x6_1).f3.f5), .int .i64 x295009_1, .int .i64 x295010_1, .int .i64 x295011_1]) ?_ 9 _ rfl; (with_reducible repeat (first | refine blk_drewN ?_ _ | refine blk_drew ?_ | refine blk_alloc ?_ _)); refine blk_put (cs := #[.string ((rd_T24 l0_32 x6_1).f0), .string ((rd_T24 l0_32 x6_1).f1), .string ((rd_T24 l0_32 x6_1).f2), .string ((rd_T24 l0_32 x6_1).f3.f0), .string ((rd_T24 l0_32 x6_1).f3.f1), .string ((rd_T24 l0_32 x6_1).f3.f2), .string ((rd_T24 l0_32 x6_1).f3.f3), .string ((rd_T24 l0_32 x6_1).f3.f4), .string x295008_1, .int .i64 x295009_1, .int .i64 x295010_1, .int .i64 x295011_1]) ?_ 8 _ rfl; (with_reducible repeat (first | refine blk_drewN ?_ _ | refine blk_drew ?_ | refine blk_alloc ?_ _)); refine blk_put (cs := #[.string ((rd_T24 l0_32 x6_1).f0), .string ((rd_T24 l0_32 x6_1).f1), .string ((rd_T24 l0_32 x6_1).f2), .string ((rd_T24 l0_32 x6_1).f3.f0), .string ((rd_T24 l0_32 x6_1).f3.f1), .string ((rd_T24 l0_32 x6_1).f3.f2), .string ((rd_T24 l0_32 x6_1).f3.f3), .string x295007_1, .string x295008_1, .int .i64 x295009_1, .int .i64 x295010_1, .int .i64 x295011_1]) ?_ 7 _ rfl; (with_reducible repeat (first | refine blk_drewN ?_ _ | refine blk_drew ?_ | refine blk_alloc ?_ _)); refine blk_put (cs := #[.string ((rd_T24 l0_32 x6_1).f0), .string ((rd_T24 l0_32 x6_1).f1), .string ((rd_T24 l0_32 x6_1).f2), .string ((rd_T24 l0_32 x6_1).f3.f0), .string ((rd_T24 l0_32 x6_1).f3.f1), .string ((rd_T24 l0_32 x6_1).f3.f2), .string x295006_1, .string x295007_1, .string x295008_1, .int .i64 x295009_1, .int .i64 x295010_1, .int .i64 x295011_1]) ?_ 6 _ rfl; (with_reducible repeat (first | refine blk_drewN ?_ _ | refine blk_drew ?_ | refine blk_alloc ?_ _)); refine blk_put (cs := #[.string ((rd_T24 l0_32 x6_1).f0), .string ((rd_T24 l0_32 x6_1).f1), .string ((rd_T24 l0_32 x6_1).f2), .string ((rd_T24 l0_32 x6_1).f3.f0), .string ((rd_T24 l0_32 x6_1).f3.f1), .string x295005_1, .string x295006_1, .string x295007_1, .string x295008_1, .int .i64 x295009_1, .int .i64 x295010_1, .int .i64 x295011_1]) ?_ 5 _ rfl; (with_reducible repeat (first | refine blk_drewN ?_ _ | refine blk_drew ?_ | refine blk_alloc ?_ _)); refine blk_put (cs := #[.string ((rd_T24 l0_32 x6_1).f0), .string ((rd_T24 l0_32 x6_1).f1), .string ((rd_T24 l0_32 x6_1).f2), .string ((rd_T24 l0_32 x6_1).f3.f0), .string x295004_1, .string x295005_1, .string x295006_1, .string x295007_1, .string x295008_1, .int .i64 x295009_1, .int .i64 x295010_1, .int .i64 x295011_1]) ?_ 4 _ rfl; (with_reducible repeat (first | refine blk_drewN ?_ _ | refine blk_drew ?_ | refine blk_alloc ?_ _)); refine blk_put (cs := #[.string ((rd_T24 l0_32 x6_1).f0), .string ((rd_T24 l0_32 x6_1).f1), .string ((rd_T24 l0_32 x6_1).f2), .string x295003_1, .string x295004_1, .string x295005_1, .string x295006_1, .string x295007_1, .string x295008_1, .int .i64 x295009_1, .int .i64 x295010_1, .int .i64 x295011_1]) ?_ 3 _ rfl; (with_reducible repeat (first | refine blk_drewN ?_ _ | refine blk_drew ?_ | refine blk_alloc ?_ _)); refine blk_put (cs := #[.string ((rd_T24 l0_32 x6_1).f0), .string ((rd_T24 l0_32 x6_1).f1), .string x295002_1, .string x295003_1, .string x295004_1, .string x295005_1, .string x295006_1, .string x295007_1, .string x295008_1, .int .i64 x295009_1, .int .i64 x295010_1, .int .i64 x295011_1]) ?_ 2 _ rfl; (with_reducible repeat (first | refine blk_drewN ?_ _ | refine blk_drew ?_ | refine blk_alloc ?_ _)); refine blk_put (cs := #[.string ((rd_T24 l0_32 x6_1).f0), .string x295001_1, .string x295002_1, .string x295003_1, .string x295004_1, .string x295005_1, .string x295006_1, .string x295007_1, .string x295008_1, .int .i64 x295009_1, .int .i64 x295010_1, .int .i64 x295011_1]) ?_ 1 _ rfl; (with_reducible repeat (first | refine blk_drewN ?_ _ | refine blk_drew ?_ | refine blk_alloc ?_ _)); refine blk_put (cs := #[.string x295000_1, .string x295001_1, .string x295002_1, .string x295003_1, .string x295004_1, .string x295005_1, .string x295006_1, .string x295007_1, .string x295008_1, .int .i64 x295009_1, .int .i64 x295010_1, .int .i64 x295011_1]) ?_ 0 _ rfl; (with_reducible repeat (first | refine blk_drewN ?_ _ | refine blk_drew ?_ | refine blk_alloc ?_ _)); exact BK294.out) Tryd.underlying24 rfl (by kernel_rfl)) rfl ?_
            exact ⟨by first | rfl | (simp [errW_none, errW_some] <;> rfl) | (simp [*, errW_none, errW_some] <;> rfl) | (simp only [ne_nil_b]; first | done | rfl) | (simp [ne_nil_b]; done), by repeat (first | (with_reducible first | exact HB.out | apply below_alloc | apply pw_below_drewN | apply below_drew1 | refine below_set ?_ GE293.out | refine below_set ?_ GE294.out) | exact HB.out)⟩
          · rw [if_neg c7] at H
            have c7b0 : (((rd_T24 l0_32 x6_1).f0).toList == a1.toList) = false := beq_eq_false_iff_ne.mpr c7
            have c7b1 : (((rd_T24 l0_32 x6_1).f0).toList != a1.toList) = true := bne_iff_ne.mpr c7
            have H' := Aside0.mk H
            clear H
            have hnb11 := NB293_294.out
            have hnc11 := NB294_293.out
            have hcz12_0 : wr.cell? ⟨gb293, 0, none⟩ = some (.string a0_0) := (blk_cell BK293.out 0).trans rfl
            have hcz12_1 : wr.cell? ⟨gb293, 1, none⟩ = some (.string a0_1) := (blk_cell BK293.out 1).trans rfl
            have hcz12_2 : wr.cell? ⟨gb293, 2, none⟩ = some (.string a0_2) := (blk_cell BK293.out 2).trans rfl
            have hcz12_3 : wr.cell? ⟨gb293, 3, none⟩ = some (.string a0_3) := (blk_cell BK293.out 3).trans rfl
            have hcz12_4 : wr.cell? ⟨gb293, 4, none⟩ = some (.string a0_4) := (blk_cell BK293.out 4).trans rfl
            have hcz12_5 : wr.cell? ⟨gb293, 5, none⟩ = some (.string a0_5) := (blk_cell BK293.out 5).trans rfl
            have hcz12_6 : wr.cell? ⟨gb293, 6, none⟩ = some (.string a0_6) := (blk_cell BK293.out 6).trans rfl
            have hcz12_7 : wr.cell? ⟨gb293, 7, none⟩ = some (.string a0_7) := (blk_cell BK293.out 7).trans rfl
            have hcz12_8 : wr.cell? ⟨gb293, 8, none⟩ = some (.string a0_8) := (blk_cell BK293.out 8).trans rfl
            have hcz12_9 : wr.cell? ⟨gb293, 9, none⟩ = some (.string a0_9) := (blk_cell BK293.out 9).trans rfl
            have hcz12_10 : wr.cell? ⟨gb293, 10, none⟩ = some (.string a0_10) := (blk_cell BK293.out 10).trans rfl
            have hcz12_11 : wr.cell? ⟨gb293, 11, none⟩ = some (.string a0_11) := (blk_cell BK293.out 11).trans rfl
            have hcz12_12 : wr.cell? ⟨gb293, 12, none⟩ = some (.string a0_12) := (blk_cell BK293.out 12).trans rfl
            have hcz12_13 : wr.cell? ⟨gb293, 13, none⟩ = some (.string a0_13) := (blk_cell BK293.out 13).trans rfl
            have hcz12_14 : wr.cell? ⟨gb293, 14, none⟩ = some (.string a0_14) := (blk_cell BK293.out 14).trans rfl
            have hcz12_15 : wr.cell? ⟨gb293, 15, none⟩ = some (.string a0_15) := (blk_cell BK293.out 15).trans rfl
            have hcz12_16 : wr.cell? ⟨gb293, 16, none⟩ = some (.string a0_16) := (blk_cell BK293.out 16).trans rfl
            have hcz12_17 : wr.cell? ⟨gb293, 17, none⟩ = some (.string a0_17) := (blk_cell BK293.out 17).trans rfl
            have hcz12_18 : wr.cell? ⟨gb293, 18, none⟩ = some (.string a0_18) := (blk_cell BK293.out 18).trans rfl
            have hcz12_19 : wr.cell? ⟨gb293, 19, none⟩ = some (.string a0_19) := (blk_cell BK293.out 19).trans rfl
            have hcz12_20 : wr.cell? ⟨gb293, 20, none⟩ = some (.string a0_20) := (blk_cell BK293.out 20).trans rfl
            have hcz12_21 : wr.cell? ⟨gb293, 21, none⟩ = some (.string a0_21) := (blk_cell BK293.out 21).trans rfl
            have hcz12_22 : wr.cell? ⟨gb293, 22, none⟩ = some (.int .i64 a0_22) := (blk_cell BK293.out 22).trans rfl
            have hcz12_23 : wr.cell? ⟨gb293, 23, none⟩ = some (.string a0_23) := (blk_cell BK293.out 23).trans rfl
            have hcz12_24 : wr.cell? ⟨gb293, 24, none⟩ = some (.string a0_24) := (blk_cell BK293.out 24).trans rfl
            have hcz12_25 : wr.cell? ⟨gb293, 25, none⟩ = some (.string a0_25) := (blk_cell BK293.out 25).trans rfl
            have hcz12_26 : wr.cell? ⟨gb293, 26, none⟩ = some (.string a0_26) := (blk_cell BK293.out 26).trans rfl
            have hcz12_27 : wr.cell? ⟨gb293, 27, none⟩ = some (.string a0_27) := (blk_cell BK293.out 27).trans rfl
            have hcz12_28 : wr.cell? ⟨gb293, 28, none⟩ = some (.string a0_28) := (blk_cell BK293.out 28).trans rfl
            have hcz12_29 : wr.cell? ⟨gb293, 29, none⟩ = some (.string a0_29) := (blk_cell BK293.out 29).trans rfl
            have hcz12_30 : wr.cell? ⟨gb293, 30, none⟩ = some (.slice A0_30 l0_30.length c0_30) := (blk_cell BK293.out 30).trans rfl
            have hcz12_31 : wr.cell? ⟨gb293, 31, none⟩ = some (.slice A0_31 l0_31.length c0_31) := (blk_cell BK293.out 31).trans rfl
            have hcz12_32 : wr.cell? ⟨gb293, 32, none⟩ = some (.slice A0_32 l0_32.length c0_32) := (blk_cell BK293.out 32).trans rfl
            have hcz12_33 : wr.cell? ⟨gb293, 33, none⟩ = some (.slice A0_33 l0_33.length c0_33) := (blk_cell BK293.out 33).trans rfl
            have hcz12_34 : wr.cell? ⟨gb293, 34, none⟩ = some (.string a0_34) := (blk_cell BK293.out 34).trans rfl
            have hfz12_0 := blk_frozen BK293.out 0
            have hfz12_1 := blk_frozen BK293.out 1
            have hfz12_2 := blk_frozen BK293.out 2
            have hfz12_3 := blk_frozen BK293.out 3
            have hfz12_4 := blk_frozen BK293.out 4
            have hfz12_5 := blk_frozen BK293.out 5
            have hfz12_6 := blk_frozen BK293.out 6
            have hfz12_7 := blk_frozen BK293.out 7
            have hfz12_8 := blk_frozen BK293.out 8
            have hfz12_9 := blk_frozen BK293.out 9
            have hfz12_10 := blk_frozen BK293.out 10
            have hfz12_11 := blk_frozen BK293.out 11
            have hfz12_12 := blk_frozen BK293.out 12
            have hfz12_13 := blk_frozen BK293.out 13
            have hfz12_14 := blk_frozen BK293.out 14
            have hfz12_15 := blk_frozen BK293.out 15
            have hfz12_16 := blk_frozen BK293.out 16
            have hfz12_17 := blk_frozen BK293.out 17
            have hfz12_18 := blk_frozen BK293.out 18
            have hfz12_19 := blk_frozen BK293.out 19
            have hfz12_20 := blk_frozen BK293.out 20
            have hfz12_21 := blk_frozen BK293.out 21
            have hfz12_22 := blk_frozen BK293.out 22
            have hfz12_23 := blk_frozen BK293.out 23
            have hfz12_24 := blk_frozen BK293.out 24
            have hfz12_25 := blk_frozen BK293.out 25
            have hfz12_26 := blk_frozen BK293.out 26
            have hfz12_27 := blk_frozen BK293.out 27
            have hfz12_28 := blk_frozen BK293.out 28
            have hfz12_29 := blk_frozen BK293.out 29
            have hfz12_30 := blk_frozen BK293.out 30
            have hfz12_31 := blk_frozen BK293.out 31
            have hfz12_32 := blk_frozen BK293.out 32
            have hfz12_33 := blk_frozen BK293.out 33
            have hfz12_34 := blk_frozen BK293.out 34
            have p295 : 0 ≤ (x6_1 : Int) := of_decide_eq_true (by first | (with_reducible assumption) | assumption)
            have q295 : x6_1 < (l0_32.length : Int) := of_decide_eq_true (by first | (with_reducible assumption) | assumption)
            obtain ⟨ad295, e295, hx295_0, hx295_1, hx295_2, hx295_3, hx295_4, hx295_5, hx295_6, hx295_7, hx295_8, hx295_9, hx295_10, hx295_11⟩ := at_T24 HR0_32.out x6_1 p295 q295
            cases e295
            replace hx295_0 := (HB.out.cell (World.block_lt_of_cell? w _ hx295_0)).trans hx295_0
            replace hx295_1 := (HB.out.cell (World.block_lt_of_cell? w _ hx295_1)).trans hx295_1
            replace hx295_2 := (HB.out.cell (World.block_lt_of_cell? w _ hx295_2)).trans hx295_2
            replace hx295_3 := (HB.out.cell (World.block_lt_of_cell? w _ hx295_3)).trans hx295_3
            replace hx295_4 := (HB.out.cell (World.block_lt_of_cell? w _ hx295_4)).trans hx295_4
            replace hx295_5 := (HB.out.cell (World.block_lt_of_cell? w _ hx295_5)).trans hx295_5
            replace hx295_6 := (HB.out.cell (World.block_lt_of_cell? w _ hx295_6)).trans hx295_6
            replace hx295_7 := (HB.out.cell (World.block_lt_of_cell? w _ hx295_7)).trans hx295_7
            replace hx295_8 := (HB.out.cell (World.block_lt_of_cell? w _ hx295_8)).trans hx295_8
            replace hx295_9 := (HB.out.cell (World.block_lt_of_cell? w _ hx295_9)).trans hx295_9
            replace hx295_10 := (HB.out.cell (World.block_lt_of_cell? w _ hx295_10)).trans hx295_10
            replace hx295_11 := (HB.out.cell (World.block_lt_of_cell? w _ hx295_11)).trans hx295_11
            replace p295 := eq_true p295
            replace q295 := eq_true q295
            go_wp2
            go_roundg k1
            case measure => have := HK1.out; omega
            case rel => exact ⟨(wrap64 (x6_1 + 1)), (x295000_1), (x295001_1), (x295002_1), (x295003_1), (x295004_1), (x295005_1), (x295006_1), (x295007_1), (x295008_1), (x295009_1), (x295010_1), (x295011_1), (by first | rfl | (simp; done) | (simp [*]; done)), H', ⟨by have := HK1.out; omega⟩, ⟨by (with_reducible repeat (first | refine blk_drewN ?_ _ | refine blk_drew ?_ | refine blk_alloc ?_ _)); exact BK293.out⟩, ⟨by (with_reducible repeat (first | refine blk_drewN ?_ _ | refine blk_drew ?_ | refine blk_alloc ?_ _)); exact BK294.out⟩, ⟨by repeat (first | (with_reducible first | exact HB.out | apply below_alloc | apply pw_below_drewN | apply below_drew1 | refine below_set ?_ GE293.out | refine below_set ?_ GE294.out) | exact HB.out)⟩⟩
        · rw [if_neg c6] at H
          exact absurd H (by simp)
      · rw [if_neg c5] at H
        have c5b0 : decide (x6_1 < (l0_32.length : Int)) = false := decide_eq_false c5
        clear c5
        simp only [Option.some.injEq, Prod.mk.injEq] at H
        obtain ⟨rfl, rfl, rfl, rfl, rfl, rfl, rfl, rfl, rfl, rfl, rfl, rfl, rfl⟩ := H
        have hnb13 := NB293_294.out
        have hnc13 := NB294_293.out
        have hcz14_0 : wr.cell? ⟨gb293, 0, none⟩ = some (.string a0_0) := (blk_cell BK293.out 0).trans rfl
        have hcz14_1 : wr.cell? ⟨gb293, 1, none⟩ = some (.string a0_1) := (blk_cell BK293.out 1).trans rfl
        have hcz14_2 : wr.cell? ⟨gb293, 2, none⟩ = some (.string a0_2) := (blk_cell BK293.out 2).trans rfl
        have hcz14_3 : wr.cell? ⟨gb293, 3, none⟩ = some (.string a0_3) := (blk_cell BK293.out 3).trans rfl
        have hcz14_4 : wr.cell? ⟨gb293, 4, none⟩ = some (.string a0_4) := (blk_cell BK293.out 4).trans rfl
        have hcz14_5 : wr.cell? ⟨gb293, 5, none⟩ = some (.string a0_5) := (blk_cell BK293.out 5).trans rfl
        have hcz14_6 : wr.cell? ⟨gb293, 6, none⟩ = some (.string a0_6) := (blk_cell BK293.out 6).trans rfl
        have hcz14_7 : wr.cell? ⟨gb293, 7, none⟩ = some (.string a0_7) := (blk_cell BK293.out 7).trans rfl
        have hcz14_8 : wr.cell? ⟨gb293, 8, none⟩ = some (.string a0_8) := (blk_cell BK293.out 8).trans rfl
        have hcz14_9 : wr.cell? ⟨gb293, 9, none⟩ = some (.string a0_9) := (blk_cell BK293.out 9).trans rfl
        have hcz14_10 : wr.cell? ⟨gb293, 10, none⟩ = some (.string a0_10) := (blk_cell BK293.out 10).trans rfl
        have hcz14_11 : wr.cell? ⟨gb293, 11, none⟩ = some (.string a0_11) := (blk_cell BK293.out 11).trans rfl
        have hcz14_12 : wr.cell? ⟨gb293, 12, none⟩ = some (.string a0_12) := (blk_cell BK293.out 12).trans rfl
        have hcz14_13 : wr.cell? ⟨gb293, 13, none⟩ = some (.string a0_13) := (blk_cell BK293.out 13).trans rfl
        have hcz14_14 : wr.cell? ⟨gb293, 14, none⟩ = some (.string a0_14) := (blk_cell BK293.out 14).trans rfl
        have hcz14_15 : wr.cell? ⟨gb293, 15, none⟩ = some (.string a0_15) := (blk_cell BK293.out 15).trans rfl
        have hcz14_16 : wr.cell? ⟨gb293, 16, none⟩ = some (.string a0_16) := (blk_cell BK293.out 16).trans rfl
        have hcz14_17 : wr.cell? ⟨gb293, 17, none⟩ = some (.string a0_17) := (blk_cell BK293.out 17).trans rfl
        have hcz14_18 : wr.cell? ⟨gb293, 18, none⟩ = some (.string a0_18) := (blk_cell BK293.out 18).trans rfl
        have hcz14_19 : wr.cell? ⟨gb293, 19, none⟩ = some (.string a0_19) := (blk_cell BK293.out 19).trans rfl
        have hcz14_20 : wr.cell? ⟨gb293, 20, none⟩ = some (.string a0_20) := (blk_cell BK293.out 20).trans rfl
        have hcz14_21 : wr.cell? ⟨gb293, 21, none⟩ = some (.string a0_21) := (blk_cell BK293.out 21).trans rfl
        have hcz14_22 : wr.cell? ⟨gb293, 22, none⟩ = some (.int .i64 a0_22) := (blk_cell BK293.out 22).trans rfl
        have hcz14_23 : wr.cell? ⟨gb293, 23, none⟩ = some (.string a0_23) := (blk_cell BK293.out 23).trans rfl
        have hcz14_24 : wr.cell? ⟨gb293, 24, none⟩ = some (.string a0_24) := (blk_cell BK293.out 24).trans rfl
        have hcz14_25 : wr.cell? ⟨gb293, 25, none⟩ = some (.string a0_25) := (blk_cell BK293.out 25).trans rfl
        have hcz14_26 : wr.cell? ⟨gb293, 26, none⟩ = some (.string a0_26) := (blk_cell BK293.out 26).trans rfl
        have hcz14_27 : wr.cell? ⟨gb293, 27, none⟩ = some (.string a0_27) := (blk_cell BK293.out 27).trans rfl
        have hcz14_28 : wr.cell? ⟨gb293, 28, none⟩ = some (.string a0_28) := (blk_cell BK293.out 28).trans rfl
        have hcz14_29 : wr.cell? ⟨gb293, 29, none⟩ = some (.string a0_29) := (blk_cell BK293.out 29).trans rfl
        have hcz14_30 : wr.cell? ⟨gb293, 30, none⟩ = some (.slice A0_30 l0_30.length c0_30) := (blk_cell BK293.out 30).trans rfl
        have hcz14_31 : wr.cell? ⟨gb293, 31, none⟩ = some (.slice A0_31 l0_31.length c0_31) := (blk_cell BK293.out 31).trans rfl
        have hcz14_32 : wr.cell? ⟨gb293, 32, none⟩ = some (.slice A0_32 l0_32.length c0_32) := (blk_cell BK293.out 32).trans rfl
        have hcz14_33 : wr.cell? ⟨gb293, 33, none⟩ = some (.slice A0_33 l0_33.length c0_33) := (blk_cell BK293.out 33).trans rfl
        have hcz14_34 : wr.cell? ⟨gb293, 34, none⟩ = some (.string a0_34) := (blk_cell BK293.out 34).trans rfl
        have hfz14_0 := blk_frozen BK293.out 0
        have hfz14_1 := blk_frozen BK293.out 1
        have hfz14_2 := blk_frozen BK293.out 2
        have hfz14_3 := blk_frozen BK293.out 3
        have hfz14_4 := blk_frozen BK293.out 4
        have hfz14_5 := blk_frozen BK293.out 5
        have hfz14_6 := blk_frozen BK293.out 6
        have hfz14_7 := blk_frozen BK293.out 7
        have hfz14_8 := blk_frozen BK293.out 8
        have hfz14_9 := blk_frozen BK293.out 9
        have hfz14_10 := blk_frozen BK293.out 10
        have hfz14_11 := blk_frozen BK293.out 11
        have hfz14_12 := blk_frozen BK293.out 12
        have hfz14_13 := blk_frozen BK293.out 13
        have hfz14_14 := blk_frozen BK293.out 14
        have hfz14_15 := blk_frozen BK293.out 15
        have hfz14_16 := blk_frozen BK293.out 16
        have hfz14_17 := blk_frozen BK293.out 17
        have hfz14_18 := blk_frozen BK293.out 18
        have hfz14_19 := blk_frozen BK293.out 19
        have hfz14_20 := blk_frozen BK293.out 20
        have hfz14_21 := blk_frozen BK293.out 21
        have hfz14_22 := blk_frozen BK293.out 22
        have hfz14_23 := blk_frozen BK293.out 23
        have hfz14_24 := blk_frozen BK293.out 24
        have hfz14_25 := blk_frozen BK293.out 25
        have hfz14_26 := blk_frozen BK293.out 26
        have hfz14_27 := blk_frozen BK293.out 27
        have hfz14_28 := blk_frozen BK293.out 28
        have hfz14_29 := blk_frozen BK293.out 29
        have hfz14_30 := blk_frozen BK293.out 30
        have hfz14_31 := blk_frozen BK293.out 31
        have hfz14_32 := blk_frozen BK293.out 32
        have hfz14_33 := blk_frozen BK293.out 33
        have hfz14_34 := blk_frozen BK293.out 34
        have hcz15_0 : wr.cell? ⟨gb294, 0, none⟩ = some (.string x295000_1) := (blk_cell BK294.out 0).trans rfl
        have hcz15_1 : wr.cell? ⟨gb294, 1, none⟩ = some (.string x295001_1) := (blk_cell BK294.out 1).trans rfl
        have hcz15_2 : wr.cell? ⟨gb294, 2, none⟩ = some (.string x295002_1) := (blk_cell BK294.out 2).trans rfl
        have hcz15_3 : wr.cell? ⟨gb294, 3, none⟩ = some (.string x295003_1) := (blk_cell BK294.out 3).trans rfl
        have hcz15_4 : wr.cell? ⟨gb294, 4, none⟩ = some (.string x295004_1) := (blk_cell BK294.out 4).trans rfl
        have hcz15_5 : wr.cell? ⟨gb294, 5, none⟩ = some (.string x295005_1) := (blk_cell BK294.out 5).trans rfl
        have hcz15_6 : wr.cell? ⟨gb294, 6, none⟩ = some (.string x295006_1) := (blk_cell BK294.out 6).trans rfl
        have hcz15_7 : wr.cell? ⟨gb294, 7, none⟩ = some (.string x295007_1) := (blk_cell BK294.out 7).trans rfl
        have hcz15_8 : wr.cell? ⟨gb294, 8, none⟩ = some (.string x295008_1) := (blk_cell BK294.out 8).trans rfl
        have hcz15_9 : wr.cell? ⟨gb294, 9, none⟩ = some (.int .i64 x295009_1) := (blk_cell BK294.out 9).trans rfl
        have hcz15_10 : wr.cell? ⟨gb294, 10, none⟩ = some (.int .i64 x295010_1) := (blk_cell BK294.out 10).trans rfl
        have hcz15_11 : wr.cell? ⟨gb294, 11, none⟩ = some (.int .i64 x295011_1) := (blk_cell BK294.out 11).trans rfl
        have hfz15_0 := blk_frozen BK294.out 0
        have hfz15_1 := blk_frozen BK294.out 1
        have hfz15_2 := blk_frozen BK294.out 2
        have hfz15_3 := blk_frozen BK294.out 3
        have hfz15_4 := blk_frozen BK294.out 4
        have hfz15_5 := blk_frozen BK294.out 5
        have hfz15_6 := blk_frozen BK294.out 6
        have hfz15_7 := blk_frozen BK294.out 7
        have hfz15_8 := blk_frozen BK294.out 8
        have hfz15_9 := blk_frozen BK294.out 9
        have hfz15_10 := blk_frozen BK294.out 10
        have hfz15_11 := blk_frozen BK294.out 11
        go_wp2
        refine bodyPost_ret (results_ct rfl _ _ gb294 24 #[.string (⟨#[]⟩ : ByteArray), .string (⟨#[]⟩ : ByteArray), .string (⟨#[]⟩ : ByteArray), .string (⟨#[]⟩ : ByteArray), .string (⟨#[]⟩ : ByteArray), .string (⟨#[]⟩ : ByteArray), .string (⟨#[]⟩ : ByteArray), .string (⟨#[]⟩ : ByteArray), .string (⟨#[]⟩ : ByteArray), .int .i64 0, .int .i64 0, .int .i64 0] (0, 0) _ rfl (by (with_reducible repeat (first | refine blk_drewN ?_ _ | refine blk_drew ?_ | refine blk_alloc ?_ _)); refine blk_put (cs := #[.string (⟨#[]⟩ : ByteArray), .string (⟨#[]⟩ : ByteArray), .string (⟨#[]⟩ : ByteArray), .string (⟨#[]⟩ : ByteArray), .string (⟨#[]⟩ : ByteArray), .string (⟨#[]⟩ : ByteArray), .string (⟨#[]⟩ : ByteArray), .string (⟨#[]⟩ : ByteArray), .string (⟨#[]⟩ : ByteArray), .int .i64 0, .int .i64 0, .int .i64 x295011_1]) ?_ 11 _ rfl; (with_reducible repeat (first | refine blk_drewN ?_ _ | refine blk_drew ?_ | refine blk_alloc ?_ _)); refine blk_put (cs := #[.string (⟨#[]⟩ : ByteArray), .string (⟨#[]⟩ : ByteArray), .string (⟨#[]⟩ : ByteArray), .string (⟨#[]⟩ : ByteArray), .string (⟨#[]⟩ : ByteArray), .string (⟨#[]⟩ : ByteArray), .string (⟨#[]⟩ : ByteArray), .string (⟨#[]⟩ : ByteArray), .string (⟨#[]⟩ : ByteArray), .int .i64 0, .int .i64 x295010_1, .int .i64 x295011_1]) ?_ 10 _ rfl; (with_reducible repeat (first | refine blk_drewN ?_ _ | refine blk_drew ?_ | refine blk_alloc ?_ _)); refine blk_put (cs := #[.string (⟨#[]⟩ : ByteArray), .string (⟨#[]⟩ : ByteArray), .string (⟨#[]⟩ : ByteArray), .string (⟨#[]⟩ : ByteArray), .string (⟨#[]⟩ : ByteArray), .string (⟨#[]⟩ : ByteArray), .string (⟨#[]⟩ : ByteArray), .string (⟨#[]⟩ : ByteArray), .string (⟨#[]⟩ : ByteArray), .int .i64 x295009_1, .int .i64 x295010_1, .int .i64 x295011_1]) ?_ 9 _ rfl; (with_reducible repeat (first | refine blk_drewN ?_ _ | refine blk_drew ?_ | refine blk_alloc ?_ _)); refine blk_put (cs := #[.string (⟨#[]⟩ : ByteArray), .string (⟨#[]⟩ : ByteArray), .string (⟨#[]⟩ : ByteArray), .string (⟨#[]⟩ : ByteArray), .string (⟨#[]⟩ : ByteArray), .string (⟨#[]⟩ : ByteArray), .string (⟨#[]⟩ : ByteArray), .string (⟨#[]⟩ : ByteArray), .string x295008_1, .int .i64 x295009_1, .int .i64 x295010_1, .int .i64 x295011_1]) ?_ 8 _ rfl; (with_reducible repeat (first | refine blk_drewN ?_ _ | refine blk_drew ?_ | refine blk_alloc ?_ _)); refine blk_put (cs := #[.string (⟨#[]⟩ : ByteArray), .string (⟨#[]⟩ : ByteArray), .string (⟨#[]⟩ : ByteArray), .string (⟨#[]⟩ : ByteArray), .string (⟨#[]⟩ : ByteArray), .string (⟨#[]⟩ : ByteArray), .string (⟨#[]⟩ : ByteArray), .string x295007_1, .string x295008_1, .int .i64 x295009_1, .int .i64 x295010_1, .int .i64 x295011_1]) ?_ 7 _ rfl; (with_reducible repeat (first | refine blk_drewN ?_ _ | refine blk_drew ?_ | refine blk_alloc ?_ _)); refine blk_put (cs := #[.string (⟨#[]⟩ : ByteArray), .string (⟨#[]⟩ : ByteArray), .string (⟨#[]⟩ : ByteArray), .string (⟨#[]⟩ : ByteArray), .string (⟨#[]⟩ : ByteArray), .string (⟨#[]⟩ : ByteArray), .string x295006_1, .string x295007_1, .string x295008_1, .int .i64 x295009_1, .int .i64 x295010_1, .int .i64 x295011_1]) ?_ 6 _ rfl; (with_reducible repeat (first | refine blk_drewN ?_ _ | refine blk_drew ?_ | refine blk_alloc ?_ _)); refine blk_put (cs := #[.string (⟨#[]⟩ : ByteArray), .string (⟨#[]⟩ : ByteArray), .string (⟨#[]⟩ : ByteArray), .string (⟨#[]⟩ : ByteArray), .string (⟨#[]⟩ : ByteArray), .string x295005_1, .string x295006_1, .string x295007_1, .string x295008_1, .int .i64 x295009_1, .int .i64 x295010_1, .int .i64 x295011_1]) ?_ 5 _ rfl; (with_reducible repeat (first | refine blk_drewN ?_ _ | refine blk_drew ?_ | refine blk_alloc ?_ _)); refine blk_put (cs := #[.string (⟨#[]⟩ : ByteArray), .string (⟨#[]⟩ : ByteArray), .string (⟨#[]⟩ : ByteArray), .string (⟨#[]⟩ : ByteArray), .string x295004_1, .string x295005_1, .string x295006_1, .string x295007_1, .string x295008_1, .int .i64 x295009_1, .int .i64 x295010_1, .int .i64 x295011_1]) ?_ 4 _ rfl; (with_reducible repeat (first | refine blk_drewN ?_ _ | refine blk_drew ?_ | refine blk_alloc ?_ _)); refine blk_put (cs := #[.string (⟨#[]⟩ : ByteArray), .string (⟨#[]⟩ : ByteArray), .string (⟨#[]⟩ : ByteArray), .string x295003_1, .string x295004_1, .string x295005_1, .string x295006_1, .string x295007_1, .string x295008_1, .int .i64 x295009_1, .int .i64 x295010_1, .int .i64 x295011_1]) ?_ 3 _ rfl; (with_reducible repeat (first | refine blk_drewN ?_ _ | refine blk_drew ?_ | refine blk_alloc ?_ _)); refine blk_put (cs := #[.string (⟨#[]⟩ : ByteArray), .string (⟨#[]⟩ : ByteArray), .string x295002_1, .string x295003_1, .string x295004_1, .string x295005_1, .string x295006_1, .string x295007_1, .string x295008_1, .int .i64 x295009_1, .int .i64 x295010_1, .int .i64 x295011_1]) ?_ 2 _ rfl; (with_reducible repeat (first | refine blk_drewN ?_ _ | refine blk_drew ?_ | refine blk_alloc ?_ _)); refine blk_put (cs := #[.string (⟨#[]⟩ : ByteArray), .string x295001_1, .string x295002_1, .string x295003_1, .string x295004_1, .string x295005_1, .string x295006_1, .string x295007_1, .string x295008_1, .int .i64 x295009_1, .int .i64 x295010_1, .int .i64 x295011_1]) ?_ 1 _ rfl; (with_reducible repeat (first | refine blk_drewN ?_ _ | refine blk_drew ?_ | refine blk_alloc ?_ _)); refine blk_put (cs := #[.string x295000_1, .string x295001_1, .string x295002_1, .string x295003_1, .string x295004_1, .string x295005_1, .string x295006_1, .string x295007_1, .string x295008_1, .int .i64 x295009_1, .int .i64 x295010_1, .int .i64 x295011_1]) ?_ 0 _ rfl; (with_reducible repeat (first | refine blk_drewN ?_ _ | refine blk_drew ?_ | refine blk_alloc ?_ _)); exact BK294.out) Tryd.underlying24 rfl (by kernel_rfl)) rfl ?_
        exact ⟨by first | rfl | (simp [errW_none, errW_some] <;> rfl) | (simp [*, errW_none, errW_some] <;> rfl) | (simp only [ne_nil_b]; first | done | rfl) | (simp [ne_nil_b]; done), by repeat (first | (with_reducible first | exact HB.out | apply below_alloc | apply pw_below_drewN | apply below_drew1 | refine below_set ?_ GE293.out | refine below_set ?_ GE294.out) | exact HB.out)⟩

end Go.Proofs.YtepahimiakgieaaDoor.Q
