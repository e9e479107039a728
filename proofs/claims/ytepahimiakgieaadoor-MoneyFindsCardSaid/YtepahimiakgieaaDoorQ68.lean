-- Written by a program of this session (mkp.py) over the translation.
import Derived.Test.YtepahimiakgieaaDoorExt
import Derived.Test.YtepahimiakgieaaDoorQ0
namespace Go.Proofs.YtepahimiakgieaaDoor.Q
open Go.RowKit Go.Proofs.YtepahimiakgieaaDoorW.PrintWords Go.Proofs.YtepahimiakgieaaDoorW.PrintLast Go.Proofs.YtepahimiakgieaaDoorW.PrintMore
attribute [local go_sem] max2_int min2_int max_two min_two max_three min_three max_four min_four   -- for this text's walks alone
set_option linter.unusedVariables false
set_option linter.unusedSimpArgs false

/-! ### quipuref20_Unit: function 23 -/
def quipuref20_Unit.l0 : Nat → ByteArray → Int → ByteArray → ByteArray → ByteArray → ByteArray → ByteArray → ByteArray → ByteArray → ByteArray → ByteArray → ByteArray → ByteArray → ByteArray → ByteArray → ByteArray → ByteArray → ByteArray → ByteArray → ByteArray → ByteArray → ByteArray → ByteArray → ByteArray → Int → ByteArray → ByteArray → ByteArray → ByteArray → ByteArray → ByteArray → ByteArray → List (S129) → List (S129) → List (S24) → List (S57) → ByteArray → Option (ByteArray × ByteArray × ByteArray × ByteArray × ByteArray × ByteArray × ByteArray × ByteArray × ByteArray × ByteArray × ByteArray × ByteArray × ByteArray × ByteArray × Int)
  | 0, _, _, _, _, _, _, _, _, _, _, _, _, _, _, _, _, _, _, _, _, _, _, _, _, _, _, _, _, _, _, _, _, _, _, _, _, _ => none
  | k + 1, x1, x6, x298000, x298001, x298002, x298003, x298004, x298005, x298006, x298007, x298008, x298009, x298010, x298011, x298012, x298013, x298014, x298015, x298016, x298017, x298018, x298019, x298020, x298021, x298022, x298023, x298024, x298025, x298026, x298027, x298028, x298029, x298030, x298031, x298032, x298033, x298034 => if x6 < (x298033.length : Int) then (if 0 ≤ x6 then (if ((rd_T57 x298033 x6).f0).toList = x1.toList then (some ((rd_T57 x298033 x6).f0, (rd_T57 x298033 x6).f1.f0, (rd_T57 x298033 x6).f1.f1, (rd_T57 x298033 x6).f1.f2, (rd_T57 x298033 x6).f1.f3, (rd_T57 x298033 x6).f1.f4, (rd_T57 x298033 x6).f1.f5, (rd_T57 x298033 x6).f2.f0, (rd_T57 x298033 x6).f2.f1, (rd_T57 x298033 x6).f2.f2, (rd_T57 x298033 x6).f2.f3, (rd_T57 x298033 x6).f2.f4, (rd_T57 x298033 x6).f2.f5, (rd_T57 x298033 x6).f3, 0)) else (quipuref20_Unit.l0 k x1 (wrap64 (x6 + 1)) x298000 x298001 x298002 x298003 x298004 x298005 x298006 x298007 x298008 x298009 x298010 x298011 x298012 x298013 x298014 x298015 x298016 x298017 x298018 x298019 x298020 x298021 x298022 x298023 x298024 x298025 x298026 x298027 x298028 x298029 x298030 x298031 x298032 x298033 x298034)) else (none)) else (some ((⟨#[]⟩ : ByteArray), (⟨#[]⟩ : ByteArray), (⟨#[]⟩ : ByteArray), (⟨#[]⟩ : ByteArray), (⟨#[]⟩ : ByteArray), (⟨#[]⟩ : ByteArray), (⟨#[]⟩ : ByteArray), (⟨#[]⟩ : ByteArray), (⟨#[]⟩ : ByteArray), (⟨#[]⟩ : ByteArray), (⟨#[]⟩ : ByteArray), (⟨#[]⟩ : ByteArray), (⟨#[]⟩ : ByteArray), (⟨#[]⟩ : ByteArray), 201))
def quipuref20_Unit.f (k : Nat) (a0_0 : ByteArray) (a0_1 : ByteArray) (a0_2 : ByteArray) (a0_3 : ByteArray) (a0_4 : ByteArray) (a0_5 : ByteArray) (a0_6 : ByteArray) (a0_7 : ByteArray) (a0_8 : ByteArray) (a0_9 : ByteArray) (a0_10 : ByteArray) (a0_11 : ByteArray) (a0_12 : ByteArray) (a0_13 : ByteArray) (a0_14 : ByteArray) (a0_15 : ByteArray) (a0_16 : ByteArray) (a0_17 : ByteArray) (a0_18 : ByteArray) (a0_19 : ByteArray) (a0_20 : ByteArray) (a0_21 : ByteArray) (a0_22 : Int) (a0_23 : ByteArray) (a0_24 : ByteArray) (a0_25 : ByteArray) (a0_26 : ByteArray) (a0_27 : ByteArray) (a0_28 : ByteArray) (a0_29 : ByteArray) (l0_30 : List (S129)) (l0_31 : List (S129)) (l0_32 : List (S24)) (l0_33 : List (S57)) (a0_34 : ByteArray) (a1 : ByteArray) : Option (ByteArray × ByteArray × ByteArray × ByteArray × ByteArray × ByteArray × ByteArray × ByteArray × ByteArray × ByteArray × ByteArray × ByteArray × ByteArray × ByteArray × Int) := quipuref20_Unit.l0 k a1 0 a0_0 a0_1 a0_2 a0_3 a0_4 a0_5 a0_6 a0_7 a0_8 a0_9 a0_10 a0_11 a0_12 a0_13 a0_14 a0_15 a0_16 a0_17 a0_18 a0_19 a0_20 a0_21 a0_22 a0_23 a0_24 a0_25 a0_26 a0_27 a0_28 a0_29 l0_30 l0_31 l0_32 l0_33 a0_34
theorem quipuref20_Unit.mono_l : ∀ k, (∀ y0 y1 y2 y3 y4 y5 y6 y7 y8 y9 y10 y11 y12 y13 y14 y15 y16 y17 y18 y19 y20 y21 y22 y23 y24 y25 y26 y27 y28 y29 y30 y31 y32 y33 y34 y35 y36, LeO (quipuref20_Unit.l0 k y0 y1 y2 y3 y4 y5 y6 y7 y8 y9 y10 y11 y12 y13 y14 y15 y16 y17 y18 y19 y20 y21 y22 y23 y24 y25 y26 y27 y28 y29 y30 y31 y32 y33 y34 y35 y36) (quipuref20_Unit.l0 (k + 1) y0 y1 y2 y3 y4 y5 y6 y7 y8 y9 y10 y11 y12 y13 y14 y15 y16 y17 y18 y19 y20 y21 y22 y23 y24 y25 y26 y27 y28 y29 y30 y31 y32 y33 y34 y35 y36))
  | 0 => fun _ _ _ _ _ _ _ _ _ _ _ _ _ _ _ _ _ _ _ _ _ _ _ _ _ _ _ _ _ _ _ _ _ _ _ _ _ r h => by simp [quipuref20_Unit.l0] at h
  | k + 1 => by
    have ih0 := quipuref20_Unit.mono_l k
    · intro y0 y1 y2 y3 y4 y5 y6 y7 y8 y9 y10 y11 y12 y13 y14 y15 y16 y17 y18 y19 y20 y21 y22 y23 y24 y25 y26 y27 y28 y29 y30 y31 y32 y33 y34 y35 y36
      unfold quipuref20_Unit.l0
      repeat' first
      | (with_reducible exact ih0 _ _ _ _ _ _ _ _ _ _ _ _ _ _ _ _ _ _ _ _ _ _ _ _ _ _ _ _ _ _ _ _ _ _ _ _ _)
      | (with_reducible exact LeO.refl _)
      | (with_reducible exact LeO.none _)
      | (with_reducible refine LeO.ite ?_ ?_)
      | (with_reducible refine LeO.bind ?_ (fun _ => ?_))
      | exact ih0 _ _ _ _ _ _ _ _ _ _ _ _ _ _ _ _ _ _ _ _ _ _ _ _ _ _ _ _ _ _ _ _ _ _ _ _ _
      | exact LeO.none _
      | refine LeO.ite ?_ ?_
      | refine LeO.bind ?_ (fun _ => ?_)
theorem quipuref20_Unit.mono : ∀ a0 a1 a2 a3 a4 a5 a6 a7 a8 a9 a10 a11 a12 a13 a14 a15 a16 a17 a18 a19 a20 a21 a22 a23 a24 a25 a26 a27 a28 a29 a30 a31 a32 a33 a34 a35 k, LeO (quipuref20_Unit.f k a0 a1 a2 a3 a4 a5 a6 a7 a8 a9 a10 a11 a12 a13 a14 a15 a16 a17 a18 a19 a20 a21 a22 a23 a24 a25 a26 a27 a28 a29 a30 a31 a32 a33 a34 a35) (quipuref20_Unit.f (k + 1) a0 a1 a2 a3 a4 a5 a6 a7 a8 a9 a10 a11 a12 a13 a14 a15 a16 a17 a18 a19 a20 a21 a22 a23 a24 a25 a26 a27 a28 a29 a30 a31 a32 a33 a34 a35) := by
  intro a0 a1 a2 a3 a4 a5 a6 a7 a8 a9 a10 a11 a12 a13 a14 a15 a16 a17 a18 a19 a20 a21 a22 a23 a24 a25 a26 a27 a28 a29 a30 a31 a32 a33 a34 a35 k
  have ih0 := quipuref20_Unit.mono_l k
  unfold quipuref20_Unit.f
  repeat' first
      | (with_reducible exact ih0 _ _ _ _ _ _ _ _ _ _ _ _ _ _ _ _ _ _ _ _ _ _ _ _ _ _ _ _ _ _ _ _ _ _ _ _ _)
      | (with_reducible exact LeO.refl _)
      | (with_reducible exact LeO.none _)
      | (with_reducible refine LeO.ite ?_ ?_)
      | (with_reducible refine LeO.bind ?_ (fun _ => ?_))
      | exact ih0 _ _ _ _ _ _ _ _ _ _ _ _ _ _ _ _ _ _ _ _ _ _ _ _ _ _ _ _ _ _ _ _ _ _ _ _ _
      | exact LeO.none _
      | refine LeO.ite ?_ ?_
      | refine LeO.bind ?_ (fun _ => ?_)
set_option maxHeartbeats 8000000 in
set_option maxRecDepth 100000 in
theorem quipuref20_Unit.calls (k : Nat) (a0_0 : ByteArray) (a0_1 : ByteArray) (a0_2 : ByteArray) (a0_3 : ByteArray) (a0_4 : ByteArray) (a0_5 : ByteArray) (a0_6 : ByteArray) (a0_7 : ByteArray) (a0_8 : ByteArray) (a0_9 : ByteArray) (a0_10 : ByteArray) (a0_11 : ByteArray) (a0_12 : ByteArray) (a0_13 : ByteArray) (a0_14 : ByteArray) (a0_15 : ByteArray) (a0_16 : ByteArray) (a0_17 : ByteArray) (a0_18 : ByteArray) (a0_19 : ByteArray) (a0_20 : ByteArray) (a0_21 : ByteArray) (a0_22 : Int) (a0_23 : ByteArray) (a0_24 : ByteArray) (a0_25 : ByteArray) (a0_26 : ByteArray) (a0_27 : ByteArray) (a0_28 : ByteArray) (a0_29 : ByteArray) (A0_30 : Option Addr) (c0_30 : Nat) (l0_30 : List (S129)) (A0_31 : Option Addr) (c0_31 : Nat) (l0_31 : List (S129)) (A0_32 : Option Addr) (c0_32 : Nat) (l0_32 : List (S24)) (A0_33 : Option Addr) (c0_33 : Nat) (l0_33 : List (S57)) (a0_34 : ByteArray) (a1 : ByteArray) (r1 : ByteArray) (r2 : ByteArray) (r3 : ByteArray) (r4 : ByteArray) (r5 : ByteArray) (r6 : ByteArray) (r7 : ByteArray) (r8 : ByteArray) (r9 : ByteArray) (r10 : ByteArray) (r11 : ByteArray) (r12 : ByteArray) (r13 : ByteArray) (r14 : ByteArray) (r15 : Int) (w : World) (hr0_30 : Kd.C k129 w A0_30 l0_30.length l0_30) (hc0_30 : l0_30.length ≤ c0_30) (hr0_31 : Kd.C k129 w A0_31 l0_31.length l0_31) (hc0_31 : l0_31.length ≤ c0_31) (hr0_32 : Kd.C k24 w A0_32 l0_32.length l0_32) (hc0_32 : l0_32.length ≤ c0_32) (hr0_33 : Kd.C k57 w A0_33 l0_33.length l0_33) (hc0_33 : l0_33.length ≤ c0_33) (h : quipuref20_Unit.f k a0_0 a0_1 a0_2 a0_3 a0_4 a0_5 a0_6 a0_7 a0_8 a0_9 a0_10 a0_11 a0_12 a0_13 a0_14 a0_15 a0_16 a0_17 a0_18 a0_19 a0_20 a0_21 a0_22 a0_23 a0_24 a0_25 a0_26 a0_27 a0_28 a0_29 l0_30 l0_31 l0_32 l0_33 a0_34 a1 = some (r1, r2, r3, r4, r5, r6, r7, r8, r9, r10, r11, r12, r13, r14, r15)) :
    Calls Tryd.prog 23 #[.agg #[.string a0_0, .string a0_1, .string a0_2, .string a0_3, .string a0_4, .string a0_5, .string a0_6, .string a0_7, .string a0_8, .string a0_9, .string a0_10, .string a0_11, .string a0_12, .string a0_13, .string a0_14, .string a0_15, .string a0_16, .string a0_17, .string a0_18, .string a0_19, .string a0_20, .string a0_21, .int .i64 a0_22, .string a0_23, .string a0_24, .string a0_25, .string a0_26, .string a0_27, .string a0_28, .string a0_29, .slice A0_30 l0_30.length c0_30, .slice A0_31 l0_31.length c0_31, .slice A0_32 l0_32.length c0_32, .slice A0_33 l0_33.length c0_33, .string a0_34], .string a1] w fun e w' => e = .returned (.tuple #[.agg #[.string r1, .string r2, .string r3, .string r4, .string r5, .string r6, .string r7, .string r8, .string r9, .string r10, .string r11, .string r12, .string r13, .string r14], .int .i64 r15]) ∧ Below w.heap.size w w' := by
  have hu52 := Tryd.underlying52
  have hu57 := Tryd.underlying57
  have HR0_30 := Aside0.mk hr0_30
  have HC0_30 := Aside0.mk hc0_30
  clear hr0_30 hc0_30
  have HR0_31 := Aside0.mk hr0_31
  have HC0_31 := Aside0.mk hc0_31
  clear hr0_31 hc0_31
  have HR0_32 := Aside0.mk hr0_32
  have HC0_32 := Aside0.mk hc0_32
  clear hr0_32 hc0_32
  have HR0_33 := Aside0.mk hr0_33
  have HC0_33 := Aside0.mk hc0_33
  clear hr0_33 hc0_33
  have HB := Aside0.mk (Below.refl w.heap.size w)
  have H : (quipuref20_Unit.l0 k a1 0 a0_0 a0_1 a0_2 a0_3 a0_4 a0_5 a0_6 a0_7 a0_8 a0_9 a0_10 a0_11 a0_12 a0_13 a0_14 a0_15 a0_16 a0_17 a0_18 a0_19 a0_20 a0_21 a0_22 a0_23 a0_24 a0_25 a0_26 a0_27 a0_28 a0_29 l0_30 l0_31 l0_32 l0_33 a0_34) = some (r1, r2, r3, r4, r5, r6, r7, r8, r9, r10, r11, r12, r13, r14, r15) := h
  clear h
  have H' := Aside0.mk H
  clear H
  go_enter Tryd.func23, Tryd.ntmps23
  go_wp2_with (first | ((with_reducible refine gate_dst (N := 2) rfl ?_); refine box_event ?hg (N := 2) ?hd (cs := #[.string a0_0, .string a0_1, .string a0_2, .string a0_3, .string a0_4, .string a0_5, .string a0_6, .string a0_7, .string a0_8, .string a0_9, .string a0_10, .string a0_11, .string a0_12, .string a0_13, .string a0_14, .string a0_15, .string a0_16, .string a0_17, .string a0_18, .string a0_19, .string a0_20, .string a0_21, .int .i64 a0_22, .string a0_23, .string a0_24, .string a0_25, .string a0_26, .string a0_27, .string a0_28, .string a0_29, .slice A0_30 l0_30.length c0_30, .slice A0_31 l0_31.length c0_31, .slice A0_32 l0_32.length c0_32, .slice A0_33 l0_33.length c0_33, .string a0_34]) (t := 52) ?hr ?_; (case hd => rfl); (case hg => rfl); (case hr => first | (go_simp; done) | (go_simp; rfl)); intro gb297 hg w3 hbox hb; have n0_ := Aside0.mk (below_step (by repeat (first | (with_reducible first | exact HB.out | apply below_alloc | apply pw_below_drewN | apply below_drew1) | exact HB.out)) hb); have n1_ := Aside0.mk (hbox); have n2_ := Aside0.mk ((by rw [hg]; exact (below_size (by repeat (first | (with_reducible first | exact HB.out | apply below_alloc | apply pw_below_drewN | apply below_drew1) | exact HB.out))) : w.heap.size ≤ gb297)); have n3_ := Aside0.mk ((by rw [hg]; exact (below_size (by repeat (first | (with_reducible first | exact HB.out | apply below_alloc | apply pw_below_drewN | apply below_drew1) | exact HB.out))) : w.heap.size ≤ gb297)); clear HB; have HB := n0_; have BK297 := n1_; have GW297 := n2_; have GE297 := n3_; clear n0_ n1_ n2_ n3_; clear hb hbox hg) | ((with_reducible refine gate_dst (N := 4) rfl ?_); refine box_event ?hg (N := 4) ?hd (cs := #[.string (⟨#[]⟩ : ByteArray), .string (⟨#[]⟩ : ByteArray), .string (⟨#[]⟩ : ByteArray), .string (⟨#[]⟩ : ByteArray), .string (⟨#[]⟩ : ByteArray), .string (⟨#[]⟩ : ByteArray), .string (⟨#[]⟩ : ByteArray), .string (⟨#[]⟩ : ByteArray), .string (⟨#[]⟩ : ByteArray), .string (⟨#[]⟩ : ByteArray), .string (⟨#[]⟩ : ByteArray), .string (⟨#[]⟩ : ByteArray), .string (⟨#[]⟩ : ByteArray), .string (⟨#[]⟩ : ByteArray)]) (t := 57) ?hr ?_; (case hd => rfl); (case hg => rfl); (case hr => first | (go_simp; done) | (go_simp; rfl)); intro gb298 hg w4 hbox hb; have n0_ := Aside0.mk (blk_below (g := gb297) (o := .cells #[.string a0_0, .string a0_1, .string a0_2, .string a0_3, .string a0_4, .string a0_5, .string a0_6, .string a0_7, .string a0_8, .string a0_9, .string a0_10, .string a0_11, .string a0_12, .string a0_13, .string a0_14, .string a0_15, .string a0_16, .string a0_17, .string a0_18, .string a0_19, .string a0_20, .string a0_21, .int .i64 a0_22, .string a0_23, .string a0_24, .string a0_25, .string a0_26, .string a0_27, .string a0_28, .string a0_29, .slice A0_30 l0_30.length c0_30, .slice A0_31 l0_31.length c0_31, .slice A0_32 l0_32.length c0_32, .slice A0_33 l0_33.length c0_33, .string a0_34] 52 (0, 0)) (by (with_reducible repeat (first | refine blk_drewN ?_ _ | refine blk_drew ?_ | refine blk_alloc ?_ _)); exact BK297.out) hb); have n1_ := Aside0.mk (below_step (by repeat (first | (with_reducible first | exact HB.out | apply below_alloc | apply pw_below_drewN | apply below_drew1 | refine below_set ?_ GE297.out) | exact HB.out)) hb); have n2_ := Aside0.mk (hbox); have n3_ := Aside0.mk ((by rw [hg]; exact (below_size (by repeat (first | (with_reducible first | exact HB.out | apply below_alloc | apply pw_below_drewN | apply below_drew1 | refine below_set ?_ GE297.out) | exact HB.out))) : w.heap.size ≤ gb298)); have n4_ := Aside0.mk ((by rw [hg]; exact (below_size (by repeat (first | (with_reducible first | exact HB.out | apply below_alloc | apply pw_below_drewN | apply below_drew1 | refine below_set ?_ GE297.out) | exact HB.out))) : w.heap.size ≤ gb298)); have n5_ := Aside0.mk ((by rw [hg]; exact Nat.ne_of_lt (blk_lt (g := gb297) (o := .cells #[.string a0_0, .string a0_1, .string a0_2, .string a0_3, .string a0_4, .string a0_5, .string a0_6, .string a0_7, .string a0_8, .string a0_9, .string a0_10, .string a0_11, .string a0_12, .string a0_13, .string a0_14, .string a0_15, .string a0_16, .string a0_17, .string a0_18, .string a0_19, .string a0_20, .string a0_21, .int .i64 a0_22, .string a0_23, .string a0_24, .string a0_25, .string a0_26, .string a0_27, .string a0_28, .string a0_29, .slice A0_30 l0_30.length c0_30, .slice A0_31 l0_31.length c0_31, .slice A0_32 l0_32.length c0_32, .slice A0_33 l0_33.length c0_33, .string a0_34] 52 (0, 0)) (by (with_reducible repeat (first | refine blk_drewN ?_ _ | refine blk_drew ?_ | refine blk_alloc ?_ _)); exact BK297.out)) : gb297 ≠ gb298)); have n6_ := Aside0.mk ((by rw [hg]; exact Nat.ne_of_gt (blk_lt (g := gb297) (o := .cells #[.string a0_0, .string a0_1, .string a0_2, .string a0_3, .string a0_4, .string a0_5, .string a0_6, .string a0_7, .string a0_8, .string a0_9, .string a0_10, .string a0_11, .string a0_12, .string a0_13, .string a0_14, .string a0_15, .string a0_16, .string a0_17, .string a0_18, .string a0_19, .string a0_20, .string a0_21, .int .i64 a0_22, .string a0_23, .string a0_24, .string a0_25, .string a0_26, .string a0_27, .string a0_28, .string a0_29, .slice A0_30 l0_30.length c0_30, .slice A0_31 l0_31.length c0_31, .slice A0_32 l0_32.length c0_32, .slice A0_33 l0_33.length c0_33, .string a0_34] 52 (0, 0)) (by (with_reducible repeat (first | refine blk_drewN ?_ _ | refine blk_drew ?_ | refine blk_alloc ?_ _)); exact BK297.out)) : gb298 ≠ gb297)); clear BK297; clear HB; have BK297 := n0_; have HB := n1_; have BK298 := n2_; have GW298 := n3_; have GE298 := n4_; have NB297_298 := n5_; have NB298_297 := n6_; clear n0_ n1_ n2_ n3_ n4_ n5_ n6_; clear hb hbox hg))
  go_loopg [6] k (fun kq v6 w' => ∃ (x6_1 : Int) (x299000_1 : ByteArray) (x299001_1 : ByteArray) (x299002_1 : ByteArray) (x299003_1 : ByteArray) (x299004_1 : ByteArray) (x299005_1 : ByteArray) (x299006_1 : ByteArray) (x299007_1 : ByteArray) (x299008_1 : ByteArray) (x299009_1 : ByteArray) (x299010_1 : ByteArray) (x299011_1 : ByteArray) (x299012_1 : ByteArray) (x299013_1 : ByteArray), v6 = .int .i64 x6_1 ∧ Aside0 (quipuref20_Unit.l0 kq a1 x6_1 a0_0 a0_1 a0_2 a0_3 a0_4 a0_5 a0_6 a0_7 a0_8 a0_9 a0_10 a0_11 a0_12 a0_13 a0_14 a0_15 a0_16 a0_17 a0_18 a0_19 a0_20 a0_21 a0_22 a0_23 a0_24 a0_25 a0_26 a0_27 a0_28 a0_29 l0_30 l0_31 l0_32 l0_33 a0_34 = some (r1, r2, r3, r4, r5, r6, r7, r8, r9, r10, r11, r12, r13, r14, r15)) ∧ Aside0 (kq ≤ k) ∧ Aside0 (w'.heap[gb297]? = some (.cells #[.string a0_0, .string a0_1, .string a0_2, .string a0_3, .string a0_4, .string a0_5, .string a0_6, .string a0_7, .string a0_8, .string a0_9, .string a0_10, .string a0_11, .string a0_12, .string a0_13, .string a0_14, .string a0_15, .string a0_16, .string a0_17, .string a0_18, .string a0_19, .string a0_20, .string a0_21, .int .i64 a0_22, .string a0_23, .string a0_24, .string a0_25, .string a0_26, .string a0_27, .string a0_28, .string a0_29, (.slice A0_30 l0_30.length c0_30), (.slice A0_31 l0_31.length c0_31), (.slice A0_32 l0_32.length c0_32), (.slice A0_33 l0_33.length c0_33), .string a0_34] 52 (0, 0))) ∧ Aside0 (w'.heap[gb298]? = some (.cells #[.string x299000_1, .string x299001_1, .string x299002_1, .string x299003_1, .string x299004_1, .string x299005_1, .string x299006_1, .string x299007_1, .string x299008_1, .string x299009_1, .string x299010_1, .string x299011_1, .string x299012_1, .string x299013_1] 57 (0, 0))) ∧ Aside0 (Below w.heap.size w w'))
  case atStart => exact ⟨(0), ((⟨#[]⟩ : ByteArray)), ((⟨#[]⟩ : ByteArray)), ((⟨#[]⟩ : ByteArray)), ((⟨#[]⟩ : ByteArray)), ((⟨#[]⟩ : ByteArray)), ((⟨#[]⟩ : ByteArray)), ((⟨#[]⟩ : ByteArray)), ((⟨#[]⟩ : ByteArray)), ((⟨#[]⟩ : ByteArray)), ((⟨#[]⟩ : ByteArray)), ((⟨#[]⟩ : ByteArray)), ((⟨#[]⟩ : ByteArray)), ((⟨#[]⟩ : ByteArray)), ((⟨#[]⟩ : ByteArray)), (by first | rfl | (simp; done) | (simp [*]; done)), H', ⟨Nat.le_refl _⟩, ⟨by (with_reducible repeat (first | refine blk_drewN ?_ _ | refine blk_drew ?_ | refine blk_alloc ?_ _)); exact BK297.out⟩, ⟨by (with_reducible repeat (first | refine blk_drewN ?_ _ | refine blk_drew ?_ | refine blk_alloc ?_ _)); exact BK298.out⟩, ⟨by repeat (first | (with_reducible first | exact HB.out | apply below_alloc | apply pw_below_drewN | apply below_drew1 | refine below_set ?_ GE297.out | refine below_set ?_ GE298.out) | exact HB.out)⟩⟩
  case round =>
    clear H'
    try clear c2
    try clear p2
    obtain ⟨x6_1, x299000_1, x299001_1, x299002_1, x299003_1, x299004_1, x299005_1, x299006_1, x299007_1, x299008_1, x299009_1, x299010_1, x299011_1, x299012_1, x299013_1, rfl, HA, HK1, BK297, BK298, HB⟩ := hrel
    cases gk with
    | zero => exact absurd HA.out (by simp [quipuref20_Unit.l0])
    | succ k1 =>
      have H := HA.out
      clear HA
      simp only [quipuref20_Unit.l0] at H
      by_cases c5 : x6_1 < (l0_33.length : Int)
      · rw [if_pos c5] at H
        have c5b0 : decide (x6_1 < (l0_33.length : Int)) = true := decide_eq_true c5
        clear c5
        by_cases c6 : 0 ≤ x6_1
        · rw [if_pos c6] at H
          have c6b0 : decide (0 ≤ x6_1) = true := decide_eq_true c6
          clear c6
          by_cases c7 : ((rd_T57 l0_33 x6_1).f0).toList = a1.toList
          · rw [if_pos c7] at H
            have c7b0 : (((rd_T57 l0_33 x6_1).f0).toList == a1.toList) = true := beq_iff_eq.mpr c7
            have c7b1 : (((rd_T57 l0_33 x6_1).f0).toList != a1.toList) = false := bne_eq_false_iff_eq.mpr c7
            clear c7
            simp only [Option.some.injEq, Prod.mk.injEq] at H
            obtain ⟨rfl, rfl, rfl, rfl, rfl, rfl, rfl, rfl, rfl, rfl, rfl, rfl, rfl, rfl, rfl⟩ := H
            have hnb8 := NB297_298.out
            have hnc8 := NB298_297.out
            have hcz9_0 : wr.cell? ⟨gb297, 0, none⟩ = some (.string a0_0) := (blk_cell BK297.out 0).trans rfl
            have hcz9_1 : wr.cell? ⟨gb297, 1, none⟩ = some (.string a0_1) := (blk_cell BK297.out 1).trans rfl
            have hcz9_2 : wr.cell? ⟨gb297, 2, none⟩ = some (.string a0_2) := (blk_cell BK297.out 2).trans rfl
            have hcz9_3 : wr.cell? ⟨gb297, 3, none⟩ = some (.string a0_3) := (blk_cell BK297.out 3).trans rfl
            have hcz9_4 : wr.cell? ⟨gb297, 4, none⟩ = some (.string a0_4) := (blk_cell BK297.out 4).trans rfl
            have hcz9_5 : wr.cell? ⟨gb297, 5, none⟩ = some (.string a0_5) := (blk_cell BK297.out 5).trans rfl
            have hcz9_6 : wr.cell? ⟨gb297, 6, none⟩ = some (.string a0_6) := (blk_cell BK297.out 6).trans rfl
            have hcz9_7 : wr.cell? ⟨gb297, 7, none⟩ = some (.string a0_7) := (blk_cell BK297.out 7).trans rfl
            have hcz9_8 : wr.cell? ⟨gb297, 8, none⟩ = some (.string a0_8) := (blk_cell BK297.out 8).trans rfl
            have hcz9_9 : wr.cell? ⟨gb297, 9, none⟩ = some (.string a0_9) := (blk_cell BK297.out 9).trans rfl
            have hcz9_10 : wr.cell? ⟨gb297, 10, none⟩ = some (.string a0_10) := (blk_cell BK297.out 10).trans rfl
            have hcz9_11 : wr.cell? ⟨gb297, 11, none⟩ = some (.string a0_11) := (blk_cell BK297.out 11).trans rfl
            have hcz9_12 : wr.cell? ⟨gb297, 12, none⟩ = some (.string a0_12) := (blk_cell BK297.out 12).trans rfl
            have hcz9_13 : wr.cell? ⟨gb297, 13, none⟩ = some (.string a0_13) := (blk_cell BK297.out 13).trans rfl
            have hcz9_14 : wr.cell? ⟨gb297, 14, none⟩ = some (.string a0_14) := (blk_cell BK297.out 14).trans rfl
            have hcz9_15 : wr.cell? ⟨gb297, 15, none⟩ = some (.string a0_15) := (blk_cell BK297.out 15).trans rfl
            have hcz9_16 : wr.cell? ⟨gb297, 16, none⟩ = some (.string a0_16) := (blk_cell BK297.out 16).trans rfl
            have hcz9_17 : wr.cell? ⟨gb297, 17, none⟩ = some (.string a0_17) := (blk_cell BK297.out 17).trans rfl
            have hcz9_18 : wr.cell? ⟨gb297, 18, none⟩ = some (.string a0_18) := (blk_cell BK297.out 18).trans rfl
            have hcz9_19 : wr.cell? ⟨gb297, 19, none⟩ = some (.string a0_19) := (blk_cell BK297.out 19).trans rfl
            have hcz9_20 : wr.cell? ⟨gb297, 20, none⟩ = some (.string a0_20) := (blk_cell BK297.out 20).trans rfl
            have hcz9_21 : wr.cell? ⟨gb297, 21, none⟩ = some (.string a0_21) := (blk_cell BK297.out 21).trans rfl
            have hcz9_22 : wr.cell? ⟨gb297, 22, none⟩ = some (.int .i64 a0_22) := (blk_cell BK297.out 22).trans rfl
            have hcz9_23 : wr.cell? ⟨gb297, 23, none⟩ = some (.string a0_23) := (blk_cell BK297.out 23).trans rfl
            have hcz9_24 : wr.cell? ⟨gb297, 24, none⟩ = some (.string a0_24) := (blk_cell BK297.out 24).trans rfl
            have hcz9_25 : wr.cell? ⟨gb297, 25, none⟩ = some (.string a0_25) := (blk_cell BK297.out 25).trans rfl
            have hcz9_26 : wr.cell? ⟨gb297, 26, none⟩ = some (.string a0_26) := (blk_cell BK297.out 26).trans rfl
            have hcz9_27 : wr.cell? ⟨gb297, 27, none⟩ = some (.string a0_27) := (blk_cell BK297.out 27).trans rfl
            have hcz9_28 : wr.cell? ⟨gb297, 28, none⟩ = some (.string a0_28) := (blk_cell BK297.out 28).trans rfl
            have hcz9_29 : wr.cell? ⟨gb297, 29, none⟩ = some (.string a0_29) := (blk_cell BK297.out 29).trans rfl
            have hcz9_30 : wr.cell? ⟨gb297, 30, none⟩ = some (.slice A0_30 l0_30.length c0_30) := (blk_cell BK297.out 30).trans rfl
            have hcz9_31 : wr.cell? ⟨gb297, 31, none⟩ = some (.slice A0_31 l0_31.length c0_31) := (blk_cell BK297.out 31).trans rfl
            have hcz9_32 : wr.cell? ⟨gb297, 32, none⟩ = some (.slice A0_32 l0_32.length c0_32) := (blk_cell BK297.out 32).trans rfl
            have hcz9_33 : wr.cell? ⟨gb297, 33, none⟩ = some (.slice A0_33 l0_33.length c0_33) := (blk_cell BK297.out 33).trans rfl
            have hcz9_34 : wr.cell? ⟨gb297, 34, none⟩ = some (.string a0_34) := (blk_cell BK297.out 34).trans rfl
            have hfz9_0 := blk_frozen BK297.out 0
            have hfz9_1 := blk_frozen BK297.out 1
            have hfz9_2 := blk_frozen BK297.out 2
            have hfz9_3 := blk_frozen BK297.out 3
            have hfz9_4 := blk_frozen BK297.out 4
            have hfz9_5 := blk_frozen BK297.out 5
            have hfz9_6 := blk_frozen BK297.out 6
            have hfz9_7 := blk_frozen BK297.out 7
            have hfz9_8 := blk_frozen BK297.out 8
            have hfz9_9 := blk_frozen BK297.out 9
            have hfz9_10 := blk_frozen BK297.out 10
            have hfz9_11 := blk_frozen BK297.out 11
            have hfz9_12 := blk_frozen BK297.out 12
            have hfz9_13 := blk_frozen BK297.out 13
            have hfz9_14 := blk_frozen BK297.out 14
            have hfz9_15 := blk_frozen BK297.out 15
            have hfz9_16 := blk_frozen BK297.out 16
            have hfz9_17 := blk_frozen BK297.out 17
            have hfz9_18 := blk_frozen BK297.out 18
            have hfz9_19 := blk_frozen BK297.out 19
            have hfz9_20 := blk_frozen BK297.out 20
            have hfz9_21 := blk_frozen BK297.out 21
            have hfz9_22 := blk_frozen BK297.out 22
            have hfz9_23 := blk_frozen BK297.out 23
            have hfz9_24 := blk_frozen BK297.out 24
            have hfz9_25 := blk_frozen BK297.out 25
            have hfz9_26 := blk_frozen BK297.out 26
            have hfz9_27 := blk_frozen BK297.out 27
            have hfz9_28 := blk_frozen BK297.out 28
            have hfz9_29 := blk_frozen BK297.out 29
            have hfz9_30 := blk_frozen BK297.out 30
            have hfz9_31 := blk_frozen BK297.out 31
            have hfz9_32 := blk_frozen BK297.out 32
            have hfz9_33 := blk_frozen BK297.out 33
            have hfz9_34 := blk_frozen BK297.out 34
            have p299 : 0 ≤ (x6_1 : Int) := of_decide_eq_true (by first | (with_reducible assumption) | assumption)
            have q299 : x6_1 < (l0_33.length : Int) := of_decide_eq_true (by first | (with_reducible assumption) | assumption)
            obtain ⟨ad299, e299, hx299_0, hx299_1, hx299_2, hx299_3, hx299_4, hx299_5, hx299_6, hx299_7, hx299_8, hx299_9, hx299_10, hx299_11, hx299_12, hx299_13⟩ := at_T57 HR0_33.out x6_1 p299 q299
            cases e299
            replace hx299_0 := (HB.out.cell (World.block_lt_of_cell? w _ hx299_0)).trans hx299_0
            replace hx299_1 := (HB.out.cell (World.block_lt_of_cell? w _ hx299_1)).trans hx299_1
            replace hx299_2 := (HB.out.cell (World.block_lt_of_cell? w _ hx299_2)).trans hx299_2
            replace hx299_3 := (HB.out.cell (World.block_lt_of_cell? w _ hx299_3)).trans hx299_3
            replace hx299_4 := (HB.out.cell (World.block_lt_of_cell? w _ hx299_4)).trans hx299_4
            replace hx299_5 := (HB.out.cell (World.block_lt_of_cell? w _ hx299_5)).trans hx299_5
            replace hx299_6 := (HB.out.cell (World.block_lt_of_cell? w _ hx299_6)).trans hx299_6
            replace hx299_7 := (HB.out.cell (World.block_lt_of_cell? w _ hx299_7)).trans hx299_7
            replace hx299_8 := (HB.out.cell (World.block_lt_of_cell? w _ hx299_8)).trans hx299_8
            replace hx299_9 := (HB.out.cell (World.block_lt_of_cell? w _ hx299_9)).trans hx299_9
            replace hx299_10 := (HB.out.cell (World.block_lt_of_cell? w _ hx299_10)).trans hx299_10
            replace hx299_11 := (HB.out.cell (World.block_lt_of_cell? w _ hx299_11)).trans hx299_11
            replace hx299_12 := (HB.out.cell (World.block_lt_of_cell? w _ hx299_12)).trans hx299_12
            replace hx299_13 := (HB.out.cell (World.block_lt_of_cell? w _ hx299_13)).trans hx299_13
            replace p299 := eq_true p299
            replace q299 := eq_true q299
            have p300 : 0 ≤ (x6_1 : Int) := of_decide_eq_true (by first | (with_reducible assumption) | assumption)
            have q300 : x6_1 < (l0_33.length : Int) := of_decide_eq_true (by first | (with_reducible assumption) | assumption)
            obtain ⟨ad300, e300, hx300_0, hx300_1, hx300_2, hx300_3, hx300_4, hx300_5, hx300_6, hx300_7, hx300_8, hx300_9, hx300_10, hx300_11, hx300_12, hx300_13⟩ := at_T57 HR0_33.out x6_1 p300 q300
            obtain rfl : ad299 = ad300 := (by injection e300)
            replace hx300_0 := (HB.out.cell (World.block_lt_of_cell? w _ hx300_0)).trans hx300_0
            replace hx300_1 := (HB.out.cell (World.block_lt_of_cell? w _ hx300_1)).trans hx300_1
            replace hx300_2 := (HB.out.cell (World.block_lt_of_cell? w _ hx300_2)).trans hx300_2
            replace hx300_3 := (HB.out.cell (World.block_lt_of_cell? w _ hx300_3)).trans hx300_3
            replace hx300_4 := (HB.out.cell (World.block_lt_of_cell? w _ hx300_4)).trans hx300_4
            replace hx300_5 := (HB.out.cell (World.block_lt_of_cell? w _ hx300_5)).trans hx300_5
            replace hx300_6 := (HB.out.cell (World.block_lt_of_cell? w _ hx300_6)).trans hx300_6
            replace hx300_7 := (HB.out.cell (World.block_lt_of_cell? w _ hx300_7)).trans hx300_7
            replace hx300_8 := (HB.out.cell (World.block_lt_of_cell? w _ hx300_8)).trans hx300_8
            replace hx300_9 := (HB.out.cell (World.block_lt_of_cell? w _ hx300_9)).trans hx300_9
            replace hx300_10 := (HB.out.cell (World.block_lt_of_cell? w _ hx300_10)).trans hx300_10
            replace hx300_11 := (HB.out.cell (World.block_lt_of_cell? w _ hx300_11)).trans hx300_11
            replace hx300_12 := (HB.out.cell (World.block_lt_of_cell? w _ hx300_12)).trans hx300_12
            replace hx300_13 := (HB.out.cell (World.block_lt_of_cell? w _ hx300_13)).trans hx300_13
            replace p300 := eq_true p300
            replace q300 := eq_true q300
            have hcz10_0 : wr.cell? ⟨gb298, 0, none⟩ = some (.string x299000_1) := (blk_cell BK298.out 0).trans rfl
            have hcz10_1 : wr.cell? ⟨gb298, 1, none⟩ = some (.string x299001_1) := (blk_cell BK298.out 1).trans rfl
            have hcz10_2 : wr.cell? ⟨gb298, 2, none⟩ = some (.string x299002_1) := (blk_cell BK298.out 2).trans rfl
            have hcz10_3 : wr.cell? ⟨gb298, 3, none⟩ = some (.string x299003_1) := (blk_cell BK298.out 3).trans rfl
            have hcz10_4 : wr.cell? ⟨gb298, 4, none⟩ = some (.string x299004_1) := (blk_cell BK298.out 4).trans rfl
            have hcz10_5 : wr.cell? ⟨gb298, 5, none⟩ = some (.string x299005_1) := (blk_cell BK298.out 5).trans rfl
            have hcz10_6 : wr.cell? ⟨gb298, 6, none⟩ = some (.string x299006_1) := (blk_cell BK298.out 6).trans rfl
            have hcz10_7 : wr.cell? ⟨gb298, 7, none⟩ = some (.string x299007_1) := (blk_cell BK298.out 7).trans rfl
            have hcz10_8 : wr.cell? ⟨gb298, 8, none⟩ = some (.string x299008_1) := (blk_cell BK298.out 8).trans rfl
            have hcz10_9 : wr.cell? ⟨gb298, 9, none⟩ = some (.string x299009_1) := (blk_cell BK298.out 9).trans rfl
            have hcz10_10 : wr.cell? ⟨gb298, 10, none⟩ = some (.string x299010_1) := (blk_cell BK298.out 10).trans rfl
            have hcz10_11 : wr.cell? ⟨gb298, 11, none⟩ = some (.string x299011_1) := (blk_cell BK298.out 11).trans rfl
            have hcz10_12 : wr.cell? ⟨gb298, 12, none⟩ = some (.string x299012_1) := (blk_cell BK298.out 12).trans rfl
            have hcz10_13 : wr.cell? ⟨gb298, 13, none⟩ = some (.string x299013_1) := (blk_cell BK298.out 13).trans rfl
            have hfz10_0 := blk_frozen BK298.out 0
            have hfz10_1 := blk_frozen BK298.out 1
            have hfz10_2 := blk_frozen BK298.out 2
            have hfz10_3 := blk_frozen BK298.out 3
            have hfz10_4 := blk_frozen BK298.out 4
            have hfz10_5 := blk_frozen BK298.out 5
            have hfz10_6 := blk_frozen BK298.out 6
            have hfz10_7 := blk_frozen BK298.out 7
            have hfz10_8 := blk_frozen BK298.out 8
            have hfz10_9 := blk_frozen BK298.out 9
            have hfz10_10 := blk_frozen BK298.out 10
            have hfz10_11 := blk_frozen BK298.out 11
            have hfz10_12 := blk_frozen BK298.out 12
            have hfz10_13 := blk_frozen BK298.out 13
            go_wp2
            refine bodyPost_ret (results_ct rfl _ _ gb298 57 #[.string ((rd_T57 l0_33 x6_1).f0), .string ((rd_T57 l0_33 x6_1).f1.f0), .string ((rd_T57 l0_33 x6_1).f1.f1), .string ((rd_T57 l0_33 x6_1).f1.f2), .string ((rd_T57 l0_33 x6_1).f1.f3), .string ((rd_T57 l0_33 x6_1).f1.f4), .string ((rd_T57 l0_33 x6_1).f1.f5), .string ((rd_T57 l0_33 x6_1).f2.f0), .string ((rd_T57 l0_33 x6_1).f2.f1), .string ((rd_T57 l0_33 x6_1).f2.f2), .string ((rd_T57 l0_33 x6_1).f2.f3), .string ((rd_T57 l0_33 x6_1).f2.f4), .string ((rd_T57 l0_33 x6_1).f2.f5), .string ((rd_T57 l0_33 x6_1).f3)] (0, 0) _ rfl (by (with_reducible repeat (first | refine blk_drewN ?_ _ | refine blk_drew ?_ | refine blk_alloc ?_ _)); refine blk_put (cs := #[.string ((rd_T57 l0_33 x6_1).f0), .string ((rd_T57 l0_33 x6_1).f1.f0), .string ((rd_T57 l0_33 x6_1).f1.f1), .string ((rd_T57 l0_33 x6_1).f1.f2), .string ((rd_T57 l0_33 x6_1).f1.f3), .string ((rd_T57 l0_33 x6_1).f1.f4), .string ((rd_T57 l0_33 x6_1).f1.f5), .string ((rd_T57 l0_33 x6_1).f2.f0), .string ((rd_T57 l0_33 x6_1).f2.f1), .string ((rd_T57 l0_33 x6_1).f2.f2), .string ((rd_T57 l0_33 x6_1).f2.f3), .string ((rd_T57 l0_33 x6_1).f2.f4), .string ((rd_T57 l0_33 x6_1).f2.f5), .string x299013_1]) ?_ 13 _ rfl; (with_reducible repeat (first | refine blk_drewN ?_ _ | refine blk_drew ?_ | refine blk_alloc ?_ _)); refine blk_put (cs := #[.string ((rd_T57 l0_33 x6_1).f0), .string ((rd_T57 l0_33 x6_1).f1.f0), .string ((rd_T57 l0_33 x6_1).f1.f1), .string ((rd_T57 l0_33 x6_1).f1.f2), .string ((rd_T57 l0_33 x6_1).f1.f3), .string ((rd_T57 l0_33 x6_1).f1.f4), .string ((rd_T57 l0_33 x6_1).f1.f5), .string ((rd_T57 l0_33 x6_1).f2.f0), .string ((rd_T57 l0_33 x6_1).f2.f1), .string ((rd_T57 l0_33 x6_1).f2.f2), .string ((rd_T57 l0_33 x6_1).f2.f3), .string ((rd_T57 l0_33 x6_1).f2.f4), .string x299012_1, .string x299013_1]) ?_ 12 _ rfl; (with_reducible repeat (first | refine blk_drewN ?_ _ | refine blk_drew ?_ | refine blk_alloc ?_ _)); refine blk_put (cs := #[.string ((rd_T57 l0_33 x6_1).f0), .string ((rd_T57 l0_33 x6_1).f1.f0), .string ((rd_T57 l0_33 x6_1).f1.f1), .string ((rd_T57 l0_33 x6_1).f1.f2), .string ((rd_T57 l0_33 x6_1).f1.f3), .string ((rd_T57 l0_33 x6_1).f1.f4), .string ((rd_T57 l0_33 x6_1).f1.f5), .string ((rd_T57 l0_33 x6_1).f2.f0), .string ((rd_T57 l0_33 x6_1).f2.f1), .string ((rd_T57 l0_33 x6_1).f2.f2), .string ((rd_T57 l0_33 x6_1).f2.f3), .string x299011_1, .string x299012_1, .string x299013_1]) ?_ 11 _ rfl; (with_reducible repeat (first | refine blk_drewN ?_ _ | refine blk_drew ?_ | refine blk_alloc ?_ _)); refine blk_put (cs := #[.string ((rd_T57 l0_33 x6_1).f0), .string ((rd_T57 l0_33 x6_1).f1.f0), .string ((rd_T57 l0_33 x6_1).f1.f1), .string ((rd_T57 l0_33 x6_1).f1.f2), .string ((rd_T57 l0_33 x6_1).f1.f3), .string ((rd_T57 l0_33 x6_1).f1.f4), .string ((rd_T57 l0_33 x6_1).f1.f5), .string ((rd_T57 l0_33 x6_1).f2.f0), .string ((rd_T57 l0_33 x6_1).f2.f1), .string ((rd_T57 l0_33 x6_1).f2.f2), .string x299010_1, .string x299011_1, .string x299012_1, .string x299013_1]) ?_ 10 _ rfl; (with_reducible repeat (first | refine blk_drewN ?_ _ | refine blk_drew ?_ | refine blk_alloc ?_ _)); refine blk_put (cs := #[.string ((rd_T57 l0_33 x6_1).f0), .string ((rd_T57 l0_33 x6_1).f1.f0), .string ((rd_T57 l0_33 x6_1).f1.f1), .string ((rd_T57 l0_33 x6_1).f1.f2), .string ((rd_T57 l0_33 x6_1).f1.f3), .string ((rd_T57 l0_33 x6_1).f1.f4), .string ((rd_T57 l0_33 x6_1).f1.f5), .string ((rd_T57 l0_33 x6_1).f2.f0), .string ((rd_T57 l0_33 x6_1).f2.f1), .string x299009_1, .string x299010_1, .string x299011_1, .string x299012_1, .string x299013_1]) ?_ 9 _ rfl; (with_reducible repeat (first | refine blk_drewN ?_ _ | refine blk_drew ?_ | refine blk_alloc ?_ _)); refine blk_put (cs := #[.string ((rd_T57 l0_33 x6_1).f0), .string ((rd_T57 l0_33 x6_1).f1.f0), .string ((rd_T57 l0_33 x6_1).f1.f1), .string ((rd_T57 l0_33 x6_1).f1.f2), .string ((rd_T57 l0_33 x6_1).f1.f3), .string ((rd_T57 l0_33 x6_1).f1.f4), .string ((rd_T57 l0_33 x6_1).f1.f5), .string ((rd_T57 l0_33 x6_1).f2.f0), .string x299008_1, .string x299009_1, .string x299010_1, .string x299011_1, .string x299012_1, .string x299013_1]) ?_ 8 _ rfl; (with_reducible repeat (first | refine blk_drewN ?_ _ | refine blk_drew ?_ | refine blk_alloc ?_ _)); refine blk_put (cs := #[.string ((rd_T57 l0_33 x6_1).f0), .string ((rd_T57 l0_33 x6_1).f1.f0), .string ((rd_T57 l0_33 x6_1).f1.f1), .string ((rd_T57 l0_33 x6_1).f1.f2), .string ((rd_T57 l0_33 x6_1).f1.f3), .string ((rd_T57 l0_33 x6_1).f1.f4), .string ((rd_T57 l0_33 x6_1).f1.f5), .string x299007_1, .string x299008_1, .string x299009_1, .string x299010_1, .string x299011_1, .string x299012_1, .string x299013_1]) ?_ 7 _ rfl; (with_reducible repeat (first | refine blk_drewN ?_ _ | refine blk_drew ?_ | refine blk_alloc ?_ _)); refine blk_put (cs := #[.string ((rd_T57 l0_33 x6_1).f0), .string ((rd_T57 l0_33 x6_1).f1.f0), .string ((rd_T57 l0_33 x6_1).f1.f1), .string ((rd_T57 l0_33 x6_1).f1.f2), .string ((rd_T57 l0_33 x6_1).f1.f3), .string ((rd_T57 l0_33 x6_1).f1.f4), .string x299006_1, .string x299007_1, .string x299008_1, .string x299009_1, .string x299010_1, .string x299011_1, .string x299012_1, .string x299013_1]) ?_ 6 _ rfl; (with_reducible repeat (first | refine blk_drewN ?_ _ | refine blk_drew ?_ | refine blk_alloc ?_ _)); refine blk_put (cs := #[.string ((rd_T57 l0_33 x6_1).f0), .string ((rd_T57 l0_33 x6_1).f1.f0), .string ((rd_T57 l0_33 x6_1).f1.f1), .string ((rd_T57 l0_33 x6_1).f1.f2), .string ((rd_T57 l0_33 x6_1).f1.f3), .string x299005_1, .string x299006_1, .string x299007_1, .string x299008_1, .string x299009_1, .string x299010_1, .string x299011_1, .string x299012_1, .string x299013_1]) ?_ 5 _ rfl; (with_reducible repeat (first | refine blk_drewN ?_ _ | refine blk_drew ?_ | refine blk_alloc ?_ _)); refine blk_put (cs := #[.string ((rd_T57 l0_33 x6_1).f0), .string ((rd_T57 l0_33 x6_1).f1.f0), .string ((rd_T57 l0_33 x6_1).f1.f1), .string ((rd_T57 l0_33 x6_1).f1.f2), .string x299004_1, .string x299005_1, .string x299006_1, .string x299007_1, .string x299008_1, .string x299009_1, .string x299010_1, .string x299011_1, .string x299012_1, .string x299013_1]) ?_ 4 _ rfl; (with_reducible repeat (first | refine blk_drewN ?_ _ | refine blk_drew ?_ | refine blk_alloc ?_ _)); refine blk_put (cs := #[.string ((rd_T57 l0_33 x6_1).f0), .string ((rd_T57 l0_33 x6_1).f1.f0), .string ((rd_T57 l0_33 x6_1).f1.f1), .string x299003_1, .string x299004_1, .string x299005_1, .string x299006_1, .string x299007_1, .string x299008_1, .string x299009_1, .string x299010_1, .string x299011_1, .string x299012_1, .string x299013_1]) ?_ 3 _ rfl; (with_reducible repeat (first | refine blk_drewN ?_ _ | refine blk_drew ?_ | refine blk_alloc ?_ _)); refine blk_put (cs := #[.string ((rd_T57 l0_33 x6_1).f0), .string ((rd_T57 l0_33 x6_1).f1.f0), .string x299002_1, .string x299003_1, .string x299004_1, .string x299005_1, .string x299006_1, .string x299007_1, .string x299008_1, .string x299009_1, .string x299010_1, .string x299011_1, .string x299012_1, .string x299013_1]) ?_ 2 _ rfl; (with_reducible repeat (first | refine blk_drewN ?_ _ | refine blk_drew ?_ | refine blk_alloc ?_ _)); refine blk_put (cs := #[.string ((rd_T57 l0_33 x6_1).f0), .string x299001_1, .string x299002_1, .string x299003_1, .string x299004_1, .string x299005_1, .string x299006_1, .string x299007_1, .string x299008_1, .string x299009_1, .string x299010_1, .string x299011_1, .string x299012_1, .string x299013_1]) ?_ 1 _ rfl; (with_reducible repeat (first | refine blk_drewN ?_ _ | refine blk_drew ?_ | refine blk_alloc ?_ _)); refine blk_put (cs := #[.string x299000_1, .string x299001_1, .string x299002_1, .string x299003_1, .string x299004_1, .string x299005_1, .string x299006_1, .string x299007_1, .string x299008_1, .string x299009_1, .string x299010_1, .string x299011_1, .string x299012_1, .string x299013_1]) ?_ 0 _ rfl; (with_reducible repeat (first | refine blk_drewN ?_ _ | refine blk_drew ?_ | refine blk_alloc ?_ _)); exact BK298.out) Tryd.underlying57 rfl (by kernel_rfl)) rfl ?_
            exact ⟨by first | rfl | (simp [errW_none, errW_some] <;> rfl) | (simp [*, errW_none, errW_some] <;> rfl) | (simp only [ne_nil_b]; first | done | rfl) | (simp [ne_nil_b]; done), by repeat (first | (with_reducible first | exact HB.out | apply below_alloc | apply pw_below_drewN | apply below_drew1 | refine below_set ?_ GE297.out | refine below_set ?_ GE298.out) | exact HB.out)⟩
          · rw [if_neg c7] at H
            have c7b0 : (((rd_T57 l0_33 x6_1).f0).toList == a1.toList) = false := beq_eq_false_iff_ne.mpr c7
            have c7b1 : (((rd_T57 l0_33 x6_1).f0).toList != a1.toList) = true := bne_iff_ne.mpr c7
            have H' := Aside0.mk H
            clear H
            have hnb11 := NB297_298.out
            have hnc11 := NB298_297.out
            have hcz12_0 : wr.cell? ⟨gb297, 0, none⟩ = some (.string a0_0) := (blk_cell BK297.out 0).trans rfl
            have hcz12_1 : wr.cell? ⟨gb297, 1, none⟩ = some (.string a0_1) := (blk_cell BK297.out 1).trans rfl
            have hcz12_2 : wr.cell? ⟨gb297, 2, none⟩ = some (.string a0_2) := (blk_cell BK297.out 2).trans rfl
            have hcz12_3 : wr.cell? ⟨gb297, 3, none⟩ = some (.string a0_3) := (blk_cell BK297.out 3).trans rfl
            have hcz12_4 : wr.cell? ⟨gb297, 4, none⟩ = some (.string a0_4) := (blk_cell BK297.out 4).trans rfl
            have hcz12_5 : wr.cell? ⟨gb297, 5, none⟩ = some (.string a0_5) := (blk_cell BK297.out 5).trans rfl
            have hcz12_6 : wr.cell? ⟨gb297, 6, none⟩ = some (.string a0_6) := (blk_cell BK297.out 6).trans rfl
            have hcz12_7 : wr.cell? ⟨gb297, 7, none⟩ = some (.string a0_7) := (blk_cell BK297.out 7).trans rfl
            have hcz12_8 : wr.cell? ⟨gb297, 8, none⟩ = some (.string a0_8) := (blk_cell BK297.out 8).trans rfl
            have hcz12_9 : wr.cell? ⟨gb297, 9, none⟩ = some (.string a0_9) := (blk_cell BK297.out 9).trans rfl
            have hcz12_10 : wr.cell? ⟨gb297, 10, none⟩ = some (.string a0_10) := (blk_cell BK297.out 10).trans rfl
            have hcz12_11 : wr.cell? ⟨gb297, 11, none⟩ = some (.string a0_11) := (blk_cell BK297.out 11).trans rfl
            have hcz12_12 : wr.cell? ⟨gb297, 12, none⟩ = some (.string a0_12) := (blk_cell BK297.out 12).trans rfl
            have hcz12_13 : wr.cell? ⟨gb297, 13, none⟩ = some (.string a0_13) := (blk_cell BK297.out 13).trans rfl
            have hcz12_14 : wr.cell? ⟨gb297, 14, none⟩ = some (.string a0_14) := (blk_cell BK297.out 14).trans rfl
            have hcz12_15 : wr.cell? ⟨gb297, 15, none⟩ = some (.string a0_15) := (blk_cell BK297.out 15).trans rfl
            have hcz12_16 : wr.cell? ⟨gb297, 16, none⟩ = some (.string a0_16) := (blk_cell BK297.out 16).trans rfl
            have hcz12_17 : wr.cell? ⟨gb297, 17, none⟩ = some (.string a0_17) := (blk_cell BK297.out 17).trans rfl
            have hcz12_18 : wr.cell? ⟨gb297, 18, none⟩ = some (.string a0_18) := (blk_cell BK297.out 18).trans rfl
            have hcz12_19 : wr.cell? ⟨gb297, 19, none⟩ = some (.string a0_19) := (blk_cell BK297.out 19).trans rfl
            have hcz12_20 : wr.cell? ⟨gb297, 20, none⟩ = some (.string a0_20) := (blk_cell BK297.out 20).trans rfl
            have hcz12_21 : wr.cell? ⟨gb297, 21, none⟩ = some (.string a0_21) := (blk_cell BK297.out 21).trans rfl
            have hcz12_22 : wr.cell? ⟨gb297, 22, none⟩ = some (.int .i64 a0_22) := (blk_cell BK297.out 22).trans rfl
            have hcz12_23 : wr.cell? ⟨gb297, 23, none⟩ = some (.string a0_23) := (blk_cell BK297.out 23).trans rfl
            have hcz12_24 : wr.cell? ⟨gb297, 24, none⟩ = some (.string a0_24) := (blk_cell BK297.out 24).trans rfl
            have hcz12_25 : wr.cell? ⟨gb297, 25, none⟩ = some (.string a0_25) := (blk_cell BK297.out 25).trans rfl
            have hcz12_26 : wr.cell? ⟨gb297, 26, none⟩ = some (.string a0_26) := (blk_cell BK297.out 26).trans rfl
            have hcz12_27 : wr.cell? ⟨gb297, 27, none⟩ = some (.string a0_27) := (blk_cell BK297.out 27).trans rfl
            have hcz12_28 : wr.cell? ⟨gb297, 28, none⟩ = some (.string a0_28) := (blk_cell BK297.out 28).trans rfl
            have hcz12_29 : wr.cell? ⟨gb297, 29, none⟩ = some (.string a0_29) := (blk_cell BK297.out 29).trans rfl
            have hcz12_30 : wr.cell? ⟨gb297, 30, none⟩ = some (.slice A0_30 l0_30.length c0_30) := (blk_cell BK297.out 30).trans rfl
            have hcz12_31 : wr.cell? ⟨gb297, 31, none⟩ = some (.slice A0_31 l0_31.length c0_31) := (blk_cell BK297.out 31).trans rfl
            have hcz12_32 : wr.cell? ⟨gb297, 32, none⟩ = some (.slice A0_32 l0_32.length c0_32) := (blk_cell BK297.out 32).trans rfl
            have hcz12_33 : wr.cell? ⟨gb297, 33, none⟩ = some (.slice A0_33 l0_33.length c0_33) := (blk_cell BK297.out 33).trans rfl
            have hcz12_34 : wr.cell? ⟨gb297, 34, none⟩ = some (.string a0_34) := (blk_cell BK297.out 34).trans rfl
            have hfz12_0 := blk_frozen BK297.out 0
            have hfz12_1 := blk_frozen BK297.out 1
            have hfz12_2 := blk_frozen BK297.out 2
            have hfz12_3 := blk_frozen BK297.out 3
            have hfz12_4 := blk_frozen BK297.out 4
            have hfz12_5 := blk_frozen BK297.out 5
            have hfz12_6 := blk_frozen BK297.out 6
            have hfz12_7 := blk_frozen BK297.out 7
            have hfz12_8 := blk_frozen BK297.out 8
            have hfz12_9 := blk_frozen BK297.out 9
            have hfz12_10 := blk_frozen BK297.out 10
            have hfz12_11 := blk_frozen BK297.out 11
            have hfz12_12 := blk_frozen BK297.out 12
            have hfz12_13 := blk_frozen BK297.out 13
            have hfz12_14 := blk_frozen BK297.out 14
            have hfz12_15 := blk_frozen BK297.out 15
            have hfz12_16 := blk_frozen BK297.out 16
            have hfz12_17 := blk_frozen BK297.out 17
            have hfz12_18 := blk_frozen BK297.out 18
            have hfz12_19 := blk_frozen BK297.out 19
            have hfz12_20 := blk_frozen BK297.out 20
            have hfz12_21 := blk_frozen BK297.out 21
            have hfz12_22 := blk_frozen BK297.out 22
            have hfz12_23 := blk_frozen BK297.out 23
            have hfz12_24 := blk_frozen BK297.out 24
            have hfz12_25 := blk_frozen BK297.out 25
            have hfz12_26 := blk_frozen BK297.out 26
            have hfz12_27 := blk_frozen BK297.out 27
            have hfz12_28 := blk_frozen BK297.out 28
            have hfz12_29 := blk_frozen BK297.out 29
            have hfz12_30 := blk_frozen BK297.out 30
            have hfz12_31 := blk_frozen BK297.out 31
            have hfz12_32 := blk_frozen BK297.out 32
            have hfz12_33 := blk_frozen BK297.out 33
            have hfz12_34 := blk_frozen BK297.out 34
            have p299 : 0 ≤ (x6_1 : Int) := of_decide_eq_true (by first | (with_reducible assumption) | assumption)
            have q299 : x6_1 < (l0_33.length : Int) := of_decide_eq_true (by first | (with_reducible assumption) | assumption)
            obtain ⟨ad299, e299, hx299_0, hx299_1, hx299_2, hx299_3, hx299_4, hx299_5, hx299_6, hx299_7, hx299_8, hx299_9, hx299_10, hx299_11, hx299_12, hx299_13⟩ := at_T57 HR0_33.out x6_1 p299 q299
            cases e299
            replace hx299_0 := (HB.out.cell (World.block_lt_of_cell? w _ hx299_0)).trans hx299_0
            replace hx299_1 := (HB.out.cell (World.block_lt_of_cell? w _ hx299_1)).trans hx299_1
            replace hx299_2 := (HB.out.cell (World.block_lt_of_cell? w _ hx299_2)).trans hx299_2
            replace hx299_3 := (HB.out.cell (World.block_lt_of_cell? w _ hx299_3)).trans hx299_3
            replace hx299_4 := (HB.out.cell (World.block_lt_of_cell? w _ hx299_4)).trans hx299_4
            replace hx299_5 := (HB.out.cell (World.block_lt_of_cell? w _ hx299_5)).trans hx299_5
            replace hx299_6 := (HB.out.cell (World.block_lt_of_cell? w _ hx299_6)).trans hx299_6
            replace hx299_7 := (HB.out.cell (World.block_lt_of_cell? w _ hx299_7)).trans hx299_7
            replace hx299_8 := (HB.out.cell (World.block_lt_of_cell? w _ hx299_8)).trans hx299_8
            replace hx299_9 := (HB.out.cell (World.block_lt_of_cell? w _ hx299_9)).trans hx299_9
            replace hx299_10 := (HB.out.cell (World.block_lt_of_cell? w _ hx299_10)).trans hx299_10
            replace hx299_11 := (HB.out.cell (World.block_lt_of_cell? w _ hx299_11)).trans hx299_11
            replace hx299_12 := (HB.out.cell (World.block_lt_of_cell? w _ hx299_12)).trans hx299_12
            replace hx299_13 := (HB.out.cell (World.block_lt_of_cell? w _ hx299_13)).trans hx299_13
            replace p299 := eq_true p299
            replace q299 := eq_true q299
            go_wp2
            go_roundg k1
            case measure => have := HK1.out; omega
            case rel => exact ⟨(wrap64 (x6_1 + 1)), (x299000_1), (x299001_1), (x299002_1), (x299003_1), (x299004_1), (x299005_1), (x299006_1), (x299007_1), (x299008_1), (x299009_1), (x299010_1), (x299011_1), (x299012_1), (x299013_1), (by first | rfl | (simp; done) | (simp [*]; done)), H', ⟨by have := HK1.out; omega⟩, ⟨by (with_reducible repeat (first | refine blk_drewN ?_ _ | refine blk_drew ?_ | refine blk_alloc ?_ _)); exact BK297.out⟩, ⟨by (with_reducible repeat (first | refine blk_drewN ?_ _ | refine blk_drew ?_ | refine blk_alloc ?_ _)); exact BK298.out⟩, ⟨by repeat (first | (with_reducible first | exact HB.out | apply below_alloc | apply pw_below_drewN | apply below_drew1 | refine below_set ?_ GE297.out | refine below_set ?_ GE298.out) | exact HB.out)⟩⟩
        · rw [if_neg c6] at H
          exact absurd H (by simp)
      · rw [if_neg c5] at H
        have c5b0 : decide (x6_1 < (l0_33.length : Int)) = false := decide_eq_false c5
        clear c5
        simp only [Option.some.injEq, Prod.mk.injEq] at H
        obtain ⟨rfl, rfl, rfl, rfl, rfl, rfl, rfl, rfl, rfl, rfl, rfl, rfl, rfl, rfl, rfl⟩ := H
        have hnb13 := NB297_298.out
        have hnc13 := NB298_297.out
        have hcz14_0 : wr.cell? ⟨gb297, 0, none⟩ = some (.string a0_0) := (blk_cell BK297.out 0).trans rfl
        have hcz14_1 : wr.cell? ⟨gb297, 1, none⟩ = some (.string a0_1) := (blk_cell BK297.out 1).trans rfl
        have hcz14_2 : wr.cell? ⟨gb297, 2, none⟩ = some (.string a0_2) := (blk_cell BK297.out 2).trans rfl
        have hcz14_3 : wr.cell? ⟨gb297, 3, none⟩ = some (.string a0_3) := (blk_cell BK297.out 3).trans rfl
        have hcz14_4 : wr.cell? ⟨gb297, 4, none⟩ = some (.string a0_4) := (blk_cell BK297.out 4).trans rfl
        have hcz14_5 : wr.cell? ⟨gb297, 5, none⟩ = some (.string a0_5) := (blk_cell BK297.out 5).trans rfl
        have hcz14_6 : wr.cell? ⟨gb297, 6, none⟩ = some (.string a0_6) := (blk_cell BK297.out 6).trans rfl
        have hcz14_7 : wr.cell? ⟨gb297, 7, none⟩ = some (.string a0_7) := (blk_cell BK297.out 7).trans rfl
        have hcz14_8 : wr.cell? ⟨gb297, 8, none⟩ = some (.string a0_8) := (blk_cell BK297.out 8).trans rfl
        have hcz14_9 : wr.cell? ⟨gb297, 9, none⟩ = some (.string a0_9) := (blk_cell BK297.out 9).trans rfl
        have hcz14_10 : wr.cell? ⟨gb297, 10, none⟩ = some (.string a0_10) := (blk_cell BK297.out 10).trans rfl
        have hcz14_11 : wr.cell? ⟨gb297, 11, none⟩ = some (.string a0_11) := (blk_cell BK297.out 11).trans rfl
        have hcz14_12 : wr.cell? ⟨gb297, 12, none⟩ = some (.string a0_12) := (blk_cell BK297.out 12).trans rfl
        have hcz14_13 : wr.cell? ⟨gb297, 13, none⟩ = some (.string a0_13) := (blk_cell BK297.out 13).trans rfl
        have hcz14_14 : wr.cell? ⟨gb297, 14, none⟩ = some (.string a0_14) := (blk_cell BK297.out 14).trans rfl
        have hcz14_15 : wr.cell? ⟨gb297, 15, none⟩ = some (.string a0_15) := (blk_cell BK297.out 15).trans rfl
        have hcz14_16 : wr.cell? ⟨gb297, 16, none⟩ = some (.string a0_16) := (blk_cell BK297.out 16).trans rfl
        have hcz14_17 : wr.cell? ⟨gb297, 17, none⟩ = some (.string a0_17) := (blk_cell BK297.out 17).trans rfl
        have hcz14_18 : wr.cell? ⟨gb297, 18, none⟩ = some (.string a0_18) := (blk_cell BK297.out 18).trans rfl
        have hcz14_19 : wr.cell? ⟨gb297, 19, none⟩ = some (.string a0_19) := (blk_cell BK297.out 19).trans rfl
        have hcz14_20 : wr.cell? ⟨gb297, 20, none⟩ = some (.string a0_20) := (blk_cell BK297.out 20).trans rfl
        have hcz14_21 : wr.cell? ⟨gb297, 21, none⟩ = some (.string a0_21) := (blk_cell BK297.out 21).trans rfl
        have hcz14_22 : wr.cell? ⟨gb297, 22, none⟩ = some (.int .i64 a0_22) := (blk_cell BK297.out 22).trans rfl
        have hcz14_23 : wr.cell? ⟨gb297, 23, none⟩ = some (.string a0_23) := (blk_cell BK297.out 23).trans rfl
        have hcz14_24 : wr.cell? ⟨gb297, 24, none⟩ = some (.string a0_24) := (blk_cell BK297.out 24).trans rfl
        have hcz14_25 : wr.cell? ⟨gb297, 25, none⟩ = some (.string a0_25) := (blk_cell BK297.out 25).trans rfl
        have hcz14_26 : wr.cell? ⟨gb297, 26, none⟩ = some (.string a0_26) := (blk_cell BK297.out 26).trans rfl
        have hcz14_27 : wr.cell? ⟨gb297, 27, none⟩ = some (.string a0_27) := (blk_cell BK297.out 27).trans rfl
        have hcz14_28 : wr.cell? ⟨gb297, 28, none⟩ = some (.string a0_28) := (blk_cell BK297.out 28).trans rfl
        have hcz14_29 : wr.cell? ⟨gb297, 29, none⟩ = some (.string a0_29) := (blk_cell BK297.out 29).trans rfl
        have hcz14_30 : wr.cell? ⟨gb297, 30, none⟩ = some (.slice A0_30 l0_30.length c0_30) := (blk_cell BK297.out 30).trans rfl
        have hcz14_31 : wr.cell? ⟨gb297, 31, none⟩ = some (.slice A0_31 l0_31.length c0_31) := (blk_cell BK297.out 31).trans rfl
        have hcz14_32 : wr.cell? ⟨gb297, 32, none⟩ = some (.slice A0_32 l0_32.length c0_32) := (blk_cell BK297.out 32).trans rfl
        have hcz14_33 : wr.cell? ⟨gb297, 33, none⟩ = some (.slice A0_33 l0_33.length c0_33) := (blk_cell BK297.out 33).trans rfl
        have hcz14_34 : wr.cell? ⟨gb297, 34, none⟩ = some (.string a0_34) := (blk_cell BK297.out 34).trans rfl
        have hfz14_0 := blk_frozen BK297.out 0
        have hfz14_1 := blk_frozen BK297.out 1
        have hfz14_2 := blk_frozen BK297.out 2
        have hfz14_3 := blk_frozen BK297.out 3
        have hfz14_4 := blk_frozen BK297.out 4
        have hfz14_5 := blk_frozen BK297.out 5
        have hfz14_6 := blk_frozen BK297.out 6
        have hfz14_7 := blk_frozen BK297.out 7
        have hfz14_8 := blk_frozen BK297.out 8
        have hfz14_9 := blk_frozen BK297.out 9
        have hfz14_10 := blk_frozen BK297.out 10
        have hfz14_11 := blk_frozen BK297.out 11
        have hfz14_12 := blk_frozen BK297.out 12
        have hfz14_13 := blk_frozen BK297.out 13
        have hfz14_14 := blk_frozen BK297.out 14
        have hfz14_15 := blk_frozen BK297.out 15
        have hfz14_16 := blk_frozen BK297.out 16
        have hfz14_17 := blk_frozen BK297.out 17
        have hfz14_18 := blk_frozen BK297.out 18
        have hfz14_19 := blk_frozen BK297.out 19
        have hfz14_20 := blk_frozen BK297.out 20
        have hfz14_21 := blk_frozen BK297.out 21
        have hfz14_22 := blk_frozen BK297.out 22
        have hfz14_23 := blk_frozen BK297.out 23
        have hfz14_24 := blk_frozen BK297.out 24
        have hfz14_25 := blk_frozen BK297.out 25
        have hfz14_26 := blk_frozen BK297.out 26
        have hfz14_27 := blk_frozen BK297.out 27
        have hfz14_28 := blk_frozen BK297.out 28
        have hfz14_29 := blk_frozen BK297.out 29
        have hfz14_30 := blk_frozen BK297.out 30
        have hfz14_31 := blk_frozen BK297.out 31
        have hfz14_32 := blk_frozen BK297.out 32
        have hfz14_33 := blk_frozen BK297.out 33
        have hfz14_34 := blk_frozen BK297.out 34
        have hcz15_0 : wr.cell? ⟨gb298, 0, none⟩ = some (.string x299000_1) := (blk_cell BK298.out 0).trans rfl
        have hcz15_1 : wr.cell? ⟨gb298, 1, none⟩ = some (.string x299001_1) := (blk_cell BK298.out 1).trans rfl
        have hcz15_2 : wr.cell? ⟨gb298, 2, none⟩ = some (.string x299002_1) := (blk_cell BK298.out 2).trans rfl
        have hcz15_3 : wr.cell? ⟨gb298, 3, none⟩ = some (.string x299003_1) := (blk_cell BK298.out 3).trans rfl
        have hcz15_4 : wr.cell? ⟨gb298, 4, none⟩ = some (.string x299004_1) := (blk_cell BK298.out 4).trans rfl
        have hcz15_5 : wr.cell? ⟨gb298, 5, none⟩ = some (.string x299005_1) := (blk_cell BK298.out 5).trans rfl
        have hcz15_6 : wr.cell? ⟨gb298, 6, none⟩ = some (.string x299006_1) := (blk_cell BK298.out 6).trans rfl
        have hcz15_7 : wr.cell? ⟨gb298, 7, none⟩ = some (.string x299007_1) := (blk_cell BK298.out 7).trans rfl
        have hcz15_8 : wr.cell? ⟨gb298, 8, none⟩ = some (.string x299008_1) := (blk_cell BK298.out 8).trans rfl
        have hcz15_9 : wr.cell? ⟨gb298, 9, none⟩ = some (.string x299009_1) := (blk_cell BK298.out 9).trans rfl
        have hcz15_10 : wr.cell? ⟨gb298, 10, none⟩ = some (.string x299010_1) := (blk_cell BK298.out 10).trans rfl
        have hcz15_11 : wr.cell? ⟨gb298, 11, none⟩ = some (.string x299011_1) := (blk_cell BK298.out 11).trans rfl
        have hcz15_12 : wr.cell? ⟨gb298, 12, none⟩ = some (.string x299012_1) := (blk_cell BK298.out 12).trans rfl
        have hcz15_13 : wr.cell? ⟨gb298, 13, none⟩ = some (.string x299013_1) := (blk_cell BK298.out 13).trans rfl
        have hfz15_0 := blk_frozen BK298.out 0
        have hfz15_1 := blk_frozen BK298.out 1
        have hfz15_2 := blk_frozen BK298.out 2
        have hfz15_3 := blk_frozen BK298.out 3
        have hfz15_4 := blk_frozen BK298.out 4
        have hfz15_5 := blk_frozen BK298.out 5
        have hfz15_6 := blk_frozen BK298.out 6
        have hfz15_7 := blk_frozen BK298.out 7
        have hfz15_8 := blk_frozen BK298.out 8
        have hfz15_9 := blk_frozen BK298.out 9
        have hfz15_10 := blk_frozen BK298.out 10
        have hfz15_11 := blk_frozen BK298.out 11
        have hfz15_12 := blk_frozen BK298.out 12
        have hfz15_13 := blk_frozen BK298.out 13
        go_wp2
        refine bodyPost_ret (results_ct rfl _ _ gb298 57 #[.string (⟨#[]⟩ : ByteArray), .string (⟨#[]⟩ : ByteArray), .string (⟨#[]⟩ : ByteArray), .string (⟨#[]⟩ : ByteArray), .string (⟨#[]⟩ : ByteArray), .string (⟨#[]⟩ : ByteArray), .string (⟨#[]⟩ : ByteArray), .string (⟨#[]⟩ : ByteArray), .string (⟨#[]⟩ : ByteArray), .string (⟨#[]⟩ : ByteArray), .string (⟨#[]⟩ : ByteArray), .string (⟨#[]⟩ : ByteArray), .string (⟨#[]⟩ : ByteArray), .string (⟨#[]⟩ : ByteArray)] (0, 0) _ rfl (by (with_reducible repeat (first | refine blk_drewN ?_ _ | refine blk_drew ?_ | refine blk_alloc ?_ _)); refine blk_put (cs := #[.string (⟨#[]⟩ : ByteArray), .string (⟨#[]⟩ : ByteArray), .string (⟨#[]⟩ : ByteArray), .string (⟨#[]⟩ : ByteArray), .string (⟨#[]⟩ : ByteArray), .string (⟨#[]⟩ : ByteArray), .string (⟨#[]⟩ : ByteArray), .string (⟨#[]⟩ : ByteArray), .string (⟨#[]⟩ : ByteArray), .string (⟨#[]⟩ : ByteArray), .string (⟨#[]⟩ : ByteArray), .string (⟨#[]⟩ : ByteArray), .string (⟨#[]⟩ : ByteArray), .string x299013_1]) ?_ 13 _ rfl; (with_reducible repeat (first | refine blk_drewN ?_ _ | refine blk_drew ?_ | refine blk_alloc ?_ _)); refine blk_put (cs := #[.string (⟨#[]⟩ : ByteArray), .string (⟨#[]⟩ : ByteArray), .string (⟨#[]⟩ : ByteArray), .string (⟨#[]⟩ : ByteArray), .string (⟨#[]⟩ : ByteArray), .string (⟨#[]⟩ : ByteArray), .string (⟨#[]⟩ : ByteArray), .string (⟨#[]⟩ : ByteArray), .string (⟨#[]⟩ : ByteArray), .string (⟨#[]⟩ : ByteArray), .string (⟨#[]⟩ : ByteArray), .string (⟨#[]⟩ : ByteArray), .string x299012_1, .string x299013_1]) ?_ 12 _ rfl; (with_reducible repeat (first | refine blk_drewN ?_ _ | refine blk_drew ?_ | refine blk_alloc ?_ _)); refine blk_put (cs := #[.string (⟨#[]⟩ : ByteArray), .string (⟨#[]⟩ : ByteArray), .string (⟨#[]⟩ : ByteArray), .string (⟨#[]⟩ : ByteArray), .string (⟨#[]⟩ : ByteArray), .string (⟨#[]⟩ : ByteArray), .string (⟨#[]⟩ : ByteArray), .string (⟨#[]⟩ : ByteArray), .string (⟨#[]⟩ : ByteArray), .string (⟨#[]⟩ : ByteArray), .string (⟨#[]⟩ : ByteArray), .string x299011_1, .string x299012_1, .string x299013_1]) ?_ 11 _ rfl; (with_reducible repeat (first | refine blk_drewN ?_ _ | refine blk_drew ?_ | refine blk_alloc ?_ _)); refine blk_put (cs := #[.string (⟨#[]⟩ : ByteArray), .string (⟨#[]⟩ : ByteArray), .string (⟨#[]⟩ : ByteArray), .string (⟨#[]⟩ : ByteArray), .string (⟨#[]⟩ : ByteArray), .string (⟨#[]⟩ : ByteArray), .string (⟨#[]⟩ : ByteArray), .string (⟨#[]⟩ : ByteArray), .string (⟨#[]⟩ : ByteArray), .string (⟨#[]⟩ : ByteArray), .string x299010_1, .string x299011_1, .string x299012_1, .string x299013_1]) ?_ 10 _ rfl; (with_reducible repeat (first | refine blk_drewN ?_ _ | refine blk_drew ?_ | refine blk_alloc ?_ _)); refine blk_put (cs := #[.string (⟨#[]⟩ : ByteArray), .string (⟨#[]⟩ : ByteArray), .string (⟨#[]⟩ : ByteArray), .string (⟨#[]⟩ : ByteArray), .string (⟨#[]⟩ : ByteArray), .string (⟨#[]⟩ : ByteArray), .string (⟨#[]⟩ : ByteArray), .string (⟨#[]⟩ : ByteArray), .string (⟨#[]⟩ : ByteArray), .string x299009_1, .string x299010_1, .string x299011_1, .string x299012_1, .string x299013_1]) ?_ 9 _ rfl; (with_reducible repeat (first | refine blk_drewN ?_ _ | refine blk_drew ?_ | refine blk_alloc ?_ _)); refine blk_put (cs := #[.string (⟨#[]⟩ : ByteArray), .string (⟨#[]⟩ : ByteArray), .string (⟨#[]⟩ : ByteArray), .string (⟨#[]⟩ : ByteArray), .string (⟨#[]⟩ : ByteArray), .string (⟨#[]⟩ : ByteArray), .string (⟨#[]⟩ : ByteArray), .string (⟨#[]⟩ : ByteArray), .string x299008_1, .string x299009_1, .string x299010_1, .string x299011_1, .string x299012_1, .string x299013_1]) ?_ 8 _ rfl; (with_reducible repeat (first | refine blk_drewN ?_ _ | refine blk_drew ?_ | refine blk_alloc ?_ _)); refine blk_put (cs := #[.string (⟨#[]⟩ : ByteArray), .string (⟨#[]⟩ : ByteArray), .string (⟨#[]⟩ : ByteArray), .string (⟨#[]⟩ : ByteArray), .string (⟨#[]⟩ : ByteArray), .string (⟨#[]⟩ : ByteArray), .string (⟨#[]⟩ : ByteArray), .string x299007_1, .string x299008_1, .string x299009_1, .string x299010_1, .string x299011_1, .string x299012_1, .string x299013_1]) ?_ 7 _ rfl; (with_reducible repeat (first | refine blk_drewN ?_ _ | refine blk_drew ?_ | refine blk_alloc ?_ _)); refine blk_put (cs := #[.string (⟨#[]⟩ : ByteArray), .string (⟨#[]⟩ : ByteArray), .string (⟨#[]⟩ : ByteArray), .string (⟨#[]⟩ : ByteArray), .string (⟨#[]⟩ : ByteArray), .string (⟨#[]⟩ : ByteArray), .string x299006_1, .string x299007_1, .string x299008_1, .string x299009_1, .string x299010_1, .string x299011_1, .string x299012_1, .string x299013_1]) ?_ 6 _ rfl; (with_reducible repeat (first | refine blk_drewN ?_ _ | refine blk_drew ?_ | refine blk_alloc ?_ _)); refine blk_put (cs := #[.string (⟨#[]⟩ : ByteArray), .string (⟨#[]⟩ : ByteArray), .string (⟨#[]⟩ : ByteArray), .string (⟨#[]⟩ : ByteArray), .string (⟨#[]⟩ : ByteArray), .string x299005_1, .string x299006_1, .string x299007_1, .string x299008_1, .string x299009_1, .string x299010_1, .string x299011_1, .string x299012_1, .string x299013_1]) ?_ 5 _ rfl; (with_reducible repeat (first | refine blk_drewN ?_ _ | refine blk_drew ?_ | refine blk_alloc ?_ _)); refine blk_put (cs := #[.string (⟨#[]⟩ : ByteArray), .string (⟨#[]⟩ : ByteArray), .string (⟨#[]⟩ : ByteArray), .string (⟨#[]⟩ : ByteArray), .string x299004_1, .string x299005_1, .string x299006_1, .string x299007_1, .string x299008_1, .string x299009_1, .string x299010_1, .string x299011_1, .string x299012_1, .string x299013_1]) ?_ 4 _ rfl; (with_reducible repeat (first | refine blk_drewN ?_ _ | refine blk_drew ?_ | refine blk_alloc ?_ _)); refine blk_put (cs := #[.string (⟨#[]⟩ : ByteArray), .string (⟨#[]⟩ : ByteArray), .string (⟨#[]⟩ : ByteArray), .string x299003_1, .string x299004_1, .string x299005_1, .string x299006_1, .string x299007_1, .string x299008_1, .string x299009_1, .string x299010_1, .string x299011_1, .string x299012_1, .string x299013_1]) ?_ 3 _ rfl; (with_reducible repeat (first | refine blk_drewN ?_ _ | refine blk_drew ?_ | refine blk_alloc ?_ _)); refine blk_put (cs := #[.string (⟨#[]⟩ : ByteArray), .string (⟨#[]⟩ : ByteArray), .string x299002_1, .string x299003_1, .string x299004_1, .string x299005_1, .string x299006_1, .string x299007_1, .string x299008_1, .string x299009_1, .string x299010_1, .string x299011_1, .string x299012_1, .string x299013_1]) ?_ 2 _ rfl; (with_reducible repeat (first | refine blk_drewN ?_ _ | refine blk_drew ?_ | refine blk_alloc ?_ _)); refine blk_put (cs := #[.string (⟨#[]⟩ : ByteArray), .string x299001_1, .string x299002_1, .string x299003_1, .string x299004_1, .string x299005_1, .string x299006_1, .string x299007_1, .string x299008_1, .string x299009_1, .string x299010_1, .string x299011_1, .string x299012_1, .string x299013_1]) ?_ 1 _ rfl; (with_reducible repeat (first | refine blk_drewN ?_ _ | refine blk_drew ?_ | refine blk_alloc ?_ _)); refine blk_put (cs := #[.string x299000_1, .string x299001_1, .string x299002_1, .string x299003_1, .string x299004_1, .string x299005_1, .string x299006_1, .string x299007_1, .string x299008_1, .string x299009_1, .string x299010_1, .string x299011_1, .string x299012_1, .string x299013_1]) ?_ 0 _ rfl; (with_reducible repeat (first | refine blk_drewN ?_ _ | refine blk_drew ?_ | refine blk_alloc ?_ _)); exact BK298.out) Tryd.underlying57 rfl (by kernel_rfl)) rfl ?_
        exact ⟨by first | rfl | (simp [errW_none, errW_some] <;> rfl) | (simp [*, errW_none, errW_some] <;> rfl) | (simp only [ne_nil_b]; first | done | rfl) | (simp [ne_nil_b]; done), by repeat (first | (with_reducible first | exact HB.out | apply below_alloc | apply pw_below_drewN | apply below_drew1 | refine below_set ?_ GE297.out | refine below_set ?_ GE298.out) | exact HB.out)⟩

end Go.Proofs.YtepahimiakgieaaDoor.Q
