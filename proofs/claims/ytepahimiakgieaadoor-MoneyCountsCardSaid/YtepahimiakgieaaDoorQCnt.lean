-- Written by a program of this session (mkp.py) over the translation.
import Derived.Test.YtepahimiakgieaaDoorFixed
import Derived.Test.YtepahimiakgieaaDoorExt
import Derived.Test.YtepahimiakgieaaDoorQ0
import Derived.Test.YtepahimiakgieaaDoorQ34
import Derived.Test.YtepahimiakgieaaDoorQ62
namespace Go.Proofs.YtepahimiakgieaaDoor.Q
open Go.RowKit Go.Proofs.YtepahimiakgieaaDoorW.PrintWords Go.Proofs.YtepahimiakgieaaDoorW.PrintLast Go.Proofs.YtepahimiakgieaaDoorW.PrintMore
attribute [local go_sem] max2_int min2_int max_two min_two max_three min_three max_four min_four   -- for this text's walks alone
set_option linter.unusedVariables false
set_option linter.unusedSimpArgs false

attribute [local go_sem high] eqA28
/-! ### quipulaw20_MoneyCounts: function 3 -/
def quipulaw20_MoneyCounts.j0 : Nat → Bool → Bool → ByteArray → ByteArray → ByteArray → ByteArray → ByteArray → ByteArray → ByteArray → ByteArray → ByteArray → Int → Int → Int → Int → Int → Int → Int → Int → Bool → Int → Bool → ByteArray → Int → Int → Bool → Int → Int → Option (Bool)
  | 0, _, _, _, _, _, _, _, _, _, _, _, _, _, _, _, _, _, _, _, _, _, _, _, _, _, _, _, _ => none
  | k + 1, x1, x35, x246000, x246001, x246002, x246003, x246004, x246005, x246006, x246007, x246008, x246009, x246010, x246011, x247000, x247001, x247002, x247003, x247004, x247005, x247006, x247007, x247008, x247009, x247010, x247011, x247012, x247013 => if x35 = true then ((quipulaw20_fixed.f).bind fun t247 => (some t247)) else ((money_Precision.f k x246000 x246001 x246002 x246003 x246004 x246005 x246006 x246007 x246008 x246009 x246010 x246011 x1 x247000 x247001 x247002 x247003 x247004 x247005 x247006 x247007 x247008 x247009 x247010 x247011 x247012 x247013).bind fun bt248 => ((quipuref20_Precision.f k x246000 x246001 x246002 x246003 x246004 x246005 x246006 x246007 x246008 x246009 x246010 x246011 x1 x247000 x247001 x247002 x247003 x247004 x247005 x247006 x247007 x247008 x247009 x247010 x247011 x247012 x247013).bind fun bt263 => (if (bt248.1 == bt263.1 && (bt248.2.1 == bt263.2.1 && (bt248.2.2.1 == bt263.2.2.1 && (bt248.2.2.2.1 == bt263.2.2.2.1 && (bt248.2.2.2.2.1 == bt263.2.2.2.2.1 && (bt248.2.2.2.2.2.1 == bt263.2.2.2.2.2.1 && ((bt248.2.2.2.2.2.2.1 == bt263.2.2.2.2.2.2.1 && (bt248.2.2.2.2.2.2.2.1 == bt263.2.2.2.2.2.2.2.1 && (bt248.2.2.2.2.2.2.2.2.1.toList == bt263.2.2.2.2.2.2.2.2.1.toList && (bt248.2.2.2.2.2.2.2.2.2.1 == bt263.2.2.2.2.2.2.2.2.2.1)))) && (bt248.2.2.2.2.2.2.2.2.2.2.1 == bt263.2.2.2.2.2.2.2.2.2.2.1 && (bt248.2.2.2.2.2.2.2.2.2.2.2.1 == bt263.2.2.2.2.2.2.2.2.2.2.2.1 && (bt248.2.2.2.2.2.2.2.2.2.2.2.2.1 == bt263.2.2.2.2.2.2.2.2.2.2.2.2.1 && (bt248.2.2.2.2.2.2.2.2.2.2.2.2.2 == bt263.2.2.2.2.2.2.2.2.2.2.2.2.2))))))))))) = true then ((money_Precision.f k x246000 x246001 x246002 x246003 x246004 x246005 x246006 x246007 x246008 x246009 x246010 x246011 x1 bt248.1 bt248.2.1 bt248.2.2.1 bt248.2.2.2.1 bt248.2.2.2.2.1 bt248.2.2.2.2.2.1 bt248.2.2.2.2.2.2.1 bt248.2.2.2.2.2.2.2.1 bt248.2.2.2.2.2.2.2.2.1 bt248.2.2.2.2.2.2.2.2.2.1 bt248.2.2.2.2.2.2.2.2.2.2.1 bt248.2.2.2.2.2.2.2.2.2.2.2.1 bt248.2.2.2.2.2.2.2.2.2.2.2.2.1 bt248.2.2.2.2.2.2.2.2.2.2.2.2.2).bind fun bt277 => (if (bt277.1 == bt248.1 && (bt277.2.1 == bt248.2.1 && (bt277.2.2.1 == bt248.2.2.1 && (bt277.2.2.2.1 == bt248.2.2.2.1 && (bt277.2.2.2.2.1 == bt248.2.2.2.2.1 && (bt277.2.2.2.2.2.1 == bt248.2.2.2.2.2.1 && ((bt277.2.2.2.2.2.2.1 == bt248.2.2.2.2.2.2.1 && (bt277.2.2.2.2.2.2.2.1 == bt248.2.2.2.2.2.2.2.1 && (bt277.2.2.2.2.2.2.2.2.1.toList == bt248.2.2.2.2.2.2.2.2.1.toList && (bt277.2.2.2.2.2.2.2.2.2.1 == bt248.2.2.2.2.2.2.2.2.2.1)))) && (bt277.2.2.2.2.2.2.2.2.2.2.1 == bt248.2.2.2.2.2.2.2.2.2.2.1 && (bt277.2.2.2.2.2.2.2.2.2.2.2.1 == bt248.2.2.2.2.2.2.2.2.2.2.2.1 && (bt277.2.2.2.2.2.2.2.2.2.2.2.2.1 == bt248.2.2.2.2.2.2.2.2.2.2.2.2.1 && (bt277.2.2.2.2.2.2.2.2.2.2.2.2.2 == bt248.2.2.2.2.2.2.2.2.2.2.2.2.2))))))))))) = true then (if x247000 = 0 then ((quipulaw20_fixed.f).bind fun t291 => (some t291)) else (if (bt248.1 == x247000 && (bt248.2.1 == x247001 && (bt248.2.2.1 == x247002 && (bt248.2.2.2.1 == x247003 && (bt248.2.2.2.2.1 == x247004 && (bt248.2.2.2.2.2.1 == x247005 && ((bt248.2.2.2.2.2.2.1 == x247006 && (bt248.2.2.2.2.2.2.2.1 == x247007 && (bt248.2.2.2.2.2.2.2.2.1.toList == x247008.toList && (bt248.2.2.2.2.2.2.2.2.2.1 == x247009)))) && (bt248.2.2.2.2.2.2.2.2.2.2.1 == x247010 && (bt248.2.2.2.2.2.2.2.2.2.2.2.1 == x247011 && (bt248.2.2.2.2.2.2.2.2.2.2.2.2.1 == x247012 && (bt248.2.2.2.2.2.2.2.2.2.2.2.2.2 == x247013))))))))))) = true then ((quipulaw20_fixed.f).bind fun t292 => (some t292)) else (some false))) else (some false))) else (some false))))
def quipulaw20_MoneyCounts.f (k : Nat) (a0_0 : ByteArray) (a0_1 : ByteArray) (a0_2 : ByteArray) (a0_3 : ByteArray) (a0_4 : ByteArray) (a0_5 : ByteArray) (a0_6 : ByteArray) (a0_7 : ByteArray) (a0_8 : ByteArray) (a0_9 : Int) (a0_10 : Int) (a0_11 : Int) (a1 : Bool) (a2_0 : Int) (a2_1 : Int) (a2_2 : Int) (a2_3 : Int) (a2_4 : Int) (a2_5 : Bool) (a2_6 : Int) (a2_7 : Bool) (a2_8 : ByteArray) (a2_9 : Int) (a2_10 : Int) (a2_11 : Bool) (a2_12 : Int) (a2_13 : Int) : Option (Bool) := if a0_9 < 0 then (quipulaw20_MoneyCounts.j0 k a1 true a0_0 a0_1 a0_2 a0_3 a0_4 a0_5 a0_6 a0_7 a0_8 a0_9 a0_10 a0_11 a2_0 a2_1 a2_2 a2_3 a2_4 a2_5 a2_6 a2_7 a2_8 a2_9 a2_10 a2_11 a2_12 a2_13) else (if a0_9 > 9 then (quipulaw20_MoneyCounts.j0 k a1 true a0_0 a0_1 a0_2 a0_3 a0_4 a0_5 a0_6 a0_7 a0_8 a0_9 a0_10 a0_11 a2_0 a2_1 a2_2 a2_3 a2_4 a2_5 a2_6 a2_7 a2_8 a2_9 a2_10 a2_11 a2_12 a2_13) else (if a0_10 < 0 then (quipulaw20_MoneyCounts.j0 k a1 true a0_0 a0_1 a0_2 a0_3 a0_4 a0_5 a0_6 a0_7 a0_8 a0_9 a0_10 a0_11 a2_0 a2_1 a2_2 a2_3 a2_4 a2_5 a2_6 a2_7 a2_8 a2_9 a2_10 a2_11 a2_12 a2_13) else (if a0_10 > 9 then (quipulaw20_MoneyCounts.j0 k a1 true a0_0 a0_1 a0_2 a0_3 a0_4 a0_5 a0_6 a0_7 a0_8 a0_9 a0_10 a0_11 a2_0 a2_1 a2_2 a2_3 a2_4 a2_5 a2_6 a2_7 a2_8 a2_9 a2_10 a2_11 a2_12 a2_13) else (if a0_11 < 0 then (quipulaw20_MoneyCounts.j0 k a1 true a0_0 a0_1 a0_2 a0_3 a0_4 a0_5 a0_6 a0_7 a0_8 a0_9 a0_10 a0_11 a2_0 a2_1 a2_2 a2_3 a2_4 a2_5 a2_6 a2_7 a2_8 a2_9 a2_10 a2_11 a2_12 a2_13) else (quipulaw20_MoneyCounts.j0 k a1 (decide (a0_11 > 999)) a0_0 a0_1 a0_2 a0_3 a0_4 a0_5 a0_6 a0_7 a0_8 a0_9 a0_10 a0_11 a2_0 a2_1 a2_2 a2_3 a2_4 a2_5 a2_6 a2_7 a2_8 a2_9 a2_10 a2_11 a2_12 a2_13)))))
theorem quipulaw20_MoneyCounts.mono_l : ∀ k, (∀ y0 y1 y2 y3 y4 y5 y6 y7 y8 y9 y10 y11 y12 y13 y14 y15 y16 y17 y18 y19 y20 y21 y22 y23 y24 y25 y26 y27, LeO (quipulaw20_MoneyCounts.j0 k y0 y1 y2 y3 y4 y5 y6 y7 y8 y9 y10 y11 y12 y13 y14 y15 y16 y17 y18 y19 y20 y21 y22 y23 y24 y25 y26 y27) (quipulaw20_MoneyCounts.j0 (k + 1) y0 y1 y2 y3 y4 y5 y6 y7 y8 y9 y10 y11 y12 y13 y14 y15 y16 y17 y18 y19 y20 y21 y22 y23 y24 y25 y26 y27))
  | 0 => fun _ _ _ _ _ _ _ _ _ _ _ _ _ _ _ _ _ _ _ _ _ _ _ _ _ _ _ _ r h => by simp [quipulaw20_MoneyCounts.j0] at h
  | k + 1 => by
    have ih0 := quipulaw20_MoneyCounts.mono_l k
    · intro y0 y1 y2 y3 y4 y5 y6 y7 y8 y9 y10 y11 y12 y13 y14 y15 y16 y17 y18 y19 y20 y21 y22 y23 y24 y25 y26 y27
      unfold quipulaw20_MoneyCounts.j0
      repeat' first
      | (with_reducible exact ih0 _ _ _ _ _ _ _ _ _ _ _ _ _ _ _ _ _ _ _ _ _ _ _ _ _ _ _ _)
      | (with_reducible exact money_Precision.mono _ _ _ _ _ _ _ _ _ _ _ _ _ _ _ _ _ _ _ _ _ _ _ _ _ _ _ _)
      | (with_reducible exact quipuref20_Precision.mono _ _ _ _ _ _ _ _ _ _ _ _ _ _ _ _ _ _ _ _ _ _ _ _ _ _ _ _)
      | (with_reducible exact LeO.refl _)
      | (with_reducible exact LeO.none _)
      | (with_reducible refine LeO.ite ?_ ?_)
      | (with_reducible refine LeO.bind ?_ (fun _ => ?_))
      | exact ih0 _ _ _ _ _ _ _ _ _ _ _ _ _ _ _ _ _ _ _ _ _ _ _ _ _ _ _ _
      | exact money_Precision.mono _ _ _ _ _ _ _ _ _ _ _ _ _ _ _ _ _ _ _ _ _ _ _ _ _ _ _ _
      | exact quipuref20_Precision.mono _ _ _ _ _ _ _ _ _ _ _ _ _ _ _ _ _ _ _ _ _ _ _ _ _ _ _ _
      | exact LeO.none _
      | refine LeO.ite ?_ ?_
      | refine LeO.bind ?_ (fun _ => ?_)
theorem quipulaw20_MoneyCounts.mono : ∀ a0 a1 a2 a3 a4 a5 a6 a7 a8 a9 a10 a11 a12 a13 a14 a15 a16 a17 a18 a19 a20 a21 a22 a23 a24 a25 a26 k, LeO (quipulaw20_MoneyCounts.f k a0 a1 a2 a3 a4 a5 a6 a7 a8 a9 a10 a11 a12 a13 a14 a15 a16 a17 a18 a19 a20 a21 a22 a23 a24 a25 a26) (quipulaw20_MoneyCounts.f (k + 1) a0 a1 a2 a3 a4 a5 a6 a7 a8 a9 a10 a11 a12 a13 a14 a15 a16 a17 a18 a19 a20 a21 a22 a23 a24 a25 a26) := by
  intro a0 a1 a2 a3 a4 a5 a6 a7 a8 a9 a10 a11 a12 a13 a14 a15 a16 a17 a18 a19 a20 a21 a22 a23 a24 a25 a26 k
  have ih0 := quipulaw20_MoneyCounts.mono_l k
  unfold quipulaw20_MoneyCounts.f
  repeat' first
      | (with_reducible exact ih0 _ _ _ _ _ _ _ _ _ _ _ _ _ _ _ _ _ _ _ _ _ _ _ _ _ _ _ _)
      | (with_reducible exact money_Precision.mono _ _ _ _ _ _ _ _ _ _ _ _ _ _ _ _ _ _ _ _ _ _ _ _ _ _ _ _)
      | (with_reducible exact quipuref20_Precision.mono _ _ _ _ _ _ _ _ _ _ _ _ _ _ _ _ _ _ _ _ _ _ _ _ _ _ _ _)
      | (with_reducible exact LeO.refl _)
      | (with_reducible exact LeO.none _)
      | (with_reducible refine LeO.ite ?_ ?_)
      | (with_reducible refine LeO.bind ?_ (fun _ => ?_))
      | exact ih0 _ _ _ _ _ _ _ _ _ _ _ _ _ _ _ _ _ _ _ _ _ _ _ _ _ _ _ _
      | exact money_Precision.mono _ _ _ _ _ _ _ _ _ _ _ _ _ _ _ _ _ _ _ _ _ _ _ _ _ _ _ _
      | exact quipuref20_Precision.mono _ _ _ _ _ _ _ _ _ _ _ _ _ _ _ _ _ _ _ _ _ _ _ _ _ _ _ _
      | exact LeO.none _
      | refine LeO.ite ?_ ?_
      | refine LeO.bind ?_ (fun _ => ?_)
def quipulaw20_MoneyCounts.T4 : Bool × List (List Nat × List Nat) := (true, [([], []), ([], []), ([], []), ([], []), ([1, 2, 3], [1, 2, 3]), ([0, 4], [0, 4]), ([5, 4], [5]), ([6], [6]), ([6], [6]), ([6], [6]), ([7, 8, 9, 6, 6], [6, 7, 8, 9]), ([6], [6]), ([10, 11, 6], [6, 10, 11]), ([6, 12], [6, 12]), ([13, 10], [13]), ([14], [14]), ([15, 14], [14, 15]), ([16, 14], [14, 16]), ([17, 14, 14], [14, 17]), ([18], [18]), ([18], [18]), ([19, 20, 18], [18, 19, 20]), ([18, 21, 14], [14, 18, 21]), ([14, 22], [14, 22]), ([23, 18], [23]), ([24, 24], [24]), ([24, 25], [24, 25]), ([26, 25, 0, 1, 2, 3, 4, 5, 6, 7, 8, 9, 10, 11, 12, 13, 14, 15, 16, 17, 18, 19, 20, 21, 22, 23, 24, 25, 26], [26])])
def quipulaw20_MoneyCounts.B4 : List Nat := [0, 0, 0, 0, 14, 31, 63, 127, 127, 127, 1023, 127, 4095, 8191, 16383, 32767, 65535, 131071, 262143, 524287, 524287, 2097151, 4194303, 8388607, 16777215, 33554431, 67108863, 134217727]
theorem quipulaw20_MoneyCounts.tab4 : rtab .any (opsOf Tryd.f3 4) = quipulaw20_MoneyCounts.T4 := by kernel_rfl
theorem quipulaw20_MoneyCounts.bits4 : waitsOk quipulaw20_MoneyCounts.T4.2 quipulaw20_MoneyCounts.B4 = true := by kernel_rfl
set_option maxHeartbeats 8000000 in
set_option maxRecDepth 100000 in
theorem quipulaw20_MoneyCounts.calls (k : Nat) (a0_0 : ByteArray) (a0_1 : ByteArray) (a0_2 : ByteArray) (a0_3 : ByteArray) (a0_4 : ByteArray) (a0_5 : ByteArray) (a0_6 : ByteArray) (a0_7 : ByteArray) (a0_8 : ByteArray) (a0_9 : Int) (a0_10 : Int) (a0_11 : Int) (a1 : Bool) (a2_0 : Int) (a2_1 : Int) (a2_2 : Int) (a2_3 : Int) (a2_4 : Int) (a2_5 : Bool) (a2_6 : Int) (a2_7 : Bool) (a2_8 : ByteArray) (a2_9 : Int) (a2_10 : Int) (a2_11 : Bool) (a2_12 : Int) (a2_13 : Int) (w : World) (hG : Gd w) (h : quipulaw20_MoneyCounts.f k a0_0 a0_1 a0_2 a0_3 a0_4 a0_5 a0_6 a0_7 a0_8 a0_9 a0_10 a0_11 a1 a2_0 a2_1 a2_2 a2_3 a2_4 a2_5 a2_6 a2_7 a2_8 a2_9 a2_10 a2_11 a2_12 a2_13 = some true) :
    Calls Tryd.prog 3 #[.agg #[.string a0_0, .string a0_1, .string a0_2, .string a0_3, .string a0_4, .string a0_5, .string a0_6, .string a0_7, .string a0_8, .int .i64 a0_9, .int .i64 a0_10, .int .i64 a0_11], .bool a1, .agg #[.int .i64 a2_0, .int .i64 a2_1, .int .i64 a2_2, .int .i64 a2_3, .int .i64 a2_4, .bool a2_5, .int .i64 a2_6, .bool a2_7, .string a2_8, .int .i64 a2_9, .int .i64 a2_10, .bool a2_11, .int .i64 a2_12, .int .i64 a2_13]] w fun e w' => e = .returned (.bool true) ∧ Below w.heap.size w w' := by
  have hu24 := Tryd.underlying24
  have hu28 := Tryd.underlying28
  have HB := Aside0.mk (Below.refl w.heap.size w)
  have HG := Aside0.mk hG
  clear hG
  have H : (if a0_9 < 0 then (quipulaw20_MoneyCounts.j0 k a1 true a0_0 a0_1 a0_2 a0_3 a0_4 a0_5 a0_6 a0_7 a0_8 a0_9 a0_10 a0_11 a2_0 a2_1 a2_2 a2_3 a2_4 a2_5 a2_6 a2_7 a2_8 a2_9 a2_10 a2_11 a2_12 a2_13) else (if a0_9 > 9 then (quipulaw20_MoneyCounts.j0 k a1 true a0_0 a0_1 a0_2 a0_3 a0_4 a0_5 a0_6 a0_7 a0_8 a0_9 a0_10 a0_11 a2_0 a2_1 a2_2 a2_3 a2_4 a2_5 a2_6 a2_7 a2_8 a2_9 a2_10 a2_11 a2_12 a2_13) else (if a0_10 < 0 then (quipulaw20_MoneyCounts.j0 k a1 true a0_0 a0_1 a0_2 a0_3 a0_4 a0_5 a0_6 a0_7 a0_8 a0_9 a0_10 a0_11 a2_0 a2_1 a2_2 a2_3 a2_4 a2_5 a2_6 a2_7 a2_8 a2_9 a2_10 a2_11 a2_12 a2_13) else (if a0_10 > 9 then (quipulaw20_MoneyCounts.j0 k a1 true a0_0 a0_1 a0_2 a0_3 a0_4 a0_5 a0_6 a0_7 a0_8 a0_9 a0_10 a0_11 a2_0 a2_1 a2_2 a2_3 a2_4 a2_5 a2_6 a2_7 a2_8 a2_9 a2_10 a2_11 a2_12 a2_13) else (if a0_11 < 0 then (quipulaw20_MoneyCounts.j0 k a1 true a0_0 a0_1 a0_2 a0_3 a0_4 a0_5 a0_6 a0_7 a0_8 a0_9 a0_10 a0_11 a2_0 a2_1 a2_2 a2_3 a2_4 a2_5 a2_6 a2_7 a2_8 a2_9 a2_10 a2_11 a2_12 a2_13) else (quipulaw20_MoneyCounts.j0 k a1 (decide (a0_11 > 999)) a0_0 a0_1 a0_2 a0_3 a0_4 a0_5 a0_6 a0_7 a0_8 a0_9 a0_10 a0_11 a2_0 a2_1 a2_2 a2_3 a2_4 a2_5 a2_6 a2_7 a2_8 a2_9 a2_10 a2_11 a2_12 a2_13)))))) = some true := h
  clear h
  have HC4 := Aside0.mk H
  clear H
  go_enter Tryd.func3, Tryd.ntmps3
  go_upto_region 1 with (first | ((with_reducible refine gate_dst (N := 3) rfl ?_); refine box_event ?hg (N := 3) ?hd (cs := #[.string a0_0, .string a0_1, .string a0_2, .string a0_3, .string a0_4, .string a0_5, .string a0_6, .string a0_7, .string a0_8, .int .i64 a0_9, .int .i64 a0_10, .int .i64 a0_11]) (t := 24) ?hr ?_; (case hd => rfl); (case hg => rfl); (case hr => first | (go_simp; done) | (go_simp; rfl)); intro gb245 hg w5 hbox hb; have n0_ := Aside0.mk (below_step (by repeat (first | (with_reducible first | exact HB.out | apply below_alloc | apply pw_below_drewN | apply below_drew1) | exact HB.out)) hb); have n1_ := Aside0.mk (hbox); have n2_ := Aside0.mk ((by rw [hg]; exact (below_size (by repeat (first | (with_reducible first | exact HB.out | apply below_alloc | apply pw_below_drewN | apply below_drew1) | exact HB.out))) : w.heap.size ≤ gb245)); have n3_ := Aside0.mk ((by rw [hg]; exact (below_size (by repeat (first | (with_reducible first | exact HB.out | apply below_alloc | apply pw_below_drewN | apply below_drew1) | exact HB.out))) : w.heap.size ≤ gb245)); clear HB; have HB := n0_; have BK245 := n1_; have GW245 := n2_; have GE245 := n3_; clear n0_ n1_ n2_ n3_; clear hb hbox hg) | ((with_reducible refine gate_dst (N := 5) rfl ?_); refine box_event ?hg (N := 5) ?hd (cs := #[.int .i64 a2_0, .int .i64 a2_1, .int .i64 a2_2, .int .i64 a2_3, .int .i64 a2_4, .bool a2_5, .int .i64 a2_6, .bool a2_7, .string a2_8, .int .i64 a2_9, .int .i64 a2_10, .bool a2_11, .int .i64 a2_12, .int .i64 a2_13]) (t := 28) ?hr ?_; (case hd => rfl); (case hg => rfl); (case hr => first | (go_simp; done) | (go_simp; rfl)); intro gb246 hg w6 hbox hb; have n0_ := Aside0.mk (blk_below (g := gb245) (o := .cells #[.string a0_0, .string a0_1, .string a0_2, .string a0_3, .string a0_4, .string a0_5, .string a0_6, .string a0_7, .string a0_8, .int .i64 a0_9, .int .i64 a0_10, .int .i64 a0_11] 24 (0, 0)) (by (with_reducible repeat (first | refine blk_drewN ?_ _ | refine blk_drew ?_ | refine blk_alloc ?_ _)); exact BK245.out) hb); have n1_ := Aside0.mk (below_step (by repeat (first | (with_reducible first | exact HB.out | apply below_alloc | apply pw_below_drewN | apply below_drew1 | refine below_set ?_ GE245.out) | exact HB.out)) hb); have n2_ := Aside0.mk (hbox); have n3_ := Aside0.mk ((by rw [hg]; exact (below_size (by repeat (first | (with_reducible first | exact HB.out | apply below_alloc | apply pw_below_drewN | apply below_drew1 | refine below_set ?_ GE245.out) | exact HB.out))) : w.heap.size ≤ gb246)); have n4_ := Aside0.mk ((by rw [hg]; exact (below_size (by repeat (first | (with_reducible first | exact HB.out | apply below_alloc | apply pw_below_drewN | apply below_drew1 | refine below_set ?_ GE245.out) | exact HB.out))) : w.heap.size ≤ gb246)); have n5_ := Aside0.mk ((by rw [hg]; exact Nat.ne_of_lt (blk_lt (g := gb245) (o := .cells #[.string a0_0, .string a0_1, .string a0_2, .string a0_3, .string a0_4, .string a0_5, .string a0_6, .string a0_7, .string a0_8, .int .i64 a0_9, .int .i64 a0_10, .int .i64 a0_11] 24 (0, 0)) (by (with_reducible repeat (first | refine blk_drewN ?_ _ | refine blk_drew ?_ | refine blk_alloc ?_ _)); exact BK245.out)) : gb245 ≠ gb246)); have n6_ := Aside0.mk ((by rw [hg]; exact Nat.ne_of_gt (blk_lt (g := gb245) (o := .cells #[.string a0_0, .string a0_1, .string a0_2, .string a0_3, .string a0_4, .string a0_5, .string a0_6, .string a0_7, .string a0_8, .int .i64 a0_9, .int .i64 a0_10, .int .i64 a0_11] 24 (0, 0)) (by (with_reducible repeat (first | refine blk_drewN ?_ _ | refine blk_drew ?_ | refine blk_alloc ?_ _)); exact BK245.out)) : gb246 ≠ gb245)); clear BK245; clear HB; have BK245 := n0_; have HB := n1_; have BK246 := n2_; have GW246 := n3_; have GE246 := n4_; have NB245_246 := n5_; have NB246_245 := n6_; clear n0_ n1_ n2_ n3_ n4_ n5_ n6_; clear hb hbox hg))
  (try simp only [Act.put, List.setIfInBounds_toArray, List.set_cons_zero, List.set_cons_succ])
  go_cut [35] (fun v35 wc => ∃ (kq : Nat) (x35_3 : Bool), v35 = .bool x35_3 ∧ Aside0 (quipulaw20_MoneyCounts.j0 kq a1 x35_3 a0_0 a0_1 a0_2 a0_3 a0_4 a0_5 a0_6 a0_7 a0_8 a0_9 a0_10 a0_11 a2_0 a2_1 a2_2 a2_3 a2_4 a2_5 a2_6 a2_7 a2_8 a2_9 a2_10 a2_11 a2_12 a2_13 = some true) ∧ Aside0 (kq ≤ k) ∧ Aside0 (wc.heap[gb245]? = some (.cells #[.string a0_0, .string a0_1, .string a0_2, .string a0_3, .string a0_4, .string a0_5, .string a0_6, .string a0_7, .string a0_8, .int .i64 a0_9, .int .i64 a0_10, .int .i64 a0_11] 24 (0, 0))) ∧ Aside0 (wc.heap[gb246]? = some (.cells #[.int .i64 a2_0, .int .i64 a2_1, .int .i64 a2_2, .int .i64 a2_3, .int .i64 a2_4, .bool a2_5, .int .i64 a2_6, .bool a2_7, .string a2_8, .int .i64 a2_9, .int .i64 a2_10, .bool a2_11, .int .i64 a2_12, .int .i64 a2_13] 28 (0, 0))) ∧ Aside0 (Below w.heap.size w wc))
  case first =>
    have H := HC4.out
    clear HC4
    by_cases c7 : a0_9 < 0
    · rw [if_pos c7] at H
      have c7b0 : decide (a0_9 < 0) = true := decide_eq_true c7
      clear c7
      (first | rw [c7b0] | rw [c7b1] | (simp only [i64_w, i32_w]; rw [c7b0]) | skip)
      have H' := Aside0.mk H
      clear H
      have hnb8 := NB245_246.out
      have hnc8 := NB246_245.out
      have hcz9_0 : w6.cell? ⟨gb245, 0, none⟩ = some (.string a0_0) := (blk_cell BK245.out 0).trans rfl
      have hcz9_1 : w6.cell? ⟨gb245, 1, none⟩ = some (.string a0_1) := (blk_cell BK245.out 1).trans rfl
      have hcz9_2 : w6.cell? ⟨gb245, 2, none⟩ = some (.string a0_2) := (blk_cell BK245.out 2).trans rfl
      have hcz9_3 : w6.cell? ⟨gb245, 3, none⟩ = some (.string a0_3) := (blk_cell BK245.out 3).trans rfl
      have hcz9_4 : w6.cell? ⟨gb245, 4, none⟩ = some (.string a0_4) := (blk_cell BK245.out 4).trans rfl
      have hcz9_5 : w6.cell? ⟨gb245, 5, none⟩ = some (.string a0_5) := (blk_cell BK245.out 5).trans rfl
      have hcz9_6 : w6.cell? ⟨gb245, 6, none⟩ = some (.string a0_6) := (blk_cell BK245.out 6).trans rfl
      have hcz9_7 : w6.cell? ⟨gb245, 7, none⟩ = some (.string a0_7) := (blk_cell BK245.out 7).trans rfl
      have hcz9_8 : w6.cell? ⟨gb245, 8, none⟩ = some (.string a0_8) := (blk_cell BK245.out 8).trans rfl
      have hcz9_9 : w6.cell? ⟨gb245, 9, none⟩ = some (.int .i64 a0_9) := (blk_cell BK245.out 9).trans rfl
      have hcz9_10 : w6.cell? ⟨gb245, 10, none⟩ = some (.int .i64 a0_10) := (blk_cell BK245.out 10).trans rfl
      have hcz9_11 : w6.cell? ⟨gb245, 11, none⟩ = some (.int .i64 a0_11) := (blk_cell BK245.out 11).trans rfl
      have hfz9_0 := blk_frozen BK245.out 0
      have hfz9_1 := blk_frozen BK245.out 1
      have hfz9_2 := blk_frozen BK245.out 2
      have hfz9_3 := blk_frozen BK245.out 3
      have hfz9_4 := blk_frozen BK245.out 4
      have hfz9_5 := blk_frozen BK245.out 5
      have hfz9_6 := blk_frozen BK245.out 6
      have hfz9_7 := blk_frozen BK245.out 7
      have hfz9_8 := blk_frozen BK245.out 8
      have hfz9_9 := blk_frozen BK245.out 9
      have hfz9_10 := blk_frozen BK245.out 10
      have hfz9_11 := blk_frozen BK245.out 11
      go_wp2
      go_meet
      case rel => exact ⟨_, (true), (by first | rfl | (simp; done) | (simp [*]; done)), H', ⟨by first | omega | exact Nat.le_refl _⟩, ⟨by (with_reducible repeat (first | refine blk_drewN ?_ _ | refine blk_drew ?_ | refine blk_alloc ?_ _)); exact BK245.out⟩, ⟨by (with_reducible repeat (first | refine blk_drewN ?_ _ | refine blk_drew ?_ | refine blk_alloc ?_ _)); exact BK246.out⟩, ⟨by repeat (first | (with_reducible first | exact HB.out | apply below_alloc | apply pw_below_drewN | apply below_drew1 | refine below_set ?_ GE245.out | refine below_set ?_ GE246.out) | exact HB.out)⟩⟩
    · rw [if_neg c7] at H
      have c7b0 : decide (a0_9 < 0) = false := decide_eq_false c7
      clear c7
      (first | rw [c7b0] | rw [c7b1] | (simp only [i64_w, i32_w]; rw [c7b0]) | skip)
      by_cases c10 : a0_9 > 9
      · rw [if_pos c10] at H
        have c10b0 : decide (9 < a0_9) = true := decide_eq_true c10
        clear c10
        have H' := Aside0.mk H
        clear H
        have hnb11 := NB245_246.out
        have hnc11 := NB246_245.out
        have hcz12_0 : w6.cell? ⟨gb245, 0, none⟩ = some (.string a0_0) := (blk_cell BK245.out 0).trans rfl
        have hcz12_1 : w6.cell? ⟨gb245, 1, none⟩ = some (.string a0_1) := (blk_cell BK245.out 1).trans rfl
        have hcz12_2 : w6.cell? ⟨gb245, 2, none⟩ = some (.string a0_2) := (blk_cell BK245.out 2).trans rfl
        have hcz12_3 : w6.cell? ⟨gb245, 3, none⟩ = some (.string a0_3) := (blk_cell BK245.out 3).trans rfl
        have hcz12_4 : w6.cell? ⟨gb245, 4, none⟩ = some (.string a0_4) := (blk_cell BK245.out 4).trans rfl
        have hcz12_5 : w6.cell? ⟨gb245, 5, none⟩ = some (.string a0_5) := (blk_cell BK245.out 5).trans rfl
        have hcz12_6 : w6.cell? ⟨gb245, 6, none⟩ = some (.string a0_6) := (blk_cell BK245.out 6).trans rfl
        have hcz12_7 : w6.cell? ⟨gb245, 7, none⟩ = some (.string a0_7) := (blk_cell BK245.out 7).trans rfl
        have hcz12_8 : w6.cell? ⟨gb245, 8, none⟩ = some (.string a0_8) := (blk_cell BK245.out 8).trans rfl
        have hcz12_9 : w6.cell? ⟨gb245, 9, none⟩ = some (.int .i64 a0_9) := (blk_cell BK245.out 9).trans rfl
        have hcz12_10 : w6.cell? ⟨gb245, 10, none⟩ = some (.int .i64 a0_10) := (blk_cell BK245.out 10).trans rfl
        have hcz12_11 : w6.cell? ⟨gb245, 11, none⟩ = some (.int .i64 a0_11) := (blk_cell BK245.out 11).trans rfl
        have hfz12_0 := blk_frozen BK245.out 0
        have hfz12_1 := blk_frozen BK245.out 1
        have hfz12_2 := blk_frozen BK245.out 2
        have hfz12_3 := blk_frozen BK245.out 3
        have hfz12_4 := blk_frozen BK245.out 4
        have hfz12_5 := blk_frozen BK245.out 5
        have hfz12_6 := blk_frozen BK245.out 6
        have hfz12_7 := blk_frozen BK245.out 7
        have hfz12_8 := blk_frozen BK245.out 8
        have hfz12_9 := blk_frozen BK245.out 9
        have hfz12_10 := blk_frozen BK245.out 10
        have hfz12_11 := blk_frozen BK245.out 11
        go_wp2
        go_meet
        case rel => exact ⟨_, (true), (by first | rfl | (simp; done) | (simp [*]; done)), H', ⟨by first | omega | exact Nat.le_refl _⟩, ⟨by (with_reducible repeat (first | refine blk_drewN ?_ _ | refine blk_drew ?_ | refine blk_alloc ?_ _)); exact BK245.out⟩, ⟨by (with_reducible repeat (first | refine blk_drewN ?_ _ | refine blk_drew ?_ | refine blk_alloc ?_ _)); exact BK246.out⟩, ⟨by repeat (first | (with_reducible first | exact HB.out | apply below_alloc | apply pw_below_drewN | apply below_drew1 | refine below_set ?_ GE245.out | refine below_set ?_ GE246.out) | exact HB.out)⟩⟩
      · rw [if_neg c10] at H
        have c10b0 : decide (9 < a0_9) = false := decide_eq_false c10
        clear c10
        by_cases c13 : a0_10 < 0
        · rw [if_pos c13] at H
          have c13b0 : decide (a0_10 < 0) = true := decide_eq_true c13
          clear c13
          have H' := Aside0.mk H
          clear H
          have hnb14 := NB245_246.out
          have hnc14 := NB246_245.out
          have hcz15_0 : w6.cell? ⟨gb245, 0, none⟩ = some (.string a0_0) := (blk_cell BK245.out 0).trans rfl
          have hcz15_1 : w6.cell? ⟨gb245, 1, none⟩ = some (.string a0_1) := (blk_cell BK245.out 1).trans rfl
          have hcz15_2 : w6.cell? ⟨gb245, 2, none⟩ = some (.string a0_2) := (blk_cell BK245.out 2).trans rfl
          have hcz15_3 : w6.cell? ⟨gb245, 3, none⟩ = some (.string a0_3) := (blk_cell BK245.out 3).trans rfl
          have hcz15_4 : w6.cell? ⟨gb245, 4, none⟩ = some (.string a0_4) := (blk_cell BK245.out 4).trans rfl
          have hcz15_5 : w6.cell? ⟨gb245, 5, none⟩ = some (.string a0_5) := (blk_cell BK245.out 5).trans rfl
          have hcz15_6 : w6.cell? ⟨gb245, 6, none⟩ = some (.string a0_6) := (blk_cell BK245.out 6).trans rfl
          have hcz15_7 : w6.cell? ⟨gb245, 7, none⟩ = some (.string a0_7) := (blk_cell BK245.out 7).trans rfl
          have hcz15_8 : w6.cell? ⟨gb245, 8, none⟩ = some (.string a0_8) := (blk_cell BK245.out 8).trans rfl
          have hcz15_9 : w6.cell? ⟨gb245, 9, none⟩ = some (.int .i64 a0_9) := (blk_cell BK245.out 9).trans rfl
          have hcz15_10 : w6.cell? ⟨gb245, 10, none⟩ = some (.int .i64 a0_10) := (blk_cell BK245.out 10).trans rfl
          have hcz15_11 : w6.cell? ⟨gb245, 11, none⟩ = some (.int .i64 a0_11) := (blk_cell BK245.out 11).trans rfl
          have hfz15_0 := blk_frozen BK245.out 0
          have hfz15_1 := blk_frozen BK245.out 1
          have hfz15_2 := blk_frozen BK245.out 2
          have hfz15_3 := blk_frozen BK245.out 3
          have hfz15_4 := blk_frozen BK245.out 4
          have hfz15_5 := blk_frozen BK245.out 5
          have hfz15_6 := blk_frozen BK245.out 6
          have hfz15_7 := blk_frozen BK245.out 7
          have hfz15_8 := blk_frozen BK245.out 8
          have hfz15_9 := blk_frozen BK245.out 9
          have hfz15_10 := blk_frozen BK245.out 10
          have hfz15_11 := blk_frozen BK245.out 11
          go_wp2
          go_meet
          case rel => exact ⟨_, (true), (by first | rfl | (simp; done) | (simp [*]; done)), H', ⟨by first | omega | exact Nat.le_refl _⟩, ⟨by (with_reducible repeat (first | refine blk_drewN ?_ _ | refine blk_drew ?_ | refine blk_alloc ?_ _)); exact BK245.out⟩, ⟨by (with_reducible repeat (first | refine blk_drewN ?_ _ | refine blk_drew ?_ | refine blk_alloc ?_ _)); exact BK246.out⟩, ⟨by repeat (first | (with_reducible first | exact HB.out | apply below_alloc | apply pw_below_drewN | apply below_drew1 | refine below_set ?_ GE245.out | refine below_set ?_ GE246.out) | exact HB.out)⟩⟩
        · rw [if_neg c13] at H
          have c13b0 : decide (a0_10 < 0) = false := decide_eq_false c13
          clear c13
          by_cases c16 : a0_10 > 9
          · rw [if_pos c16] at H
            have c16b0 : decide (9 < a0_10) = true := decide_eq_true c16
            clear c16
            have H' := Aside0.mk H
            clear H
            have hnb17 := NB245_246.out
            have hnc17 := NB246_245.out
            have hcz18_0 : w6.cell? ⟨gb245, 0, none⟩ = some (.string a0_0) := (blk_cell BK245.out 0).trans rfl
            have hcz18_1 : w6.cell? ⟨gb245, 1, none⟩ = some (.string a0_1) := (blk_cell BK245.out 1).trans rfl
            have hcz18_2 : w6.cell? ⟨gb245, 2, none⟩ = some (.string a0_2) := (blk_cell BK245.out 2).trans rfl
            have hcz18_3 : w6.cell? ⟨gb245, 3, none⟩ = some (.string a0_3) := (blk_cell BK245.out 3).trans rfl
            have hcz18_4 : w6.cell? ⟨gb245, 4, none⟩ = some (.string a0_4) := (blk_cell BK245.out 4).trans rfl
            have hcz18_5 : w6.cell? ⟨gb245, 5, none⟩ = some (.string a0_5) := (blk_cell BK245.out 5).trans rfl
            have hcz18_6 : w6.cell? ⟨gb245, 6, none⟩ = some (.string a0_6) := (blk_cell BK245.out 6).trans rfl
            have hcz18_7 : w6.cell? ⟨gb245, 7, none⟩ = some (.string a0_7) := (blk_cell BK245.out 7).trans rfl
            have hcz18_8 : w6.cell? ⟨gb245, 8, none⟩ = some (.string a0_8) := (blk_cell BK245.out 8).trans rfl
            have hcz18_9 : w6.cell? ⟨gb245, 9, none⟩ = some (.int .i64 a0_9) := (blk_cell BK245.out 9).trans rfl
            have hcz18_10 : w6.cell? ⟨gb245, 10, none⟩ = some (.int .i64 a0_10) := (blk_cell BK245.out 10).trans rfl
            have hcz18_11 : w6.cell? ⟨gb245, 11, none⟩ = some (.int .i64 a0_11) := (blk_cell BK245.out 11).trans rfl
            have hfz18_0 := blk_frozen BK245.out 0
            have hfz18_1 := blk_frozen BK245.out 1
            have hfz18_2 := blk_frozen BK245.out 2
            have hfz18_3 := blk_frozen BK245.out 3
            have hfz18_4 := blk_frozen BK245.out 4
            have hfz18_5 := blk_frozen BK245.out 5
            have hfz18_6 := blk_frozen BK245.out 6
            have hfz18_7 := blk_frozen BK245.out 7
            have hfz18_8 := blk_frozen BK245.out 8
            have hfz18_9 := blk_frozen BK245.out 9
            have hfz18_10 := blk_frozen BK245.out 10
            have hfz18_11 := blk_frozen BK245.out 11
            go_wp2
            go_meet
            case rel => exact ⟨_, (true), (by first | rfl | (simp; done) | (simp [*]; done)), H', ⟨by first | omega | exact Nat.le_refl _⟩, ⟨by (with_reducible repeat (first | refine blk_drewN ?_ _ | refine blk_drew ?_ | refine blk_alloc ?_ _)); exact BK245.out⟩, ⟨by (with_reducible repeat (first | refine blk_drewN ?_ _ | refine blk_drew ?_ | refine blk_alloc ?_ _)); exact BK246.out⟩, ⟨by repeat (first | (with_reducible first | exact HB.out | apply below_alloc | apply pw_below_drewN | apply below_drew1 | refine below_set ?_ GE245.out | refine below_set ?_ GE246.out) | exact HB.out)⟩⟩
          · rw [if_neg c16] at H
            have c16b0 : decide (9 < a0_10) = false := decide_eq_false c16
            clear c16
            by_cases c19 : a0_11 < 0
            · rw [if_pos c19] at H
              have c19b0 : decide (a0_11 < 0) = true := decide_eq_true c19
              clear c19
              have H' := Aside0.mk H
              clear H
              have hnb20 := NB245_246.out
              have hnc20 := NB246_245.out
              have hcz21_0 : w6.cell? ⟨gb245, 0, none⟩ = some (.string a0_0) := (blk_cell BK245.out 0).trans rfl
              have hcz21_1 : w6.cell? ⟨gb245, 1, none⟩ = some (.string a0_1) := (blk_cell BK245.out 1).trans rfl
              have hcz21_2 : w6.cell? ⟨gb245, 2, none⟩ = some (.string a0_2) := (blk_cell BK245.out 2).trans rfl
              have hcz21_3 : w6.cell? ⟨gb245, 3, none⟩ = some (.string a0_3) := (blk_cell BK245.out 3).trans rfl
              have hcz21_4 : w6.cell? ⟨gb245, 4, none⟩ = some (.string a0_4) := (blk_cell BK245.out 4).trans rfl
              have hcz21_5 : w6.cell? ⟨gb245, 5, none⟩ = some (.string a0_5) := (blk_cell BK245.out 5).trans rfl
              have hcz21_6 : w6.cell? ⟨gb245, 6, none⟩ = some (.string a0_6) := (blk_cell BK245.out 6).trans rfl
              have hcz21_7 : w6.cell? ⟨gb245, 7, none⟩ = some (.string a0_7) := (blk_cell BK245.out 7).trans rfl
              have hcz21_8 : w6.cell? ⟨gb245, 8, none⟩ = some (.string a0_8) := (blk_cell BK245.out 8).trans rfl
              have hcz21_9 : w6.cell? ⟨gb245, 9, none⟩ = some (.int .i64 a0_9) := (blk_cell BK245.out 9).trans rfl
              have hcz21_10 : w6.cell? ⟨gb245, 10, none⟩ = some (.int .i64 a0_10) := (blk_cell BK245.out 10).trans rfl
              have hcz21_11 : w6.cell? ⟨gb245, 11, none⟩ = some (.int .i64 a0_11) := (blk_cell BK245.out 11).trans rfl
              have hfz21_0 := blk_frozen BK245.out 0
              have hfz21_1 := blk_frozen BK245.out 1
              have hfz21_2 := blk_frozen BK245.out 2
              have hfz21_3 := blk_frozen BK245.out 3
              have hfz21_4 := blk_frozen BK245.out 4
              have hfz21_5 := blk_frozen BK245.out 5
              have hfz21_6 := blk_frozen BK245.out 6
              have hfz21_7 := blk_frozen BK245.out 7
              have hfz21_8 := blk_frozen BK245.out 8
              have hfz21_9 := blk_frozen BK245.out 9
              have hfz21_10 := blk_frozen BK245.out 10
              have hfz21_11 := blk_frozen BK245.out 11
              go_wp2
              go_meet
              case rel => exact ⟨_, (true), (by first | rfl | (simp; done) | (simp [*]; done)), H', ⟨by first | omega | exact Nat.le_refl _⟩, ⟨by (with_reducible repeat (first | refine blk_drewN ?_ _ | refine blk_drew ?_ | refine blk_alloc ?_ _)); exact BK245.out⟩, ⟨by (with_reducible repeat (first | refine blk_drewN ?_ _ | refine blk_drew ?_ | refine blk_alloc ?_ _)); exact BK246.out⟩, ⟨by repeat (first | (with_reducible first | exact HB.out | apply below_alloc | apply pw_below_drewN | apply below_drew1 | refine below_set ?_ GE245.out | refine below_set ?_ GE246.out) | exact HB.out)⟩⟩
            · rw [if_neg c19] at H
              have c19b0 : decide (a0_11 < 0) = false := decide_eq_false c19
              clear c19
              have H' := Aside0.mk H
              clear H
              have hnb22 := NB245_246.out
              have hnc22 := NB246_245.out
              have hcz23_0 : w6.cell? ⟨gb245, 0, none⟩ = some (.string a0_0) := (blk_cell BK245.out 0).trans rfl
              have hcz23_1 : w6.cell? ⟨gb245, 1, none⟩ = some (.string a0_1) := (blk_cell BK245.out 1).trans rfl
              have hcz23_2 : w6.cell? ⟨gb245, 2, none⟩ = some (.string a0_2) := (blk_cell BK245.out 2).trans rfl
              have hcz23_3 : w6.cell? ⟨gb245, 3, none⟩ = some (.string a0_3) := (blk_cell BK245.out 3).trans rfl
              have hcz23_4 : w6.cell? ⟨gb245, 4, none⟩ = some (.string a0_4) := (blk_cell BK245.out 4).trans rfl
              have hcz23_5 : w6.cell? ⟨gb245, 5, none⟩ = some (.string a0_5) := (blk_cell BK245.out 5).trans rfl
              have hcz23_6 : w6.cell? ⟨gb245, 6, none⟩ = some (.string a0_6) := (blk_cell BK245.out 6).trans rfl
              have hcz23_7 : w6.cell? ⟨gb245, 7, none⟩ = some (.string a0_7) := (blk_cell BK245.out 7).trans rfl
              have hcz23_8 : w6.cell? ⟨gb245, 8, none⟩ = some (.string a0_8) := (blk_cell BK245.out 8).trans rfl
              have hcz23_9 : w6.cell? ⟨gb245, 9, none⟩ = some (.int .i64 a0_9) := (blk_cell BK245.out 9).trans rfl
              have hcz23_10 : w6.cell? ⟨gb245, 10, none⟩ = some (.int .i64 a0_10) := (blk_cell BK245.out 10).trans rfl
              have hcz23_11 : w6.cell? ⟨gb245, 11, none⟩ = some (.int .i64 a0_11) := (blk_cell BK245.out 11).trans rfl
              have hfz23_0 := blk_frozen BK245.out 0
              have hfz23_1 := blk_frozen BK245.out 1
              have hfz23_2 := blk_frozen BK245.out 2
              have hfz23_3 := blk_frozen BK245.out 3
              have hfz23_4 := blk_frozen BK245.out 4
              have hfz23_5 := blk_frozen BK245.out 5
              have hfz23_6 := blk_frozen BK245.out 6
              have hfz23_7 := blk_frozen BK245.out 7
              have hfz23_8 := blk_frozen BK245.out 8
              have hfz23_9 := blk_frozen BK245.out 9
              have hfz23_10 := blk_frozen BK245.out 10
              have hfz23_11 := blk_frozen BK245.out 11
              go_wp2
              go_meet
              case rel => exact ⟨_, (decide (a0_11 > 999)), (by first | rfl | (simp; done) | (simp [*]; done)), H', ⟨by first | omega | exact Nat.le_refl _⟩, ⟨by (with_reducible repeat (first | refine blk_drewN ?_ _ | refine blk_drew ?_ | refine blk_alloc ?_ _)); exact BK245.out⟩, ⟨by (with_reducible repeat (first | refine blk_drewN ?_ _ | refine blk_drew ?_ | refine blk_alloc ?_ _)); exact BK246.out⟩, ⟨by repeat (first | (with_reducible first | exact HB.out | apply below_alloc | apply pw_below_drewN | apply below_drew1 | refine below_set ?_ GE245.out | refine below_set ?_ GE246.out) | exact HB.out)⟩⟩
  case rest =>
    clear HC4
    try clear c1
    try clear c2
    try clear p2
    try clear c3
    try clear c7
    try clear c7b0
    try clear c7b1
    try clear c8
    try clear c10
    try clear c10b0
    try clear c11
    try clear c13
    try clear c13b0
    try clear c14
    try clear c16
    try clear c16b0
    try clear c17
    try clear c19
    try clear c19b0
    try clear c20
    try clear c22
    try clear hcz12_0
    try clear hcz12_1
    try clear hcz12_10
    try clear hcz12_11
    try clear hcz12_2
    try clear hcz12_3
    try clear hcz12_4
    try clear hcz12_5
    try clear hcz12_6
    try clear hcz12_7
    try clear hcz12_8
    try clear hcz12_9
    try clear hcz15_0
    try clear hcz15_1
    try clear hcz15_10
    try clear hcz15_11
    try clear hcz15_2
    try clear hcz15_3
    try clear hcz15_4
    try clear hcz15_5
    try clear hcz15_6
    try clear hcz15_7
    try clear hcz15_8
    try clear hcz15_9
    try clear hcz18_0
    try clear hcz18_1
    try clear hcz18_10
    try clear hcz18_11
    try clear hcz18_2
    try clear hcz18_3
    try clear hcz18_4
    try clear hcz18_5
    try clear hcz18_6
    try clear hcz18_7
    try clear hcz18_8
    try clear hcz18_9
    try clear hcz21_0
    try clear hcz21_1
    try clear hcz21_10
    try clear hcz21_11
    try clear hcz21_2
    try clear hcz21_3
    try clear hcz21_4
    try clear hcz21_5
    try clear hcz21_6
    try clear hcz21_7
    try clear hcz21_8
    try clear hcz21_9
    try clear hcz23_0
    try clear hcz23_1
    try clear hcz23_10
    try clear hcz23_11
    try clear hcz23_2
    try clear hcz23_3
    try clear hcz23_4
    try clear hcz23_5
    try clear hcz23_6
    try clear hcz23_7
    try clear hcz23_8
    try clear hcz23_9
    try clear hcz9_0
    try clear hcz9_1
    try clear hcz9_10
    try clear hcz9_11
    try clear hcz9_2
    try clear hcz9_3
    try clear hcz9_4
    try clear hcz9_5
    try clear hcz9_6
    try clear hcz9_7
    try clear hcz9_8
    try clear hcz9_9
    try clear hfz12_0
    try clear hfz12_1
    try clear hfz12_10
    try clear hfz12_11
    try clear hfz12_2
    try clear hfz12_3
    try clear hfz12_4
    try clear hfz12_5
    try clear hfz12_6
    try clear hfz12_7
    try clear hfz12_8
    try clear hfz12_9
    try clear hfz15_0
    try clear hfz15_1
    try clear hfz15_10
    try clear hfz15_11
    try clear hfz15_2
    try clear hfz15_3
    try clear hfz15_4
    try clear hfz15_5
    try clear hfz15_6
    try clear hfz15_7
    try clear hfz15_8
    try clear hfz15_9
    try clear hfz18_0
    try clear hfz18_1
    try clear hfz18_10
    try clear hfz18_11
    try clear hfz18_2
    try clear hfz18_3
    try clear hfz18_4
    try clear hfz18_5
    try clear hfz18_6
    try clear hfz18_7
    try clear hfz18_8
    try clear hfz18_9
    try clear hfz21_0
    try clear hfz21_1
    try clear hfz21_10
    try clear hfz21_11
    try clear hfz21_2
    try clear hfz21_3
    try clear hfz21_4
    try clear hfz21_5
    try clear hfz21_6
    try clear hfz21_7
    try clear hfz21_8
    try clear hfz21_9
    try clear hfz23_0
    try clear hfz23_1
    try clear hfz23_10
    try clear hfz23_11
    try clear hfz23_2
    try clear hfz23_3
    try clear hfz23_4
    try clear hfz23_5
    try clear hfz23_6
    try clear hfz23_7
    try clear hfz23_8
    try clear hfz23_9
    try clear hfz9_0
    try clear hfz9_1
    try clear hfz9_10
    try clear hfz9_11
    try clear hfz9_2
    try clear hfz9_3
    try clear hfz9_4
    try clear hfz9_5
    try clear hfz9_6
    try clear hfz9_7
    try clear hfz9_8
    try clear hfz9_9
    obtain ⟨kq, x35_3, rfl, HA, HJ3, BK245, BK246, HB⟩ := hcut
    cases kq with
    | zero => exact absurd HA.out (by simp [quipulaw20_MoneyCounts.j0])
    | succ kj3 =>
      have H := HA.out
      clear HA
      simp only [quipulaw20_MoneyCounts.j0] at H
      by_cases c24 : x35_3 = true
      · subst c24
        have H1 : ((quipulaw20_fixed.f).bind fun t247 => (some t247)) = some true := by rw [if_pos rfl] at H; exact H
        clear H
        have H := H1
        clear H1
        replace H := Option.bind_eq_some_iff.mp H
        obtain ⟨t247, A250, H⟩ := H
        replace H : (some t247) = some true := H
        have A25 := Aside0.mk A250
        clear A250
        obtain rfl := Option.some.inj H
        go_wp2_with (first | ((with_reducible refine gate_callee (f := 7) rfl ?_); refine goesL_ (some 36) rfl rfl Tryd.func7 (by kernel_rfl) rfl #[] rfl (by (try simp only [List.map_toArray, List.map_cons, List.map_nil]); first | done | rfl | (simp only [List.length_drop, List.length_take]; rfl)) ?_; (with_reducible refine (quipulaw20_fixed.calls  true _ (Gd.below HG.out (by repeat (first | (with_reducible first | exact HB.out | apply below_alloc | apply pw_below_drewN | apply below_drew1 | refine below_set ?_ GE245.out | refine below_set ?_ GE246.out) | exact HB.out))) A25.out).mono ?_); rintro e w26 ⟨rfl, hb⟩; refine ⟨_, rfl, ?_⟩; have n0_ := Aside0.mk (blk_below (g := gb245) (o := .cells #[.string a0_0, .string a0_1, .string a0_2, .string a0_3, .string a0_4, .string a0_5, .string a0_6, .string a0_7, .string a0_8, .int .i64 a0_9, .int .i64 a0_10, .int .i64 a0_11] 24 (0, 0)) (by (with_reducible repeat (first | refine blk_drewN ?_ _ | refine blk_drew ?_ | refine blk_alloc ?_ _)); exact BK245.out) hb); have n1_ := Aside0.mk (blk_below (g := gb246) (o := .cells #[.int .i64 a2_0, .int .i64 a2_1, .int .i64 a2_2, .int .i64 a2_3, .int .i64 a2_4, .bool a2_5, .int .i64 a2_6, .bool a2_7, .string a2_8, .int .i64 a2_9, .int .i64 a2_10, .bool a2_11, .int .i64 a2_12, .int .i64 a2_13] 28 (0, 0)) (by (with_reducible repeat (first | refine blk_drewN ?_ _ | refine blk_drew ?_ | refine blk_alloc ?_ _)); exact BK246.out) hb); have n2_ := Aside0.mk (below_step (by repeat (first | (with_reducible first | exact HB.out | apply below_alloc | apply pw_below_drewN | apply below_drew1 | refine below_set ?_ GE245.out | refine below_set ?_ GE246.out) | exact HB.out)) hb); clear BK245; clear BK246; clear HB; have BK245 := n0_; have BK246 := n1_; have HB := n2_; clear n0_ n1_ n2_; (try clear hb); (try clear hb2); (try clear hk); (try clear hi)))
        go_ret
        exact ⟨by first | rfl | (simp [errW_none, errW_some] <;> rfl) | (simp [*, errW_none, errW_some] <;> rfl) | (simp only [ne_nil_b]; first | done | rfl) | (simp [ne_nil_b]; done), by repeat (first | (with_reducible first | exact HB.out | apply below_alloc | apply pw_below_drewN | apply below_drew1 | refine below_set ?_ GE245.out | refine below_set ?_ GE246.out) | exact HB.out)⟩
      · replace c24 := Bool.eq_false_iff.mpr c24
        subst c24
        have H1 : ((money_Precision.f kj3 a0_0 a0_1 a0_2 a0_3 a0_4 a0_5 a0_6 a0_7 a0_8 a0_9 a0_10 a0_11 a1 a2_0 a2_1 a2_2 a2_3 a2_4 a2_5 a2_6 a2_7 a2_8 a2_9 a2_10 a2_11 a2_12 a2_13).bind fun bt248 => ((quipuref20_Precision.f kj3 a0_0 a0_1 a0_2 a0_3 a0_4 a0_5 a0_6 a0_7 a0_8 a0_9 a0_10 a0_11 a1 a2_0 a2_1 a2_2 a2_3 a2_4 a2_5 a2_6 a2_7 a2_8 a2_9 a2_10 a2_11 a2_12 a2_13).bind fun bt263 => (if (bt248.1 == bt263.1 && (bt248.2.1 == bt263.2.1 && (bt248.2.2.1 == bt263.2.2.1 && (bt248.2.2.2.1 == bt263.2.2.2.1 && (bt248.2.2.2.2.1 == bt263.2.2.2.2.1 && (bt248.2.2.2.2.2.1 == bt263.2.2.2.2.2.1 && ((bt248.2.2.2.2.2.2.1 == bt263.2.2.2.2.2.2.1 && (bt248.2.2.2.2.2.2.2.1 == bt263.2.2.2.2.2.2.2.1 && (bt248.2.2.2.2.2.2.2.2.1.toList == bt263.2.2.2.2.2.2.2.2.1.toList && (bt248.2.2.2.2.2.2.2.2.2.1 == bt263.2.2.2.2.2.2.2.2.2.1)))) && (bt248.2.2.2.2.2.2.2.2.2.2.1 == bt263.2.2.2.2.2.2.2.2.2.2.1 && (bt248.2.2.2.2.2.2.2.2.2.2.2.1 == bt263.2.2.2.2.2.2.2.2.2.2.2.1 && (bt248.2.2.2.2.2.2.2.2.2.2.2.2.1 == bt263.2.2.2.2.2.2.2.2.2.2.2.2.1 && (bt248.2.2.2.2.2.2.2.2.2.2.2.2.2 == bt263.2.2.2.2.2.2.2.2.2.2.2.2.2))))))))))) = true then ((money_Precision.f kj3 a0_0 a0_1 a0_2 a0_3 a0_4 a0_5 a0_6 a0_7 a0_8 a0_9 a0_10 a0_11 a1 bt248.1 bt248.2.1 bt248.2.2.1 bt248.2.2.2.1 bt248.2.2.2.2.1 bt248.2.2.2.2.2.1 bt248.2.2.2.2.2.2.1 bt248.2.2.2.2.2.2.2.1 bt248.2.2.2.2.2.2.2.2.1 bt248.2.2.2.2.2.2.2.2.2.1 bt248.2.2.2.2.2.2.2.2.2.2.1 bt248.2.2.2.2.2.2.2.2.2.2.2.1 bt248.2.2.2.2.2.2.2.2.2.2.2.2.1 bt248.2.2.2.2.2.2.2.2.2.2.2.2.2).bind fun bt277 => (if (bt277.1 == bt248.1 && (bt277.2.1 == bt248.2.1 && (bt277.2.2.1 == bt248.2.2.1 && (bt277.2.2.2.1 == bt248.2.2.2.1 && (bt277.2.2.2.2.1 == bt248.2.2.2.2.1 && (bt277.2.2.2.2.2.1 == bt248.2.2.2.2.2.1 && ((bt277.2.2.2.2.2.2.1 == bt248.2.2.2.2.2.2.1 && (bt277.2.2.2.2.2.2.2.1 == bt248.2.2.2.2.2.2.2.1 && (bt277.2.2.2.2.2.2.2.2.1.toList == bt248.2.2.2.2.2.2.2.2.1.toList && (bt277.2.2.2.2.2.2.2.2.2.1 == bt248.2.2.2.2.2.2.2.2.2.1)))) && (bt277.2.2.2.2.2.2.2.2.2.2.1 == bt248.2.2.2.2.2.2.2.2.2.2.1 && (bt277.2.2.2.2.2.2.2.2.2.2.2.1 == bt248.2.2.2.2.2.2.2.2.2.2.2.1 && (bt277.2.2.2.2.2.2.2.2.2.2.2.2.1 == bt248.2.2.2.2.2.2.2.2.2.2.2.2.1 && (bt277.2.2.2.2.2.2.2.2.2.2.2.2.2 == bt248.2.2.2.2.2.2.2.2.2.2.2.2.2))))))))))) = true then (if a2_0 = 0 then ((quipulaw20_fixed.f).bind fun t291 => (some t291)) else (if (bt248.1 == a2_0 && (bt248.2.1 == a2_1 && (bt248.2.2.1 == a2_2 && (bt248.2.2.2.1 == a2_3 && (bt248.2.2.2.2.1 == a2_4 && (bt248.2.2.2.2.2.1 == a2_5 && ((bt248.2.2.2.2.2.2.1 == a2_6 && (bt248.2.2.2.2.2.2.2.1 == a2_7 && (bt248.2.2.2.2.2.2.2.2.1.toList == a2_8.toList && (bt248.2.2.2.2.2.2.2.2.2.1 == a2_9)))) && (bt248.2.2.2.2.2.2.2.2.2.2.1 == a2_10 && (bt248.2.2.2.2.2.2.2.2.2.2.2.1 == a2_11 && (bt248.2.2.2.2.2.2.2.2.2.2.2.2.1 == a2_12 && (bt248.2.2.2.2.2.2.2.2.2.2.2.2.2 == a2_13))))))))))) = true then ((quipulaw20_fixed.f).bind fun t292 => (some t292)) else (some false))) else (some false))) else (some false)))) = some true := by rw [if_neg (show ¬ (false = true) by decide)] at H; exact H
        clear H
        have H := H1
        clear H1
        replace H := Option.bind_eq_some_iff.mp H
        obtain ⟨⟨t248, t249, t250, t251, t252, t253, t254, t255, t256, t257, t258, t259, t260, t261⟩, A270, H⟩ := H
        replace H : ((quipuref20_Precision.f kj3 a0_0 a0_1 a0_2 a0_3 a0_4 a0_5 a0_6 a0_7 a0_8 a0_9 a0_10 a0_11 a1 a2_0 a2_1 a2_2 a2_3 a2_4 a2_5 a2_6 a2_7 a2_8 a2_9 a2_10 a2_11 a2_12 a2_13).bind fun bt263 => (if (t248 == bt263.1 && (t249 == bt263.2.1 && (t250 == bt263.2.2.1 && (t251 == bt263.2.2.2.1 && (t252 == bt263.2.2.2.2.1 && (t253 == bt263.2.2.2.2.2.1 && ((t254 == bt263.2.2.2.2.2.2.1 && (t255 == bt263.2.2.2.2.2.2.2.1 && (t256.toList == bt263.2.2.2.2.2.2.2.2.1.toList && (t257 == bt263.2.2.2.2.2.2.2.2.2.1)))) && (t258 == bt263.2.2.2.2.2.2.2.2.2.2.1 && (t259 == bt263.2.2.2.2.2.2.2.2.2.2.2.1 && (t260 == bt263.2.2.2.2.2.2.2.2.2.2.2.2.1 && (t261 == bt263.2.2.2.2.2.2.2.2.2.2.2.2.2))))))))))) = true then ((money_Precision.f kj3 a0_0 a0_1 a0_2 a0_3 a0_4 a0_5 a0_6 a0_7 a0_8 a0_9 a0_10 a0_11 a1 t248 t249 t250 t251 t252 t253 t254 t255 t256 t257 t258 t259 t260 t261).bind fun bt277 => (if (bt277.1 == t248 && (bt277.2.1 == t249 && (bt277.2.2.1 == t250 && (bt277.2.2.2.1 == t251 && (bt277.2.2.2.2.1 == t252 && (bt277.2.2.2.2.2.1 == t253 && ((bt277.2.2.2.2.2.2.1 == t254 && (bt277.2.2.2.2.2.2.2.1 == t255 && (bt277.2.2.2.2.2.2.2.2.1.toList == t256.toList && (bt277.2.2.2.2.2.2.2.2.2.1 == t257)))) && (bt277.2.2.2.2.2.2.2.2.2.2.1 == t258 && (bt277.2.2.2.2.2.2.2.2.2.2.2.1 == t259 && (bt277.2.2.2.2.2.2.2.2.2.2.2.2.1 == t260 && (bt277.2.2.2.2.2.2.2.2.2.2.2.2.2 == t261))))))))))) = true then (if a2_0 = 0 then ((quipulaw20_fixed.f).bind fun t291 => (some t291)) else (if (t248 == a2_0 && (t249 == a2_1 && (t250 == a2_2 && (t251 == a2_3 && (t252 == a2_4 && (t253 == a2_5 && ((t254 == a2_6 && (t255 == a2_7 && (t256.toList == a2_8.toList && (t257 == a2_9)))) && (t258 == a2_10 && (t259 == a2_11 && (t260 == a2_12 && (t261 == a2_13))))))))))) = true then ((quipulaw20_fixed.f).bind fun t292 => (some t292)) else (some false))) else (some false))) else (some false))) = some true := H
        have A27 := Aside0.mk A270
        clear A270
        replace H := Option.bind_eq_some_iff.mp H
        obtain ⟨⟨t263, t264, t265, t266, t267, t268, t269, t270, t271, t272, t273, t274, t275, t276⟩, A280, H⟩ := H
        replace H : (if (t248 == t263 && (t249 == t264 && (t250 == t265 && (t251 == t266 && (t252 == t267 && (t253 == t268 && ((t254 == t269 && (t255 == t270 && (t256.toList == t271.toList && (t257 == t272)))) && (t258 == t273 && (t259 == t274 && (t260 == t275 && (t261 == t276))))))))))) = true then ((money_Precision.f kj3 a0_0 a0_1 a0_2 a0_3 a0_4 a0_5 a0_6 a0_7 a0_8 a0_9 a0_10 a0_11 a1 t248 t249 t250 t251 t252 t253 t254 t255 t256 t257 t258 t259 t260 t261).bind fun bt277 => (if (bt277.1 == t248 && (bt277.2.1 == t249 && (bt277.2.2.1 == t250 && (bt277.2.2.2.1 == t251 && (bt277.2.2.2.2.1 == t252 && (bt277.2.2.2.2.2.1 == t253 && ((bt277.2.2.2.2.2.2.1 == t254 && (bt277.2.2.2.2.2.2.2.1 == t255 && (bt277.2.2.2.2.2.2.2.2.1.toList == t256.toList && (bt277.2.2.2.2.2.2.2.2.2.1 == t257)))) && (bt277.2.2.2.2.2.2.2.2.2.2.1 == t258 && (bt277.2.2.2.2.2.2.2.2.2.2.2.1 == t259 && (bt277.2.2.2.2.2.2.2.2.2.2.2.2.1 == t260 && (bt277.2.2.2.2.2.2.2.2.2.2.2.2.2 == t261))))))))))) = true then (if a2_0 = 0 then ((quipulaw20_fixed.f).bind fun t291 => (some t291)) else (if (t248 == a2_0 && (t249 == a2_1 && (t250 == a2_2 && (t251 == a2_3 && (t252 == a2_4 && (t253 == a2_5 && ((t254 == a2_6 && (t255 == a2_7 && (t256.toList == a2_8.toList && (t257 == a2_9)))) && (t258 == a2_10 && (t259 == a2_11 && (t260 == a2_12 && (t261 == a2_13))))))))))) = true then ((quipulaw20_fixed.f).bind fun t292 => (some t292)) else (some false))) else (some false))) else (some false)) = some true := H
        have A28 := Aside0.mk A280
        clear A280
        by_cases c29 : (t248 == t263 && (t249 == t264 && (t250 == t265 && (t251 == t266 && (t252 == t267 && (t253 == t268 && ((t254 == t269 && (t255 == t270 && (t256.toList == t271.toList && (t257 == t272)))) && (t258 == t273 && (t259 == t274 && (t260 == t275 && (t261 == t276))))))))))) = true
        · rw [if_pos c29] at H
          have c29b0 : (t248 == t263 && (t249 == t264 && (t250 == t265 && (t251 == t266 && (t252 == t267 && (t253 == t268 && ((t254 == t269 && (t255 == t270 && (t256.toList == t271.toList && (t257 == t272)))) && (t258 == t273 && (t259 == t274 && (t260 == t275 && (t261 == t276))))))))))) = true := c29
          (try (have c29b1 : decide (t248 = t263 && (t249 == t264 && (t250 == t265 && (t251 == t266 && (t252 == t267 && (t253 == t268 && ((t254 == t269 && (t255 == t270 && (t256.toList == t271.toList && (t257 == t272)))) && (t258 == t273 && (t259 == t274 && (t260 == t275 && (t261 == t276))))))))))) = true := by simpa using c29))
          (try (have c29b2 : (t248 == t263 && (t249 == t264 && (t250 == t265 && (t251 == t266 && (t252 == t267 && (t253 == t268 && ((t254 == t269 && (t255 == t270 && (t256.toList == t271.toList && (t257 == t272)))) && (t258 == t273 && (t259 == t274 && (t260 == t275 && (t261 == t276))))))))))) = true := by simpa using c29))
          clear c29
          replace H := Option.bind_eq_some_iff.mp H
          obtain ⟨⟨t277, t278, t279, t280, t281, t282, t283, t284, t285, t286, t287, t288, t289, t290⟩, A300, H⟩ := H
          replace H : (if (t277 == t248 && (t278 == t249 && (t279 == t250 && (t280 == t251 && (t281 == t252 && (t282 == t253 && ((t283 == t254 && (t284 == t255 && (t285.toList == t256.toList && (t286 == t257)))) && (t287 == t258 && (t288 == t259 && (t289 == t260 && (t290 == t261))))))))))) = true then (if a2_0 = 0 then ((quipulaw20_fixed.f).bind fun t291 => (some t291)) else (if (t248 == a2_0 && (t249 == a2_1 && (t250 == a2_2 && (t251 == a2_3 && (t252 == a2_4 && (t253 == a2_5 && ((t254 == a2_6 && (t255 == a2_7 && (t256.toList == a2_8.toList && (t257 == a2_9)))) && (t258 == a2_10 && (t259 == a2_11 && (t260 == a2_12 && (t261 == a2_13))))))))))) = true then ((quipulaw20_fixed.f).bind fun t292 => (some t292)) else (some false))) else (some false)) = some true := H
          have A30 := Aside0.mk A300
          clear A300
          by_cases c31 : (t277 == t248 && (t278 == t249 && (t279 == t250 && (t280 == t251 && (t281 == t252 && (t282 == t253 && ((t283 == t254 && (t284 == t255 && (t285.toList == t256.toList && (t286 == t257)))) && (t287 == t258 && (t288 == t259 && (t289 == t260 && (t290 == t261))))))))))) = true
          · rw [if_pos c31] at H
            have c31b0 : (t277 == t248 && (t278 == t249 && (t279 == t250 && (t280 == t251 && (t281 == t252 && (t282 == t253 && ((t283 == t254 && (t284 == t255 && (t285.toList == t256.toList && (t286 == t257)))) && (t287 == t258 && (t288 == t259 && (t289 == t260 && (t290 == t261))))))))))) = true := c31
            (try (have c31b1 : decide (t277 = t248 && (t278 == t249 && (t279 == t250 && (t280 == t251 && (t281 == t252 && (t282 == t253 && ((t283 == t254 && (t284 == t255 && (t285.toList == t256.toList && (t286 == t257)))) && (t287 == t258 && (t288 == t259 && (t289 == t260 && (t290 == t261))))))))))) = true := by simpa using c31))
            (try (have c31b2 : (t277 == t248 && (t278 == t249 && (t279 == t250 && (t280 == t251 && (t281 == t252 && (t282 == t253 && ((t283 == t254 && (t284 == t255 && (t285.toList == t256.toList && (t286 == t257)))) && (t287 == t258 && (t288 == t259 && (t289 == t260 && (t290 == t261))))))))))) = true := by simpa using c31))
            clear c31
            by_cases c32 : a2_0 = 0
            · rw [if_pos c32] at H
              have c32b0 : (a2_0 == 0) = true := beq_iff_eq.mpr c32
              have c32b1 : (a2_0 != 0) = false := bne_eq_false_iff_eq.mpr c32
              clear c32
              replace H := Option.bind_eq_some_iff.mp H
              obtain ⟨t291, A330, H⟩ := H
              replace H : (some t291) = some true := H
              have A33 := Aside0.mk A330
              clear A330
              obtain rfl := Option.some.inj H
              have hnb34 := NB245_246.out
              have hnc34 := NB246_245.out
              have hcz35_0 : wc.cell? ⟨gb245, 0, none⟩ = some (.string a0_0) := (blk_cell BK245.out 0).trans rfl
              have hcz35_1 : wc.cell? ⟨gb245, 1, none⟩ = some (.string a0_1) := (blk_cell BK245.out 1).trans rfl
              have hcz35_2 : wc.cell? ⟨gb245, 2, none⟩ = some (.string a0_2) := (blk_cell BK245.out 2).trans rfl
              have hcz35_3 : wc.cell? ⟨gb245, 3, none⟩ = some (.string a0_3) := (blk_cell BK245.out 3).trans rfl
              have hcz35_4 : wc.cell? ⟨gb245, 4, none⟩ = some (.string a0_4) := (blk_cell BK245.out 4).trans rfl
              have hcz35_5 : wc.cell? ⟨gb245, 5, none⟩ = some (.string a0_5) := (blk_cell BK245.out 5).trans rfl
              have hcz35_6 : wc.cell? ⟨gb245, 6, none⟩ = some (.string a0_6) := (blk_cell BK245.out 6).trans rfl
              have hcz35_7 : wc.cell? ⟨gb245, 7, none⟩ = some (.string a0_7) := (blk_cell BK245.out 7).trans rfl
              have hcz35_8 : wc.cell? ⟨gb245, 8, none⟩ = some (.string a0_8) := (blk_cell BK245.out 8).trans rfl
              have hcz35_9 : wc.cell? ⟨gb245, 9, none⟩ = some (.int .i64 a0_9) := (blk_cell BK245.out 9).trans rfl
              have hcz35_10 : wc.cell? ⟨gb245, 10, none⟩ = some (.int .i64 a0_10) := (blk_cell BK245.out 10).trans rfl
              have hcz35_11 : wc.cell? ⟨gb245, 11, none⟩ = some (.int .i64 a0_11) := (blk_cell BK245.out 11).trans rfl
              have hfz35_0 := blk_frozen BK245.out 0
              have hfz35_1 := blk_frozen BK245.out 1
              have hfz35_2 := blk_frozen BK245.out 2
              have hfz35_3 := blk_frozen BK245.out 3
              have hfz35_4 := blk_frozen BK245.out 4
              have hfz35_5 := blk_frozen BK245.out 5
              have hfz35_6 := blk_frozen BK245.out 6
              have hfz35_7 := blk_frozen BK245.out 7
              have hfz35_8 := blk_frozen BK245.out 8
              have hfz35_9 := blk_frozen BK245.out 9
              have hfz35_10 := blk_frozen BK245.out 10
              have hfz35_11 := blk_frozen BK245.out 11
              have hcz36_0 : wc.cell? ⟨gb246, 0, none⟩ = some (.int .i64 a2_0) := (blk_cell BK246.out 0).trans rfl
              have hcz36_1 : wc.cell? ⟨gb246, 1, none⟩ = some (.int .i64 a2_1) := (blk_cell BK246.out 1).trans rfl
              have hcz36_2 : wc.cell? ⟨gb246, 2, none⟩ = some (.int .i64 a2_2) := (blk_cell BK246.out 2).trans rfl
              have hcz36_3 : wc.cell? ⟨gb246, 3, none⟩ = some (.int .i64 a2_3) := (blk_cell BK246.out 3).trans rfl
              have hcz36_4 : wc.cell? ⟨gb246, 4, none⟩ = some (.int .i64 a2_4) := (blk_cell BK246.out 4).trans rfl
              have hcz36_5 : wc.cell? ⟨gb246, 5, none⟩ = some (.bool a2_5) := (blk_cell BK246.out 5).trans rfl
              have hcz36_6 : wc.cell? ⟨gb246, 6, none⟩ = some (.int .i64 a2_6) := (blk_cell BK246.out 6).trans rfl
              have hcz36_7 : wc.cell? ⟨gb246, 7, none⟩ = some (.bool a2_7) := (blk_cell BK246.out 7).trans rfl
              have hcz36_8 : wc.cell? ⟨gb246, 8, none⟩ = some (.string a2_8) := (blk_cell BK246.out 8).trans rfl
              have hcz36_9 : wc.cell? ⟨gb246, 9, none⟩ = some (.int .i64 a2_9) := (blk_cell BK246.out 9).trans rfl
              have hcz36_10 : wc.cell? ⟨gb246, 10, none⟩ = some (.int .i64 a2_10) := (blk_cell BK246.out 10).trans rfl
              have hcz36_11 : wc.cell? ⟨gb246, 11, none⟩ = some (.bool a2_11) := (blk_cell BK246.out 11).trans rfl
              have hcz36_12 : wc.cell? ⟨gb246, 12, none⟩ = some (.int .i64 a2_12) := (blk_cell BK246.out 12).trans rfl
              have hcz36_13 : wc.cell? ⟨gb246, 13, none⟩ = some (.int .i64 a2_13) := (blk_cell BK246.out 13).trans rfl
              have hfz36_0 := blk_frozen BK246.out 0
              have hfz36_1 := blk_frozen BK246.out 1
              have hfz36_2 := blk_frozen BK246.out 2
              have hfz36_3 := blk_frozen BK246.out 3
              have hfz36_4 := blk_frozen BK246.out 4
              have hfz36_5 := blk_frozen BK246.out 5
              have hfz36_6 := blk_frozen BK246.out 6
              have hfz36_7 := blk_frozen BK246.out 7
              have hfz36_8 := blk_frozen BK246.out 8
              have hfz36_9 := blk_frozen BK246.out 9
              have hfz36_10 := blk_frozen BK246.out 10
              have hfz36_11 := blk_frozen BK246.out 11
              have hfz36_12 := blk_frozen BK246.out 12
              have hfz36_13 := blk_frozen BK246.out 13
              try go_wp2_with (first | ((with_reducible refine gate_callee (f := 8) rfl ?_); refine goesL_ (some 40) rfl rfl Tryd.func8 (by kernel_rfl) rfl #[.agg #[.string a0_0, .string a0_1, .string a0_2, .string a0_3, .string a0_4, .string a0_5, .string a0_6, .string a0_7, .string a0_8, .int .i64 a0_9, .int .i64 a0_10, .int .i64 a0_11], .bool a1, .agg #[.int .i64 a2_0, .int .i64 a2_1, .int .i64 a2_2, .int .i64 a2_3, .int .i64 a2_4, .bool a2_5, .int .i64 a2_6, .bool a2_7, .string a2_8, .int .i64 a2_9, .int .i64 a2_10, .bool a2_11, .int .i64 a2_12, .int .i64 a2_13]] rfl (by (try simp only [List.map_toArray, List.map_cons, List.map_nil]); first | done | rfl | (simp only [List.length_drop, List.length_take]; rfl)) ?_; (with_reducible refine (money_Precision.calls kj3 a0_0 a0_1 a0_2 a0_3 a0_4 a0_5 a0_6 a0_7 a0_8 a0_9 a0_10 a0_11 a1 a2_0 a2_1 a2_2 a2_3 a2_4 a2_5 a2_6 a2_7 a2_8 a2_9 a2_10 a2_11 a2_12 a2_13 t248 t249 t250 t251 t252 t253 t254 t255 t256 t257 t258 t259 t260 t261 _ (Gd.below HG.out (by repeat (first | (with_reducible first | exact HB.out | apply below_alloc | apply pw_below_drewN | apply below_drew1 | refine below_set ?_ GE245.out | refine below_set ?_ GE246.out) | exact HB.out))) A27.out).mono ?_); rintro e w37 ⟨rfl, hb⟩; refine ⟨_, rfl, ?_⟩; have n0_ := Aside0.mk (blk_below (g := gb245) (o := .cells #[.string a0_0, .string a0_1, .string a0_2, .string a0_3, .string a0_4, .string a0_5, .string a0_6, .string a0_7, .string a0_8, .int .i64 a0_9, .int .i64 a0_10, .int .i64 a0_11] 24 (0, 0)) (by (with_reducible repeat (first | refine blk_drewN ?_ _ | refine blk_drew ?_ | refine blk_alloc ?_ _)); exact BK245.out) hb); have n1_ := Aside0.mk (blk_below (g := gb246) (o := .cells #[.int .i64 a2_0, .int .i64 a2_1, .int .i64 a2_2, .int .i64 a2_3, .int .i64 a2_4, .bool a2_5, .int .i64 a2_6, .bool a2_7, .string a2_8, .int .i64 a2_9, .int .i64 a2_10, .bool a2_11, .int .i64 a2_12, .int .i64 a2_13] 28 (0, 0)) (by (with_reducible repeat (first | refine blk_drewN ?_ _ | refine blk_drew ?_ | refine blk_alloc ?_ _)); exact BK246.out) hb); have n2_ := Aside0.mk (below_step (by repeat (first | (with_reducible first | exact HB.out | apply below_alloc | apply pw_below_drewN | apply below_drew1 | refine below_set ?_ GE245.out | refine below_set ?_ GE246.out) | exact HB.out)) hb); clear BK245; clear BK246; clear HB; have BK245 := n0_; have BK246 := n1_; have HB := n2_; clear n0_ n1_ n2_; (try clear hb); (try clear hb2); (try clear hk); (try clear hi)) | ((with_reducible refine gate_dst (N := 7) rfl ?_); refine box_event ?hg (N := 7) ?hd (cs := #[.int .i64 0, .int .i64 0, .int .i64 0, .int .i64 0, .int .i64 0, .bool false, .int .i64 0, .bool false, .string (⟨#[]⟩ : ByteArray), .int .i64 0, .int .i64 0, .bool false, .int .i64 0, .int .i64 0]) (t := 28) ?hr ?_; (case hd => rfl); (case hg => rfl); (case hr => first | (go_simp; done) | (go_simp; rfl)); intro gb262 hg w38 hbox hb; have n0_ := Aside0.mk (blk_below (g := gb245) (o := .cells #[.string a0_0, .string a0_1, .string a0_2, .string a0_3, .string a0_4, .string a0_5, .string a0_6, .string a0_7, .string a0_8, .int .i64 a0_9, .int .i64 a0_10, .int .i64 a0_11] 24 (0, 0)) (by (with_reducible repeat (first | refine blk_drewN ?_ _ | refine blk_drew ?_ | refine blk_alloc ?_ _)); exact BK245.out) hb); have n1_ := Aside0.mk (blk_below (g := gb246) (o := .cells #[.int .i64 a2_0, .int .i64 a2_1, .int .i64 a2_2, .int .i64 a2_3, .int .i64 a2_4, .bool a2_5, .int .i64 a2_6, .bool a2_7, .string a2_8, .int .i64 a2_9, .int .i64 a2_10, .bool a2_11, .int .i64 a2_12, .int .i64 a2_13] 28 (0, 0)) (by (with_reducible repeat (first | refine blk_drewN ?_ _ | refine blk_drew ?_ | refine blk_alloc ?_ _)); exact BK246.out) hb); have n2_ := Aside0.mk (below_step (by repeat (first | (with_reducible first | exact HB.out | apply below_alloc | apply pw_below_drewN | apply below_drew1 | refine below_set ?_ GE245.out | refine below_set ?_ GE246.out) | exact HB.out)) hb); have n3_ := Aside0.mk (hbox); have n4_ := Aside0.mk ((by rw [hg]; exact (below_size (by repeat (first | (with_reducible first | exact HB.out | apply below_alloc | apply pw_below_drewN | apply below_drew1 | refine below_set ?_ GE245.out | refine below_set ?_ GE246.out) | exact HB.out))) : w.heap.size ≤ gb262)); have n5_ := Aside0.mk ((by rw [hg]; exact (below_size (by repeat (first | (with_reducible first | exact HB.out | apply below_alloc | apply pw_below_drewN | apply below_drew1 | refine below_set ?_ GE245.out | refine below_set ?_ GE246.out) | exact HB.out))) : w.heap.size ≤ gb262)); have n6_ := Aside0.mk ((by rw [hg]; exact Nat.ne_of_lt (blk_lt (g := gb245) (o := .cells #[.string a0_0, .string a0_1, .string a0_2, .string a0_3, .string a0_4, .string a0_5, .string a0_6, .string a0_7, .string a0_8, .int .i64 a0_9, .int .i64 a0_10, .int .i64 a0_11] 24 (0, 0)) (by (with_reducible repeat (first | refine blk_drewN ?_ _ | refine blk_drew ?_ | refine blk_alloc ?_ _)); exact BK245.out)) : gb245 ≠ gb262)); have n7_ := Aside0.mk ((by rw [hg]; exact Nat.ne_of_gt (blk_lt (g := gb245) (o := .cells #[.string a0_0, .string a0_1, .string a0_2, .string a0_3, .string a0_4, .string a0_5, .string a0_6, .string a0_7, .string a0_8, .int .i64 a0_9, .int .i64 a0_10, .int .i64 a0_11] 24 (0, 0)) (by (with_reducible repeat (first | refine blk_drewN ?_ _ | refine blk_drew ?_ | refine blk_alloc ?_ _)); exact BK245.out)) : gb262 ≠ gb245)); have n8_ := Aside0.mk ((by rw [hg]; exact Nat.ne_of_lt (blk_lt (g := gb246) (o := .cells #[.int .i64 a2_0, .int .i64 a2_1, .int .i64 a2_2, .int .i64 a2_3, .int .i64 a2_4, .bool a2_5, .int .i64 a2_6, .bool a2_7, .string a2_8, .int .i64 a2_9, .int .i64 a2_10, .bool a2_11, .int .i64 a2_12, .int .i64 a2_13] 28 (0, 0)) (by (with_reducible repeat (first | refine blk_drewN ?_ _ | refine blk_drew ?_ | refine blk_alloc ?_ _)); exact BK246.out)) : gb246 ≠ gb262)); have n9_ := Aside0.mk ((by rw [hg]; exact Nat.ne_of_gt (blk_lt (g := gb246) (o := .cells #[.int .i64 a2_0, .int .i64 a2_1, .int .i64 a2_2, .int .i64 a2_3, .int .i64 a2_4, .bool a2_5, .int .i64 a2_6, .bool a2_7, .string a2_8, .int .i64 a2_9, .int .i64 a2_10, .bool a2_11, .int .i64 a2_12, .int .i64 a2_13] 28 (0, 0)) (by (with_reducible repeat (first | refine blk_drewN ?_ _ | refine blk_drew ?_ | refine blk_alloc ?_ _)); exact BK246.out)) : gb262 ≠ gb246)); clear BK245; clear BK246; clear HB; have BK245 := n0_; have BK246 := n1_; have HB := n2_; have BK262 := n3_; have GW262 := n4_; have GE262 := n5_; have NB245_262 := n6_; have NB262_245 := n7_; have NB246_262 := n8_; have NB262_246 := n9_; clear n0_ n1_ n2_ n3_ n4_ n5_ n6_ n7_ n8_ n9_; clear hb hbox hg; have hnb39 := NB262_245.out; have hnc39 := NB245_262.out; have hnb40 := NB262_246.out; have hnc40 := NB246_262.out; have hcz41_0 : w38.cell? ⟨gb262, 0, none⟩ = some (.int .i64 0) := (blk_cell BK262.out 0).trans rfl; have hcz41_1 : w38.cell? ⟨gb262, 1, none⟩ = some (.int .i64 0) := (blk_cell BK262.out 1).trans rfl; have hcz41_2 : w38.cell? ⟨gb262, 2, none⟩ = some (.int .i64 0) := (blk_cell BK262.out 2).trans rfl; have hcz41_3 : w38.cell? ⟨gb262, 3, none⟩ = some (.int .i64 0) := (blk_cell BK262.out 3).trans rfl; have hcz41_4 : w38.cell? ⟨gb262, 4, none⟩ = some (.int .i64 0) := (blk_cell BK262.out 4).trans rfl; have hcz41_5 : w38.cell? ⟨gb262, 5, none⟩ = some (.bool false) := (blk_cell BK262.out 5).trans rfl; have hcz41_6 : w38.cell? ⟨gb262, 6, none⟩ = some (.int .i64 0) := (blk_cell BK262.out 6).trans rfl; have hcz41_7 : w38.cell? ⟨gb262, 7, none⟩ = some (.bool false) := (blk_cell BK262.out 7).trans rfl; have hcz41_8 : w38.cell? ⟨gb262, 8, none⟩ = some (.string (⟨#[]⟩ : ByteArray)) := (blk_cell BK262.out 8).trans rfl; have hcz41_9 : w38.cell? ⟨gb262, 9, none⟩ = some (.int .i64 0) := (blk_cell BK262.out 9).trans rfl; have hcz41_10 : w38.cell? ⟨gb262, 10, none⟩ = some (.int .i64 0) := (blk_cell BK262.out 10).trans rfl; have hcz41_11 : w38.cell? ⟨gb262, 11, none⟩ = some (.bool false) := (blk_cell BK262.out 11).trans rfl; have hcz41_12 : w38.cell? ⟨gb262, 12, none⟩ = some (.int .i64 0) := (blk_cell BK262.out 12).trans rfl; have hcz41_13 : w38.cell? ⟨gb262, 13, none⟩ = some (.int .i64 0) := (blk_cell BK262.out 13).trans rfl; have hfz41_0 := blk_frozen BK262.out 0; have hfz41_1 := blk_frozen BK262.out 1; have hfz41_2 := blk_frozen BK262.out 2; have hfz41_3 := blk_frozen BK262.out 3; have hfz41_4 := blk_frozen BK262.out 4; have hfz41_5 := blk_frozen BK262.out 5; have hfz41_6 := blk_frozen BK262.out 6; have hfz41_7 := blk_frozen BK262.out 7; have hfz41_8 := blk_frozen BK262.out 8; have hfz41_9 := blk_frozen BK262.out 9; have hfz41_10 := blk_frozen BK262.out 10; have hfz41_11 := blk_frozen BK262.out 11; have hfz41_12 := blk_frozen BK262.out 12; have hfz41_13 := blk_frozen BK262.out 13))
              have n0_ : Aside0 (((((((((((((((w38.setCell ⟨gb262, 0, none⟩ (.int .i64 t248)).setCell ⟨gb262, 1, none⟩ (.int .i64 t249)).setCell ⟨gb262, 2, none⟩ (.int .i64 t250)).setCell ⟨gb262, 3, none⟩ (.int .i64 t251)).setCell ⟨gb262, 4, none⟩ (.int .i64 t252)).setCell ⟨gb262, 5, none⟩ (.bool t253)).setCell ⟨gb262, 6, none⟩ (.int .i64 t254)).setCell ⟨gb262, 7, none⟩ (.bool t255)).setCell ⟨gb262, 8, none⟩ (.string t256)).setCell ⟨gb262, 9, none⟩ (.int .i64 t257)).setCell ⟨gb262, 10, none⟩ (.int .i64 t258)).setCell ⟨gb262, 11, none⟩ (.bool t259)).setCell ⟨gb262, 12, none⟩ (.int .i64 t260)).setCell ⟨gb262, 13, none⟩ (.int .i64 t261)).heap[gb245]? = some (.cells #[.string a0_0, .string a0_1, .string a0_2, .string a0_3, .string a0_4, .string a0_5, .string a0_6, .string a0_7, .string a0_8, .int .i64 a0_9, .int .i64 a0_10, .int .i64 a0_11] 24 (0, 0))) := ⟨by (with_reducible repeat (first | refine blk_drewN ?_ _ | refine blk_drew ?_ | refine blk_alloc ?_ _)); refine blk_far ?_ NB245_262.out _; (with_reducible repeat (first | refine blk_drewN ?_ _ | refine blk_drew ?_ | refine blk_alloc ?_ _)); refine blk_far ?_ NB245_262.out _; (with_reducible repeat (first | refine blk_drewN ?_ _ | refine blk_drew ?_ | refine blk_alloc ?_ _)); refine blk_far ?_ NB245_262.out _; (with_reducible repeat (first | refine blk_drewN ?_ _ | refine blk_drew ?_ | refine blk_alloc ?_ _)); refine blk_far ?_ NB245_262.out _; (with_reducible repeat (first | refine blk_drewN ?_ _ | refine blk_drew ?_ | refine blk_alloc ?_ _)); refine blk_far ?_ NB245_262.out _; (with_reducible repeat (first | refine blk_drewN ?_ _ | refine blk_drew ?_ | refine blk_alloc ?_ _)); refine blk_far ?_ NB245_262.out _; (with_reducible repeat (first | refine blk_drewN ?_ _ | refine blk_drew ?_ | refine blk_alloc ?_ _)); refine blk_far ?_ NB245_262.out _; (with_reducible repeat (first | refine blk_drewN ?_ _ | refine blk_drew ?_ | refine blk_alloc ?_ _)); refine blk_far ?_ NB245_262.out _; (with_reducible repeat (first | refine blk_drewN ?_ _ | refine blk_drew ?_ | refine blk_alloc ?_ _)); refine blk_far ?_ NB245_262.out _; (with_reducible repeat (first | refine blk_drewN ?_ _ | refine blk_drew ?_ | refine blk_alloc ?_ _)); refine blk_far ?_ NB245_262.out _; (with_reducible repeat (first | refine blk_drewN ?_ _ | refine blk_drew ?_ | refine blk_alloc ?_ _)); refine blk_far ?_ NB245_262.out _; (with_reducible repeat (first | refine blk_drewN ?_ _ | refine blk_drew ?_ | refine blk_alloc ?_ _)); refine blk_far ?_ NB245_262.out _; (with_reducible repeat (first | refine blk_drewN ?_ _ | refine blk_drew ?_ | refine blk_alloc ?_ _)); refine blk_far ?_ NB245_262.out _; (with_reducible repeat (first | refine blk_drewN ?_ _ | refine blk_drew ?_ | refine blk_alloc ?_ _)); refine blk_far ?_ NB245_262.out _; (with_reducible repeat (first | refine blk_drewN ?_ _ | refine blk_drew ?_ | refine blk_alloc ?_ _)); exact BK245.out⟩
              have n1_ : Aside0 (((((((((((((((w38.setCell ⟨gb262, 0, none⟩ (.int .i64 t248)).setCell ⟨gb262, 1, none⟩ (.int .i64 t249)).setCell ⟨gb262, 2, none⟩ (.int .i64 t250)).setCell ⟨gb262, 3, none⟩ (.int .i64 t251)).setCell ⟨gb262, 4, none⟩ (.int .i64 t252)).setCell ⟨gb262, 5, none⟩ (.bool t253)).setCell ⟨gb262, 6, none⟩ (.int .i64 t254)).setCell ⟨gb262, 7, none⟩ (.bool t255)).setCell ⟨gb262, 8, none⟩ (.string t256)).setCell ⟨gb262, 9, none⟩ (.int .i64 t257)).setCell ⟨gb262, 10, none⟩ (.int .i64 t258)).setCell ⟨gb262, 11, none⟩ (.bool t259)).setCell ⟨gb262, 12, none⟩ (.int .i64 t260)).setCell ⟨gb262, 13, none⟩ (.int .i64 t261)).heap[gb246]? = some (.cells #[.int .i64 a2_0, .int .i64 a2_1, .int .i64 a2_2, .int .i64 a2_3, .int .i64 a2_4, .bool a2_5, .int .i64 a2_6, .bool a2_7, .string a2_8, .int .i64 a2_9, .int .i64 a2_10, .bool a2_11, .int .i64 a2_12, .int .i64 a2_13] 28 (0, 0))) := ⟨by (with_reducible repeat (first | refine blk_drewN ?_ _ | refine blk_drew ?_ | refine blk_alloc ?_ _)); refine blk_far ?_ NB246_262.out _; (with_reducible repeat (first | refine blk_drewN ?_ _ | refine blk_drew ?_ | refine blk_alloc ?_ _)); refine blk_far ?_ NB246_262.out _; (with_reducible repeat (first | refine blk_drewN ?_ _ | refine blk_drew ?_ | refine blk_alloc ?_ _)); refine blk_far ?_ NB246_262.out _; (with_reducible repeat (first | refine blk_drewN ?_ _ | refine blk_drew ?_ | refine blk_alloc ?_ _)); refine blk_far ?_ NB246_262.out _; (with_reducible repeat (first | refine blk_drewN ?_ _ | refine blk_drew ?_ | refine blk_alloc ?_ _)); refine blk_far ?_ NB246_262.out _; (with_reducible repeat (first | refine blk_drewN ?_ _ | refine blk_drew ?_ | refine blk_alloc ?_ _)); refine blk_far ?_ NB246_262.out _; (with_reducible repeat (first | refine blk_drewN ?_ _ | refine blk_drew ?_ | refine blk_alloc ?_ _)); refine blk_far ?_ NB246_262.out _; (with_reducible repeat (first | refine blk_drewN ?_ _ | refine blk_drew ?_ | refine blk_alloc ?_ _)); refine blk_far ?_ NB246_262.out _; (with_reducible repeat (first | refine blk_drewN ?_ _ | refine blk_drew ?_ | refine blk_alloc ?_ _)); refine blk_far ?_ NB246_262.out _; (with_reducible repeat (first | refine blk_drewN ?_ _ | refine blk_drew ?_ | refine blk_alloc ?_ _)); refine blk_far ?_ NB246_262.out _; (with_reducible repeat (first | refine blk_drewN ?_ _ | refine blk_drew ?_ | refine blk_alloc ?_ _)); refine blk_far ?_ NB246_262.out _; (with_reducible repeat (first | refine blk_drewN ?_ _ | refine blk_drew ?_ | refine blk_alloc ?_ _)); refine blk_far ?_ NB246_262.out _; (with_reducible repeat (first | refine blk_drewN ?_ _ | refine blk_drew ?_ | refine blk_alloc ?_ _)); refine blk_far ?_ NB246_262.out _; (with_reducible repeat (first | refine blk_drewN ?_ _ | refine blk_drew ?_ | refine blk_alloc ?_ _)); refine blk_far ?_ NB246_262.out _; (with_reducible repeat (first | refine blk_drewN ?_ _ | refine blk_drew ?_ | refine blk_alloc ?_ _)); exact BK246.out⟩
              have n2_ : Aside0 (((((((((((((((w38.setCell ⟨gb262, 0, none⟩ (.int .i64 t248)).setCell ⟨gb262, 1, none⟩ (.int .i64 t249)).setCell ⟨gb262, 2, none⟩ (.int .i64 t250)).setCell ⟨gb262, 3, none⟩ (.int .i64 t251)).setCell ⟨gb262, 4, none⟩ (.int .i64 t252)).setCell ⟨gb262, 5, none⟩ (.bool t253)).setCell ⟨gb262, 6, none⟩ (.int .i64 t254)).setCell ⟨gb262, 7, none⟩ (.bool t255)).setCell ⟨gb262, 8, none⟩ (.string t256)).setCell ⟨gb262, 9, none⟩ (.int .i64 t257)).setCell ⟨gb262, 10, none⟩ (.int .i64 t258)).setCell ⟨gb262, 11, none⟩ (.bool t259)).setCell ⟨gb262, 12, none⟩ (.int .i64 t260)).setCell ⟨gb262, 13, none⟩ (.int .i64 t261)).heap[gb262]? = some (.cells #[.int .i64 t248, .int .i64 t249, .int .i64 t250, .int .i64 t251, .int .i64 t252, .bool t253, .int .i64 t254, .bool t255, .string t256, .int .i64 t257, .int .i64 t258, .bool t259, .int .i64 t260, .int .i64 t261] 28 (0, 0))) := ⟨by (with_reducible repeat (first | refine blk_drewN ?_ _ | refine blk_drew ?_ | refine blk_alloc ?_ _)); refine blk_put (cs := #[.int .i64 t248, .int .i64 t249, .int .i64 t250, .int .i64 t251, .int .i64 t252, .bool t253, .int .i64 t254, .bool t255, .string t256, .int .i64 t257, .int .i64 t258, .bool t259, .int .i64 t260, .int .i64 0]) ?_ 13 _ rfl; (with_reducible repeat (first | refine blk_drewN ?_ _ | refine blk_drew ?_ | refine blk_alloc ?_ _)); refine blk_put (cs := #[.int .i64 t248, .int .i64 t249, .int .i64 t250, .int .i64 t251, .int .i64 t252, .bool t253, .int .i64 t254, .bool t255, .string t256, .int .i64 t257, .int .i64 t258, .bool t259, .int .i64 0, .int .i64 0]) ?_ 12 _ rfl; (with_reducible repeat (first | refine blk_drewN ?_ _ | refine blk_drew ?_ | refine blk_alloc ?_ _)); refine blk_put (cs := #[.int .i64 t248, .int .i64 t249, .int .i64 t250, .int .i64 t251, .int .i64 t252, .bool t253, .int .i64 t254, .bool t255, .string t256, .int .i64 t257, .int .i64 t258, .bool false, .int .i64 0, .int .i64 0]) ?_ 11 _ rfl; (with_reducible repeat (first | refine blk_drewN ?_ _ | refine blk_drew ?_ | refine blk_alloc ?_ _)); refine blk_put (cs := #[.int .i64 t248, .int .i64 t249, .int .i64 t250, .int .i64 t251, .int .i64 t252, .bool t253, .int .i64 t254, .bool t255, .string t256, .int .i64 t257, .int .i64 0, .bool false, .int .i64 0, .int .i64 0]) ?_ 10 _ rfl; (with_reducible repeat (first | refine blk_drewN ?_ _ | refine blk_drew ?_ | refine blk_alloc ?_ _)); refine blk_put (cs := #[.int .i64 t248, .int .i64 t249, .int .i64 t250, .int .i64 t251, .int .i64 t252, .bool t253, .int .i64 t254, .bool t255, .string t256, .int .i64 0, .int .i64 0, .bool false, .int .i64 0, .int .i64 0]) ?_ 9 _ rfl; (with_reducible repeat (first | refine blk_drewN ?_ _ | refine blk_drew ?_ | refine blk_alloc ?_ _)); refine blk_put (cs := #[.int .i64 t248, .int .i64 t249, .int .i64 t250, .int .i64 t251, .int .i64 t252, .bool t253, .int .i64 t254, .bool t255, .string (⟨#[]⟩ : ByteArray), .int .i64 0, .int .i64 0, .bool false, .int .i64 0, .int .i64 0]) ?_ 8 _ rfl; (with_reducible repeat (first | refine blk_drewN ?_ _ | refine blk_drew ?_ | refine blk_alloc ?_ _)); refine blk_put (cs := #[.int .i64 t248, .int .i64 t249, .int .i64 t250, .int .i64 t251, .int .i64 t252, .bool t253, .int .i64 t254, .bool false, .string (⟨#[]⟩ : ByteArray), .int .i64 0, .int .i64 0, .bool false, .int .i64 0, .int .i64 0]) ?_ 7 _ rfl; (with_reducible repeat (first | refine blk_drewN ?_ _ | refine blk_drew ?_ | refine blk_alloc ?_ _)); refine blk_put (cs := #[.int .i64 t248, .int .i64 t249, .int .i64 t250, .int .i64 t251, .int .i64 t252, .bool t253, .int .i64 0, .bool false, .string (⟨#[]⟩ : ByteArray), .int .i64 0, .int .i64 0, .bool false, .int .i64 0, .int .i64 0]) ?_ 6 _ rfl; (with_reducible repeat (first | refine blk_drewN ?_ _ | refine blk_drew ?_ | refine blk_alloc ?_ _)); refine blk_put (cs := #[.int .i64 t248, .int .i64 t249, .int .i64 t250, .int .i64 t251, .int .i64 t252, .bool false, .int .i64 0, .bool false, .string (⟨#[]⟩ : ByteArray), .int .i64 0, .int .i64 0, .bool false, .int .i64 0, .int .i64 0]) ?_ 5 _ rfl; (with_reducible repeat (first | refine blk_drewN ?_ _ | refine blk_drew ?_ | refine blk_alloc ?_ _)); refine blk_put (cs := #[.int .i64 t248, .int .i64 t249, .int .i64 t250, .int .i64 t251, .int .i64 0, .bool false, .int .i64 0, .bool false, .string (⟨#[]⟩ : ByteArray), .int .i64 0, .int .i64 0, .bool false, .int .i64 0, .int .i64 0]) ?_ 4 _ rfl; (with_reducible repeat (first | refine blk_drewN ?_ _ | refine blk_drew ?_ | refine blk_alloc ?_ _)); refine blk_put (cs := #[.int .i64 t248, .int .i64 t249, .int .i64 t250, .int .i64 0, .int .i64 0, .bool false, .int .i64 0, .bool false, .string (⟨#[]⟩ : ByteArray), .int .i64 0, .int .i64 0, .bool false, .int .i64 0, .int .i64 0]) ?_ 3 _ rfl; (with_reducible repeat (first | refine blk_drewN ?_ _ | refine blk_drew ?_ | refine blk_alloc ?_ _)); refine blk_put (cs := #[.int .i64 t248, .int .i64 t249, .int .i64 0, .int .i64 0, .int .i64 0, .bool false, .int .i64 0, .bool false, .string (⟨#[]⟩ : ByteArray), .int .i64 0, .int .i64 0, .bool false, .int .i64 0, .int .i64 0]) ?_ 2 _ rfl; (with_reducible repeat (first | refine blk_drewN ?_ _ | refine blk_drew ?_ | refine blk_alloc ?_ _)); refine blk_put (cs := #[.int .i64 t248, .int .i64 0, .int .i64 0, .int .i64 0, .int .i64 0, .bool false, .int .i64 0, .bool false, .string (⟨#[]⟩ : ByteArray), .int .i64 0, .int .i64 0, .bool false, .int .i64 0, .int .i64 0]) ?_ 1 _ rfl; (with_reducible repeat (first | refine blk_drewN ?_ _ | refine blk_drew ?_ | refine blk_alloc ?_ _)); refine blk_put (cs := #[.int .i64 0, .int .i64 0, .int .i64 0, .int .i64 0, .int .i64 0, .bool false, .int .i64 0, .bool false, .string (⟨#[]⟩ : ByteArray), .int .i64 0, .int .i64 0, .bool false, .int .i64 0, .int .i64 0]) ?_ 0 _ rfl; (with_reducible repeat (first | refine blk_drewN ?_ _ | refine blk_drew ?_ | refine blk_alloc ?_ _)); exact BK262.out⟩
              have n3_ : Aside0 (Below w.heap.size w ((((((((((((((w38.setCell ⟨gb262, 0, none⟩ (.int .i64 t248)).setCell ⟨gb262, 1, none⟩ (.int .i64 t249)).setCell ⟨gb262, 2, none⟩ (.int .i64 t250)).setCell ⟨gb262, 3, none⟩ (.int .i64 t251)).setCell ⟨gb262, 4, none⟩ (.int .i64 t252)).setCell ⟨gb262, 5, none⟩ (.bool t253)).setCell ⟨gb262, 6, none⟩ (.int .i64 t254)).setCell ⟨gb262, 7, none⟩ (.bool t255)).setCell ⟨gb262, 8, none⟩ (.string t256)).setCell ⟨gb262, 9, none⟩ (.int .i64 t257)).setCell ⟨gb262, 10, none⟩ (.int .i64 t258)).setCell ⟨gb262, 11, none⟩ (.bool t259)).setCell ⟨gb262, 12, none⟩ (.int .i64 t260)).setCell ⟨gb262, 13, none⟩ (.int .i64 t261))) := ⟨by repeat (first | (with_reducible first | exact HB.out | apply below_alloc | apply pw_below_drewN | apply below_drew1 | refine below_set ?_ GE245.out | refine below_set ?_ GE246.out | refine below_set ?_ GE262.out) | exact HB.out)⟩
              (try clear BK245)
              (try clear BK246)
              (try clear BK262)
              (try clear HB)
              generalize ((((((((((((((w38.setCell ⟨gb262, 0, none⟩ (.int .i64 t248)).setCell ⟨gb262, 1, none⟩ (.int .i64 t249)).setCell ⟨gb262, 2, none⟩ (.int .i64 t250)).setCell ⟨gb262, 3, none⟩ (.int .i64 t251)).setCell ⟨gb262, 4, none⟩ (.int .i64 t252)).setCell ⟨gb262, 5, none⟩ (.bool t253)).setCell ⟨gb262, 6, none⟩ (.int .i64 t254)).setCell ⟨gb262, 7, none⟩ (.bool t255)).setCell ⟨gb262, 8, none⟩ (.string t256)).setCell ⟨gb262, 9, none⟩ (.int .i64 t257)).setCell ⟨gb262, 10, none⟩ (.int .i64 t258)).setCell ⟨gb262, 11, none⟩ (.bool t259)).setCell ⟨gb262, 12, none⟩ (.int .i64 t260)).setCell ⟨gb262, 13, none⟩ (.int .i64 t261)) = w42 at n0_ n1_ n2_ n3_ ⊢
              have BK245 := n0_
              have BK246 := n1_
              have BK262 := n2_
              have HB := n3_
              clear n0_ n1_ n2_ n3_
              have n0_ := Aside0.mk (blk_drew BK245.out)
              have n1_ := Aside0.mk (blk_drew BK246.out)
              have n2_ := Aside0.mk (blk_drew BK262.out)
              have n3_ := Aside0.mk (below_drew1 HB.out)
              clear BK245
              clear BK246
              clear BK262
              clear HB
              have BK245 := n0_
              have BK246 := n1_
              have BK262 := n2_
              have HB := n3_
              clear n0_ n1_ n2_ n3_
              refine start_ (n := 28) (S := fun w' => w'.cell? ⟨gb262, 0, none⟩ = some (.int .i64 t248) ∧ w'.cell? ⟨gb262, 1, none⟩ = some (.int .i64 t249) ∧ w'.cell? ⟨gb262, 2, none⟩ = some (.int .i64 t250) ∧ w'.cell? ⟨gb262, 3, none⟩ = some (.int .i64 t251) ∧ w'.cell? ⟨gb262, 4, none⟩ = some (.int .i64 t252) ∧ w'.cell? ⟨gb262, 5, none⟩ = some (.bool t253) ∧ w'.cell? ⟨gb262, 6, none⟩ = some (.int .i64 t254) ∧ w'.cell? ⟨gb262, 7, none⟩ = some (.bool t255) ∧ w'.cell? ⟨gb262, 8, none⟩ = some (.string t256) ∧ w'.cell? ⟨gb262, 9, none⟩ = some (.int .i64 t257) ∧ w'.cell? ⟨gb262, 10, none⟩ = some (.int .i64 t258) ∧ w'.cell? ⟨gb262, 11, none⟩ = some (.bool t259) ∧ w'.cell? ⟨gb262, 12, none⟩ = some (.int .i64 t260) ∧ w'.cell? ⟨gb262, 13, none⟩ = some (.int .i64 t261) ∧ w'.cell? ⟨gb245, 0, none⟩ = some (.string a0_0) ∧ w'.cell? ⟨gb245, 1, none⟩ = some (.string a0_1) ∧ w'.cell? ⟨gb245, 2, none⟩ = some (.string a0_2) ∧ w'.cell? ⟨gb245, 3, none⟩ = some (.string a0_3) ∧ w'.cell? ⟨gb245, 4, none⟩ = some (.string a0_4) ∧ w'.cell? ⟨gb245, 5, none⟩ = some (.string a0_5) ∧ w'.cell? ⟨gb245, 6, none⟩ = some (.string a0_6) ∧ w'.cell? ⟨gb245, 7, none⟩ = some (.string a0_7) ∧ w'.cell? ⟨gb245, 8, none⟩ = some (.string a0_8) ∧ w'.cell? ⟨gb245, 9, none⟩ = some (.int .i64 a0_9) ∧ w'.cell? ⟨gb245, 10, none⟩ = some (.int .i64 a0_10) ∧ w'.cell? ⟨gb245, 11, none⟩ = some (.int .i64 a0_11) ∧ w'.cell? ⟨gb246, 0, none⟩ = some (.int .i64 a2_0) ∧ w'.cell? ⟨gb246, 1, none⟩ = some (.int .i64 a2_1) ∧ w'.cell? ⟨gb246, 2, none⟩ = some (.int .i64 a2_2) ∧ w'.cell? ⟨gb246, 3, none⟩ = some (.int .i64 a2_3) ∧ w'.cell? ⟨gb246, 4, none⟩ = some (.int .i64 a2_4) ∧ w'.cell? ⟨gb246, 5, none⟩ = some (.bool a2_5) ∧ w'.cell? ⟨gb246, 6, none⟩ = some (.int .i64 a2_6) ∧ w'.cell? ⟨gb246, 7, none⟩ = some (.bool a2_7) ∧ w'.cell? ⟨gb246, 8, none⟩ = some (.string a2_8) ∧ w'.cell? ⟨gb246, 9, none⟩ = some (.int .i64 a2_9) ∧ w'.cell? ⟨gb246, 10, none⟩ = some (.int .i64 a2_10) ∧ w'.cell? ⟨gb246, 11, none⟩ = some (.bool a2_11) ∧ w'.cell? ⟨gb246, 12, none⟩ = some (.int .i64 a2_12) ∧ w'.cell? ⟨gb246, 13, none⟩ = some (.int .i64 a2_13)) (ds := []) #[false, false, false, false, false, false, false, false, false, false, false, false, false, false, false, false, false, false, false, false, false, false, false, false, false, false, false, false] (by kernel_rfl) rfl rfl ⟨(blk_cell BK262.out 0).trans rfl, (blk_cell BK262.out 1).trans rfl, (blk_cell BK262.out 2).trans rfl, (blk_cell BK262.out 3).trans rfl, (blk_cell BK262.out 4).trans rfl, (blk_cell BK262.out 5).trans rfl, (blk_cell BK262.out 6).trans rfl, (blk_cell BK262.out 7).trans rfl, (blk_cell BK262.out 8).trans rfl, (blk_cell BK262.out 9).trans rfl, (blk_cell BK262.out 10).trans rfl, (blk_cell BK262.out 11).trans rfl, (blk_cell BK262.out 12).trans rfl, (blk_cell BK262.out 13).trans rfl, (blk_cell BK245.out 0).trans rfl, (blk_cell BK245.out 1).trans rfl, (blk_cell BK245.out 2).trans rfl, (blk_cell BK245.out 3).trans rfl, (blk_cell BK245.out 4).trans rfl, (blk_cell BK245.out 5).trans rfl, (blk_cell BK245.out 6).trans rfl, (blk_cell BK245.out 7).trans rfl, (blk_cell BK245.out 8).trans rfl, (blk_cell BK245.out 9).trans rfl, (blk_cell BK245.out 10).trans rfl, (blk_cell BK245.out 11).trans rfl, (blk_cell BK246.out 0).trans rfl, (blk_cell BK246.out 1).trans rfl, (blk_cell BK246.out 2).trans rfl, (blk_cell BK246.out 3).trans rfl, (blk_cell BK246.out 4).trans rfl, (blk_cell BK246.out 5).trans rfl, (blk_cell BK246.out 6).trans rfl, (blk_cell BK246.out 7).trans rfl, (blk_cell BK246.out 8).trans rfl, (blk_cell BK246.out 9).trans rfl, (blk_cell BK246.out 10).trans rfl, (blk_cell BK246.out 11).trans rfl, (blk_cell BK246.out 12).trans rfl, (blk_cell BK246.out 13).trans rfl⟩ (fun hHeld => ?_); refine with_tabW quipulaw20_MoneyCounts.tab4 quipulaw20_MoneyCounts.bits4 (fun HT_ HW_ => ?_)
              generalize w42.drew = w43 at BK245 BK246 BK262 HB hHeld ⊢
              refine pure_ (i := 2) (N := some 43) (v := ?_) (a' := ?_) #[false, false, true, false, false, false, false, false, false, false, false, false, false, false, false, false, false, false, false, false, false, false, false, false, false, false, false, false] rfl rfl (any_of HT_.out (by kernel_rfl)) (fun _ _ _ h => h) (Or.inl ⟨by rfl, ?_⟩) ?_ ?_
              rotate_left
              · intro w'
                go_simp
                with_reducible rfl
              rotate_left
              · simp only [Act.put, List.setIfInBounds_toArray, List.set_cons_zero, List.set_cons_succ, i64_w, i32_w]
                rfl
              refine take_ (i := 0) (N := some 41) (v := ?_) (a' := ?_) #[true, false, true, false, false, false, false, false, false, false, false, false, false, false, false, false, false, false, false, false, false, false, false, false, false, false, false, false] rfl rfl (take_ofW HT_.out HW_.out (by kernel_rfl)) (fun _ _ _ h => h) (Or.inl ⟨by rfl, ?_⟩) hHeld ?_ ?_
              rotate_left
              · rintro w' ⟨s0, s1, s2, s3, s4, s5, s6, s7, s8, s9, s10, s11, s12, s13, s14, s15, s16, s17, s18, s19, s20, s21, s22, s23, s24, s25, s26, s27, s28, s29, s30, s31, s32, s33, s34, s35, s36, s37, s38, s39⟩
                go_simp
                with_reducible rfl
              rotate_left
              · simp only [Act.put, List.setIfInBounds_toArray, List.set_cons_zero, List.set_cons_succ, i64_w, i32_w]
                rfl
              refine take_ (i := 1) (N := some 42) (v := ?_) (a' := ?_) #[true, true, true, false, false, false, false, false, false, false, false, false, false, false, false, false, false, false, false, false, false, false, false, false, false, false, false, false] rfl rfl (take_ofW HT_.out HW_.out (by kernel_rfl)) (fun _ _ _ h => h) (Or.inl ⟨by rfl, ?_⟩) hHeld ?_ ?_
              rotate_left
              · rintro w' ⟨s0, s1, s2, s3, s4, s5, s6, s7, s8, s9, s10, s11, s12, s13, s14, s15, s16, s17, s18, s19, s20, s21, s22, s23, s24, s25, s26, s27, s28, s29, s30, s31, s32, s33, s34, s35, s36, s37, s38, s39⟩
                go_simp
                with_reducible rfl
              rotate_left
              · simp only [Act.put, List.setIfInBounds_toArray, List.set_cons_zero, List.set_cons_succ, i64_w, i32_w]
                rfl
              refine take_ (i := 3) (N := some 44) (v := ?_) (a' := ?_) #[true, true, true, true, false, false, false, false, false, false, false, false, false, false, false, false, false, false, false, false, false, false, false, false, false, false, false, false] rfl rfl (take_ofW HT_.out HW_.out (by kernel_rfl)) (fun _ _ _ h => h) (Or.inl ⟨by rfl, ?_⟩) hHeld ?_ ?_
              rotate_left
              · rintro w' ⟨s0, s1, s2, s3, s4, s5, s6, s7, s8, s9, s10, s11, s12, s13, s14, s15, s16, s17, s18, s19, s20, s21, s22, s23, s24, s25, s26, s27, s28, s29, s30, s31, s32, s33, s34, s35, s36, s37, s38, s39⟩
                go_simp
                with_reducible rfl
              rotate_left
              · simp only [Act.put, List.setIfInBounds_toArray, List.set_cons_zero, List.set_cons_succ, i64_w, i32_w]
                rfl
              refine one_ (i := 4) (N := some 45) #[true, true, true, true, true, false, false, false, false, false, false, false, false, false, false, false, false, false, false, false, false, false, false, false, false, false, false, false] rfl rfl (one_of HT_.out (by kernel_rfl)) (by decide) (fun K hK => ?_)
              refine goes_ Tryd.func9 (by kernel_rfl) rfl #[.agg #[.string a0_0, .string a0_1, .string a0_2, .string a0_3, .string a0_4, .string a0_5, .string a0_6, .string a0_7, .string a0_8, .int .i64 a0_9, .int .i64 a0_10, .int .i64 a0_11], .bool a1, .agg #[.int .i64 a2_0, .int .i64 a2_1, .int .i64 a2_2, .int .i64 a2_3, .int .i64 a2_4, .bool a2_5, .int .i64 a2_6, .bool a2_7, .string a2_8, .int .i64 a2_9, .int .i64 a2_10, .bool a2_11, .int .i64 a2_12, .int .i64 a2_13]] (by rfl) rfl rfl (by (try simp only [List.map_toArray, List.map_cons, List.map_nil]); first | done | rfl | (simp only [List.length_drop, List.length_take]; rfl)) ?_
              with_reducible refine (quipuref20_Precision.calls kj3 a0_0 a0_1 a0_2 a0_3 a0_4 a0_5 a0_6 a0_7 a0_8 a0_9 a0_10 a0_11 a1 a2_0 a2_1 a2_2 a2_3 a2_4 a2_5 a2_6 a2_7 a2_8 a2_9 a2_10 a2_11 a2_12 a2_13 t263 t264 t265 t266 t267 t268 t269 t270 t271 t272 t273 t274 t275 t276 _ A28.out).mono ?_
              rintro e w44 ⟨rfl, hb⟩
              refine ⟨_, rfl, ?_⟩
              have n0_ := Aside0.mk (blk_below (g := gb245) (o := .cells #[.string a0_0, .string a0_1, .string a0_2, .string a0_3, .string a0_4, .string a0_5, .string a0_6, .string a0_7, .string a0_8, .int .i64 a0_9, .int .i64 a0_10, .int .i64 a0_11] 24 (0, 0)) (by (with_reducible repeat (first | refine blk_drewN ?_ _ | refine blk_drew ?_ | refine blk_alloc ?_ _)); exact BK245.out) hb)
              have n1_ := Aside0.mk (blk_below (g := gb246) (o := .cells #[.int .i64 a2_0, .int .i64 a2_1, .int .i64 a2_2, .int .i64 a2_3, .int .i64 a2_4, .bool a2_5, .int .i64 a2_6, .bool a2_7, .string a2_8, .int .i64 a2_9, .int .i64 a2_10, .bool a2_11, .int .i64 a2_12, .int .i64 a2_13] 28 (0, 0)) (by (with_reducible repeat (first | refine blk_drewN ?_ _ | refine blk_drew ?_ | refine blk_alloc ?_ _)); exact BK246.out) hb)
              have n2_ := Aside0.mk (blk_below (g := gb262) (o := .cells #[.int .i64 t248, .int .i64 t249, .int .i64 t250, .int .i64 t251, .int .i64 t252, .bool t253, .int .i64 t254, .bool t255, .string t256, .int .i64 t257, .int .i64 t258, .bool t259, .int .i64 t260, .int .i64 t261] 28 (0, 0)) (by (with_reducible repeat (first | refine blk_drewN ?_ _ | refine blk_drew ?_ | refine blk_alloc ?_ _)); exact BK262.out) hb)
              have n3_ := Aside0.mk (below_step (by repeat (first | (with_reducible first | exact HB.out | apply below_alloc | apply pw_below_drewN | apply below_drew1 | refine below_set ?_ GE245.out | refine below_set ?_ GE246.out | refine below_set ?_ GE262.out) | exact HB.out)) hb)
              clear BK245
              clear BK246
              clear BK262
              clear HB
              have BK245 := n0_
              have BK246 := n1_
              have BK262 := n2_
              have HB := n3_
              clear n0_ n1_ n2_ n3_
              (try clear hb)
              (try clear hb2)
              (try clear hk)
              (try clear hi)
              refine hK.out _ _ ⟨(blk_cell BK262.out 0).trans rfl, (blk_cell BK262.out 1).trans rfl, (blk_cell BK262.out 2).trans rfl, (blk_cell BK262.out 3).trans rfl, (blk_cell BK262.out 4).trans rfl, (blk_cell BK262.out 5).trans rfl, (blk_cell BK262.out 6).trans rfl, (blk_cell BK262.out 7).trans rfl, (blk_cell BK262.out 8).trans rfl, (blk_cell BK262.out 9).trans rfl, (blk_cell BK262.out 10).trans rfl, (blk_cell BK262.out 11).trans rfl, (blk_cell BK262.out 12).trans rfl, (blk_cell BK262.out 13).trans rfl, (blk_cell BK245.out 0).trans rfl, (blk_cell BK245.out 1).trans rfl, (blk_cell BK245.out 2).trans rfl, (blk_cell BK245.out 3).trans rfl, (blk_cell BK245.out 4).trans rfl, (blk_cell BK245.out 5).trans rfl, (blk_cell BK245.out 6).trans rfl, (blk_cell BK245.out 7).trans rfl, (blk_cell BK245.out 8).trans rfl, (blk_cell BK245.out 9).trans rfl, (blk_cell BK245.out 10).trans rfl, (blk_cell BK245.out 11).trans rfl, (blk_cell BK246.out 0).trans rfl, (blk_cell BK246.out 1).trans rfl, (blk_cell BK246.out 2).trans rfl, (blk_cell BK246.out 3).trans rfl, (blk_cell BK246.out 4).trans rfl, (blk_cell BK246.out 5).trans rfl, (blk_cell BK246.out 6).trans rfl, (blk_cell BK246.out 7).trans rfl, (blk_cell BK246.out 8).trans rfl, (blk_cell BK246.out 9).trans rfl, (blk_cell BK246.out 10).trans rfl, (blk_cell BK246.out 11).trans rfl, (blk_cell BK246.out 12).trans rfl, (blk_cell BK246.out 13).trans rfl⟩ (fun hHeld => ?_)
              clear hK K
              refine norm_ (a' := ?_) ?_ ?_
              rotate_left
              · show Act.put _ (some 45) _ = _
                simp only [Act.put, List.setIfInBounds_toArray, List.set_cons_zero, List.set_cons_succ, i64_w, i32_w]
                rfl
              refine pure_ (i := 5) (N := some 46) (v := ?_) (a' := ?_) #[true, true, true, true, true, true, false, false, false, false, false, false, false, false, false, false, false, false, false, false, false, false, false, false, false, false, false, false] rfl rfl (any_of HT_.out (by kernel_rfl)) (fun _ _ _ h => h) (Or.inl ⟨by rfl, ?_⟩) ?_ ?_
              rotate_left
              · intro w'
                go_simp
                with_reducible rfl
              rotate_left
              · simp only [Act.put, List.setIfInBounds_toArray, List.set_cons_zero, List.set_cons_succ, i64_w, i32_w]
                rfl
              refine pure_ (i := 6) (N := some 47) (v := ?_) (a' := ?_) #[true, true, true, true, true, true, true, false, false, false, false, false, false, false, false, false, false, false, false, false, false, false, false, false, false, false, false, false] rfl rfl (any_of HT_.out (by kernel_rfl)) (fun _ _ _ h => h) (Or.inl ⟨by rfl, ?_⟩) ?_ ?_
              rotate_left
              · intro w'
                go_simp
                with_reducible rfl
              rotate_left
              · simp only [Act.put, List.setIfInBounds_toArray, List.set_cons_zero, List.set_cons_succ, i64_w, i32_w]
                rfl
              refine pure_ (i := 8) (N := some 49) (v := ?_) (a' := ?_) #[true, true, true, true, true, true, true, false, true, false, false, false, false, false, false, false, false, false, false, false, false, false, false, false, false, false, false, false] rfl rfl (any_of HT_.out (by kernel_rfl)) (fun _ _ _ h => h) (Or.inl ⟨by rfl, ?_⟩) ?_ ?_
              rotate_left
              · intro w'
                go_simp
                with_reducible rfl
              rotate_left
              · simp only [Act.put, List.setIfInBounds_toArray, List.set_cons_zero, List.set_cons_succ, i64_w, i32_w]
                rfl
              refine take_ (i := 7) (N := some 48) (v := ?_) (a' := ?_) #[true, true, true, true, true, true, true, true, true, false, false, false, false, false, false, false, false, false, false, false, false, false, false, false, false, false, false, false] rfl rfl (take_ofW HT_.out HW_.out (by kernel_rfl)) (fun _ _ _ h => h) (Or.inl ⟨by rfl, ?_⟩) hHeld ?_ ?_
              rotate_left
              · rintro w' ⟨s0, s1, s2, s3, s4, s5, s6, s7, s8, s9, s10, s11, s12, s13, s14, s15, s16, s17, s18, s19, s20, s21, s22, s23, s24, s25, s26, s27, s28, s29, s30, s31, s32, s33, s34, s35, s36, s37, s38, s39⟩
                go_simp
                with_reducible rfl
              rotate_left
              · simp only [Act.put, List.setIfInBounds_toArray, List.set_cons_zero, List.set_cons_succ, i64_w, i32_w]
                rfl
              refine take_ (i := 9) (N := some 50) (v := ?_) (a' := ?_) #[true, true, true, true, true, true, true, true, true, true, false, false, false, false, false, false, false, false, false, false, false, false, false, false, false, false, false, false] rfl rfl (take_ofW HT_.out HW_.out (by kernel_rfl)) (fun _ _ _ h => h) (Or.inl ⟨by rfl, ?_⟩) hHeld ?_ ?_
              rotate_left
              · rintro w' ⟨s0, s1, s2, s3, s4, s5, s6, s7, s8, s9, s10, s11, s12, s13, s14, s15, s16, s17, s18, s19, s20, s21, s22, s23, s24, s25, s26, s27, s28, s29, s30, s31, s32, s33, s34, s35, s36, s37, s38, s39⟩
                go_simp
                with_reducible rfl
              rotate_left
              · simp only [Act.put, List.setIfInBounds_toArray, List.set_cons_zero, List.set_cons_succ, i64_w, i32_w]
                rfl
              refine take_ (i := 11) (N := some 52) (v := ?_) (a' := ?_) #[true, true, true, true, true, true, true, true, true, true, false, true, false, false, false, false, false, false, false, false, false, false, false, false, false, false, false, false] rfl rfl (take_ofW HT_.out HW_.out (by kernel_rfl)) (fun _ _ _ h => h) (Or.inl ⟨by rfl, ?_⟩) hHeld ?_ ?_
              rotate_left
              · rintro w' ⟨s0, s1, s2, s3, s4, s5, s6, s7, s8, s9, s10, s11, s12, s13, s14, s15, s16, s17, s18, s19, s20, s21, s22, s23, s24, s25, s26, s27, s28, s29, s30, s31, s32, s33, s34, s35, s36, s37, s38, s39⟩
                go_simp
                with_reducible rfl
              rotate_left
              · simp only [Act.put, List.setIfInBounds_toArray, List.set_cons_zero, List.set_cons_succ, i64_w, i32_w]
                rfl
              refine one_ (i := 10) (N := some 51) #[true, true, true, true, true, true, true, true, true, true, true, true, false, false, false, false, false, false, false, false, false, false, false, false, false, false, false, false] rfl rfl (one_of HT_.out (by kernel_rfl)) (by decide) (fun K hK => ?_)
              refine goes_ Tryd.func8 (by kernel_rfl) rfl #[.agg #[.string a0_0, .string a0_1, .string a0_2, .string a0_3, .string a0_4, .string a0_5, .string a0_6, .string a0_7, .string a0_8, .int .i64 a0_9, .int .i64 a0_10, .int .i64 a0_11], .bool a1, .agg #[.int .i64 t248, .int .i64 t249, .int .i64 t250, .int .i64 t251, .int .i64 t252, .bool t253, .int .i64 t254, .bool t255, .string t256, .int .i64 t257, .int .i64 t258, .bool t259, .int .i64 t260, .int .i64 t261]] (by rfl) rfl rfl (by (try simp only [List.map_toArray, List.map_cons, List.map_nil]); first | done | rfl | (simp only [List.length_drop, List.length_take]; rfl)) ?_
              with_reducible refine (money_Precision.calls kj3 a0_0 a0_1 a0_2 a0_3 a0_4 a0_5 a0_6 a0_7 a0_8 a0_9 a0_10 a0_11 a1 t248 t249 t250 t251 t252 t253 t254 t255 t256 t257 t258 t259 t260 t261 t277 t278 t279 t280 t281 t282 t283 t284 t285 t286 t287 t288 t289 t290 _ (Gd.below HG.out (by repeat (first | (with_reducible first | exact HB.out | apply below_alloc | apply pw_below_drewN | apply below_drew1 | refine below_set ?_ GE245.out | refine below_set ?_ GE246.out | refine below_set ?_ GE262.out) | exact HB.out))) A30.out).mono ?_
              rintro e w45 ⟨rfl, hb⟩
              refine ⟨_, rfl, ?_⟩
              have n0_ := Aside0.mk (blk_below (g := gb245) (o := .cells #[.string a0_0, .string a0_1, .string a0_2, .string a0_3, .string a0_4, .string a0_5, .string a0_6, .string a0_7, .string a0_8, .int .i64 a0_9, .int .i64 a0_10, .int .i64 a0_11] 24 (0, 0)) (by (with_reducible repeat (first | refine blk_drewN ?_ _ | refine blk_drew ?_ | refine blk_alloc ?_ _)); exact BK245.out) hb)
              have n1_ := Aside0.mk (blk_below (g := gb246) (o := .cells #[.int .i64 a2_0, .int .i64 a2_1, .int .i64 a2_2, .int .i64 a2_3, .int .i64 a2_4, .bool a2_5, .int .i64 a2_6, .bool a2_7, .string a2_8, .int .i64 a2_9, .int .i64 a2_10, .bool a2_11, .int .i64 a2_12, .int .i64 a2_13] 28 (0, 0)) (by (with_reducible repeat (first | refine blk_drewN ?_ _ | refine blk_drew ?_ | refine blk_alloc ?_ _)); exact BK246.out) hb)
              have n2_ := Aside0.mk (blk_below (g := gb262) (o := .cells #[.int .i64 t248, .int .i64 t249, .int .i64 t250, .int .i64 t251, .int .i64 t252, .bool t253, .int .i64 t254, .bool t255, .string t256, .int .i64 t257, .int .i64 t258, .bool t259, .int .i64 t260, .int .i64 t261] 28 (0, 0)) (by (with_reducible repeat (first | refine blk_drewN ?_ _ | refine blk_drew ?_ | refine blk_alloc ?_ _)); exact BK262.out) hb)
              have n3_ := Aside0.mk (below_step (by repeat (first | (with_reducible first | exact HB.out | apply below_alloc | apply pw_below_drewN | apply below_drew1 | refine below_set ?_ GE245.out | refine below_set ?_ GE246.out | refine below_set ?_ GE262.out) | exact HB.out)) hb)
              clear BK245
              clear BK246
              clear BK262
              clear HB
              have BK245 := n0_
              have BK246 := n1_
              have BK262 := n2_
              have HB := n3_
              clear n0_ n1_ n2_ n3_
              (try clear hb)
              (try clear hb2)
              (try clear hk)
              (try clear hi)
              refine hK.out _ _ ⟨(blk_cell BK262.out 0).trans rfl, (blk_cell BK262.out 1).trans rfl, (blk_cell BK262.out 2).trans rfl, (blk_cell BK262.out 3).trans rfl, (blk_cell BK262.out 4).trans rfl, (blk_cell BK262.out 5).trans rfl, (blk_cell BK262.out 6).trans rfl, (blk_cell BK262.out 7).trans rfl, (blk_cell BK262.out 8).trans rfl, (blk_cell BK262.out 9).trans rfl, (blk_cell BK262.out 10).trans rfl, (blk_cell BK262.out 11).trans rfl, (blk_cell BK262.out 12).trans rfl, (blk_cell BK262.out 13).trans rfl, (blk_cell BK245.out 0).trans rfl, (blk_cell BK245.out 1).trans rfl, (blk_cell BK245.out 2).trans rfl, (blk_cell BK245.out 3).trans rfl, (blk_cell BK245.out 4).trans rfl, (blk_cell BK245.out 5).trans rfl, (blk_cell BK245.out 6).trans rfl, (blk_cell BK245.out 7).trans rfl, (blk_cell BK245.out 8).trans rfl, (blk_cell BK245.out 9).trans rfl, (blk_cell BK245.out 10).trans rfl, (blk_cell BK245.out 11).trans rfl, (blk_cell BK246.out 0).trans rfl, (blk_cell BK246.out 1).trans rfl, (blk_cell BK246.out 2).trans rfl, (blk_cell BK246.out 3).trans rfl, (blk_cell BK246.out 4).trans rfl, (blk_cell BK246.out 5).trans rfl, (blk_cell BK246.out 6).trans rfl, (blk_cell BK246.out 7).trans rfl, (blk_cell BK246.out 8).trans rfl, (blk_cell BK246.out 9).trans rfl, (blk_cell BK246.out 10).trans rfl, (blk_cell BK246.out 11).trans rfl, (blk_cell BK246.out 12).trans rfl, (blk_cell BK246.out 13).trans rfl⟩ (fun hHeld => ?_)
              clear hK K
              refine norm_ (a' := ?_) ?_ ?_
              rotate_left
              · show Act.put _ (some 51) _ = _
                simp only [Act.put, List.setIfInBounds_toArray, List.set_cons_zero, List.set_cons_succ, i64_w, i32_w]
                rfl
              refine pure_ (i := 12) (N := some 53) (v := ?_) (a' := ?_) #[true, true, true, true, true, true, true, true, true, true, true, true, true, false, false, false, false, false, false, false, false, false, false, false, false, false, false, false] rfl rfl (any_of HT_.out (by kernel_rfl)) (fun _ _ _ h => h) (Or.inl ⟨by rfl, ?_⟩) ?_ ?_
              rotate_left
              · intro w'
                go_simp
                with_reducible rfl
              rotate_left
              · simp only [Act.put, List.setIfInBounds_toArray, List.set_cons_zero, List.set_cons_succ, i64_w, i32_w]
                rfl
              refine pure_ (i := 13) (N := some 54) (v := ?_) (a' := ?_) #[true, true, true, true, true, true, true, true, true, true, true, true, true, true, false, false, false, false, false, false, false, false, false, false, false, false, false, false] rfl rfl (any_of HT_.out (by kernel_rfl)) (fun _ _ _ h => h) (Or.inl ⟨by rfl, ?_⟩) ?_ ?_
              rotate_left
              · intro w'
                go_simp
                with_reducible rfl
              rotate_left
              · simp only [Act.put, List.setIfInBounds_toArray, List.set_cons_zero, List.set_cons_succ, i64_w, i32_w]
                rfl
              refine pure_ (i := 14) (N := some 55) (v := ?_) (a' := ?_) #[true, true, true, true, true, true, true, true, true, true, true, true, true, true, true, false, false, false, false, false, false, false, false, false, false, false, false, false] rfl rfl (any_of HT_.out (by kernel_rfl)) (fun _ _ _ h => h) (Or.inl ⟨by rfl, ?_⟩) ?_ ?_
              rotate_left
              · intro w'
                go_simp
                with_reducible rfl
              rotate_left
              · simp only [Act.put, List.setIfInBounds_toArray, List.set_cons_zero, List.set_cons_succ, i64_w, i32_w]
                rfl
              refine pure_ (i := 15) (N := some 56) (v := ?_) (a' := ?_) #[true, true, true, true, true, true, true, true, true, true, true, true, true, true, true, true, false, false, false, false, false, false, false, false, false, false, false, false] rfl rfl (any_of HT_.out (by kernel_rfl)) (fun _ _ _ h => h) (Or.inl ⟨by rfl, ?_⟩) ?_ ?_
              rotate_left
              · intro w'
                go_simp
                with_reducible rfl
              rotate_left
              · simp only [Act.put, List.setIfInBounds_toArray, List.set_cons_zero, List.set_cons_succ, i64_w, i32_w]
                rfl
              refine take_ (i := 16) (N := some 57) (v := ?_) (a' := ?_) #[true, true, true, true, true, true, true, true, true, true, true, true, true, true, true, true, true, false, false, false, false, false, false, false, false, false, false, false] rfl rfl (take_ofW HT_.out HW_.out (by kernel_rfl)) (fun _ _ _ h => h) (Or.inl ⟨by rfl, ?_⟩) hHeld ?_ ?_
              rotate_left
              · rintro w' ⟨s0, s1, s2, s3, s4, s5, s6, s7, s8, s9, s10, s11, s12, s13, s14, s15, s16, s17, s18, s19, s20, s21, s22, s23, s24, s25, s26, s27, s28, s29, s30, s31, s32, s33, s34, s35, s36, s37, s38, s39⟩
                go_simp
                with_reducible rfl
              rotate_left
              · simp only [Act.put, List.setIfInBounds_toArray, List.set_cons_zero, List.set_cons_succ, i64_w, i32_w]
                rfl
              refine pure_ (i := 17) (N := some 58) (v := ?_) (a' := ?_) #[true, true, true, true, true, true, true, true, true, true, true, true, true, true, true, true, true, true, false, false, false, false, false, false, false, false, false, false] rfl rfl (any_of HT_.out (by kernel_rfl)) (fun _ _ _ h => h) (Or.inl ⟨by rfl, ?_⟩) ?_ ?_
              rotate_left
              · intro w'
                go_simp
                with_reducible rfl
              rotate_left
              · simp only [Act.put, List.setIfInBounds_toArray, List.set_cons_zero, List.set_cons_succ, i64_w, i32_w]
                rfl
              refine pure_ (i := 18) (N := some 59) (v := ?_) (a' := ?_) #[true, true, true, true, true, true, true, true, true, true, true, true, true, true, true, true, true, true, true, false, false, false, false, false, false, false, false, false] rfl rfl (any_of HT_.out (by kernel_rfl)) (fun _ _ _ h => h) (Or.inl ⟨by rfl, ?_⟩) ?_ ?_
              rotate_left
              · intro w'
                go_simp
                with_reducible rfl
              rotate_left
              · simp only [Act.put, List.setIfInBounds_toArray, List.set_cons_zero, List.set_cons_succ, i64_w, i32_w]
                rfl
              refine pure_ (i := 19) (N := some 60) (v := undef) (a' := ?_) #[true, true, true, true, true, true, true, true, true, true, true, true, true, true, true, true, true, true, true, true, false, false, false, false, false, false, false, false] rfl rfl (any_of HT_.out (by kernel_rfl)) (fun _ _ _ h => h) (Or.inr ⟨by rfl, rfl⟩) ?_ ?_
              rotate_left
              · simp only [Act.put, List.setIfInBounds_toArray, List.set_cons_zero, List.set_cons_succ, i64_w, i32_w]
                rfl
              refine pure_ (i := 20) (N := some 61) (v := undef) (a' := ?_) #[true, true, true, true, true, true, true, true, true, true, true, true, true, true, true, true, true, true, true, true, true, false, false, false, false, false, false, false] rfl rfl (any_of HT_.out (by kernel_rfl)) (fun _ _ _ h => h) (Or.inr ⟨by rfl, rfl⟩) ?_ ?_
              rotate_left
              · simp only [Act.put, List.setIfInBounds_toArray, List.set_cons_zero, List.set_cons_succ, i64_w, i32_w]
                rfl
              refine pure_ (i := 21) (N := some 62) (v := undef) (a' := ?_) #[true, true, true, true, true, true, true, true, true, true, true, true, true, true, true, true, true, true, true, true, true, true, false, false, false, false, false, false] rfl rfl (any_of HT_.out (by kernel_rfl)) (fun _ _ _ h => h) (Or.inr ⟨by rfl, rfl⟩) ?_ ?_
              rotate_left
              · simp only [Act.put, List.setIfInBounds_toArray, List.set_cons_zero, List.set_cons_succ, i64_w, i32_w]
                rfl
              refine pure_ (i := 22) (N := some 63) (v := ?_) (a' := ?_) #[true, true, true, true, true, true, true, true, true, true, true, true, true, true, true, true, true, true, true, true, true, true, true, false, false, false, false, false] rfl rfl (any_of HT_.out (by kernel_rfl)) (fun _ _ _ h => h) (Or.inl ⟨by rfl, ?_⟩) ?_ ?_
              rotate_left
              · intro w'
                go_simp
                with_reducible rfl
              rotate_left
              · simp only [Act.put, List.setIfInBounds_toArray, List.set_cons_zero, List.set_cons_succ, i64_w, i32_w]
                rfl
              refine pure_ (i := 23) (N := some 64) (v := ?_) (a' := ?_) #[true, true, true, true, true, true, true, true, true, true, true, true, true, true, true, true, true, true, true, true, true, true, true, true, false, false, false, false] rfl rfl (any_of HT_.out (by kernel_rfl)) (fun _ _ _ h => h) (Or.inl ⟨by rfl, ?_⟩) ?_ ?_
              rotate_left
              · intro w'
                go_simp
                with_reducible rfl
              rotate_left
              · simp only [Act.put, List.setIfInBounds_toArray, List.set_cons_zero, List.set_cons_succ, i64_w, i32_w]
                rfl
              refine pure_ (i := 24) (N := some 65) (v := ?_) (a' := ?_) #[true, true, true, true, true, true, true, true, true, true, true, true, true, true, true, true, true, true, true, true, true, true, true, true, true, false, false, false] rfl rfl (any_of HT_.out (by kernel_rfl)) (fun _ _ _ h => h) (Or.inl ⟨by rfl, ?_⟩) ?_ ?_
              rotate_left
              · intro w'
                go_simp
                with_reducible rfl
              rotate_left
              · simp only [Act.put, List.setIfInBounds_toArray, List.set_cons_zero, List.set_cons_succ, i64_w, i32_w]
                rfl
              refine one_ (i := 25) (N := some 66) #[true, true, true, true, true, true, true, true, true, true, true, true, true, true, true, true, true, true, true, true, true, true, true, true, true, true, false, false] rfl rfl (one_of HT_.out (by kernel_rfl)) (by decide) (fun K hK => ?_)
              refine goes_ Tryd.func7 (by kernel_rfl) rfl #[] (by rfl) rfl rfl (by (try simp only [List.map_toArray, List.map_cons, List.map_nil]); first | done | rfl | (simp only [List.length_drop, List.length_take]; rfl)) ?_
              with_reducible refine (quipulaw20_fixed.calls  true _ (Gd.below HG.out (by repeat (first | (with_reducible first | exact HB.out | apply below_alloc | apply pw_below_drewN | apply below_drew1 | refine below_set ?_ GE245.out | refine below_set ?_ GE246.out | refine below_set ?_ GE262.out) | exact HB.out))) A33.out).mono ?_
              rintro e w46 ⟨rfl, hb⟩
              refine ⟨_, rfl, ?_⟩
              have n0_ := Aside0.mk (blk_below (g := gb245) (o := .cells #[.string a0_0, .string a0_1, .string a0_2, .string a0_3, .string a0_4, .string a0_5, .string a0_6, .string a0_7, .string a0_8, .int .i64 a0_9, .int .i64 a0_10, .int .i64 a0_11] 24 (0, 0)) (by (with_reducible repeat (first | refine blk_drewN ?_ _ | refine blk_drew ?_ | refine blk_alloc ?_ _)); exact BK245.out) hb)
              have n1_ := Aside0.mk (blk_below (g := gb246) (o := .cells #[.int .i64 a2_0, .int .i64 a2_1, .int .i64 a2_2, .int .i64 a2_3, .int .i64 a2_4, .bool a2_5, .int .i64 a2_6, .bool a2_7, .string a2_8, .int .i64 a2_9, .int .i64 a2_10, .bool a2_11, .int .i64 a2_12, .int .i64 a2_13] 28 (0, 0)) (by (with_reducible repeat (first | refine blk_drewN ?_ _ | refine blk_drew ?_ | refine blk_alloc ?_ _)); exact BK246.out) hb)
              have n2_ := Aside0.mk (blk_below (g := gb262) (o := .cells #[.int .i64 t248, .int .i64 t249, .int .i64 t250, .int .i64 t251, .int .i64 t252, .bool t253, .int .i64 t254, .bool t255, .string t256, .int .i64 t257, .int .i64 t258, .bool t259, .int .i64 t260, .int .i64 t261] 28 (0, 0)) (by (with_reducible repeat (first | refine blk_drewN ?_ _ | refine blk_drew ?_ | refine blk_alloc ?_ _)); exact BK262.out) hb)
              have n3_ := Aside0.mk (below_step (by repeat (first | (with_reducible first | exact HB.out | apply below_alloc | apply pw_below_drewN | apply below_drew1 | refine below_set ?_ GE245.out | refine below_set ?_ GE246.out | refine below_set ?_ GE262.out) | exact HB.out)) hb)
              clear BK245
              clear BK246
              clear BK262
              clear HB
              have BK245 := n0_
              have BK246 := n1_
              have BK262 := n2_
              have HB := n3_
              clear n0_ n1_ n2_ n3_
              (try clear hb)
              (try clear hb2)
              (try clear hk)
              (try clear hi)
              refine hK.out _ _ ⟨(blk_cell BK262.out 0).trans rfl, (blk_cell BK262.out 1).trans rfl, (blk_cell BK262.out 2).trans rfl, (blk_cell BK262.out 3).trans rfl, (blk_cell BK262.out 4).trans rfl, (blk_cell BK262.out 5).trans rfl, (blk_cell BK262.out 6).trans rfl, (blk_cell BK262.out 7).trans rfl, (blk_cell BK262.out 8).trans rfl, (blk_cell BK262.out 9).trans rfl, (blk_cell BK262.out 10).trans rfl, (blk_cell BK262.out 11).trans rfl, (blk_cell BK262.out 12).trans rfl, (blk_cell BK262.out 13).trans rfl, (blk_cell BK245.out 0).trans rfl, (blk_cell BK245.out 1).trans rfl, (blk_cell BK245.out 2).trans rfl, (blk_cell BK245.out 3).trans rfl, (blk_cell BK245.out 4).trans rfl, (blk_cell BK245.out 5).trans rfl, (blk_cell BK245.out 6).trans rfl, (blk_cell BK245.out 7).trans rfl, (blk_cell BK245.out 8).trans rfl, (blk_cell BK245.out 9).trans rfl, (blk_cell BK245.out 10).trans rfl, (blk_cell BK245.out 11).trans rfl, (blk_cell BK246.out 0).trans rfl, (blk_cell BK246.out 1).trans rfl, (blk_cell BK246.out 2).trans rfl, (blk_cell BK246.out 3).trans rfl, (blk_cell BK246.out 4).trans rfl, (blk_cell BK246.out 5).trans rfl, (blk_cell BK246.out 6).trans rfl, (blk_cell BK246.out 7).trans rfl, (blk_cell BK246.out 8).trans rfl, (blk_cell BK246.out 9).trans rfl, (blk_cell BK246.out 10).trans rfl, (blk_cell BK246.out 11).trans rfl, (blk_cell BK246.out 12).trans rfl, (blk_cell BK246.out 13).trans rfl⟩ (fun hHeld => ?_)
              clear hK K
              refine norm_ (a' := ?_) ?_ ?_
              rotate_left
              · show Act.put _ (some 66) _ = _
                simp only [Act.put, List.setIfInBounds_toArray, List.set_cons_zero, List.set_cons_succ, i64_w, i32_w]
                rfl
              refine pure_ (i := 26) (N := some 67) (v := ?_) (a' := ?_) #[true, true, true, true, true, true, true, true, true, true, true, true, true, true, true, true, true, true, true, true, true, true, true, true, true, true, true, false] rfl rfl (any_of HT_.out (by kernel_rfl)) (fun _ _ _ h => h) (Or.inl ⟨by rfl, ?_⟩) ?_ ?_
              rotate_left
              · intro w'
                go_simp
                with_reducible rfl
              rotate_left
              · simp only [Act.put, List.setIfInBounds_toArray, List.set_cons_zero, List.set_cons_succ, i64_w, i32_w]
                rfl
              refine pure_ (i := 27) (N := some 6) (v := ?_) (a' := ?_) #[true, true, true, true, true, true, true, true, true, true, true, true, true, true, true, true, true, true, true, true, true, true, true, true, true, true, true, true] rfl rfl (any_of HT_.out (by kernel_rfl)) (fun _ _ _ h => h) (Or.inl ⟨by rfl, ?_⟩) ?_ ?_
              rotate_left
              · intro w'
                go_simp
                with_reducible rfl
              rotate_left
              · simp only [Act.put, List.setIfInBounds_toArray, List.set_cons_zero, List.set_cons_succ, i64_w, i32_w]
                rfl
              refine done_ (done_of HT_.out (by kernel_rfl)) ?_
              try go_wp2
              go_ret
              exact ⟨by first | rfl | (simp [errW_none, errW_some] <;> rfl) | (simp [*, errW_none, errW_some] <;> rfl) | (simp only [ne_nil_b]; first | done | rfl) | (simp [ne_nil_b]; done), by repeat (first | (with_reducible first | exact HB.out | apply below_alloc | apply pw_below_drewN | apply below_drew1 | refine below_set ?_ GE245.out | refine below_set ?_ GE246.out | refine below_set ?_ GE262.out) | exact HB.out)⟩
            · rw [if_neg c32] at H
              have c32b0 : (a2_0 == 0) = false := beq_eq_false_iff_ne.mpr c32
              have c32b1 : (a2_0 != 0) = true := bne_iff_ne.mpr c32
              by_cases c47 : (t248 == a2_0 && (t249 == a2_1 && (t250 == a2_2 && (t251 == a2_3 && (t252 == a2_4 && (t253 == a2_5 && ((t254 == a2_6 && (t255 == a2_7 && (t256.toList == a2_8.toList && (t257 == a2_9)))) && (t258 == a2_10 && (t259 == a2_11 && (t260 == a2_12 && (t261 == a2_13))))))))))) = true
              · rw [if_pos c47] at H
                have c47b0 : (t248 == a2_0 && (t249 == a2_1 && (t250 == a2_2 && (t251 == a2_3 && (t252 == a2_4 && (t253 == a2_5 && ((t254 == a2_6 && (t255 == a2_7 && (t256.toList == a2_8.toList && (t257 == a2_9)))) && (t258 == a2_10 && (t259 == a2_11 && (t260 == a2_12 && (t261 == a2_13))))))))))) = true := c47
                (try (have c47b1 : decide (t248 = a2_0 && (t249 == a2_1 && (t250 == a2_2 && (t251 == a2_3 && (t252 == a2_4 && (t253 == a2_5 && ((t254 == a2_6 && (t255 == a2_7 && (t256.toList == a2_8.toList && (t257 == a2_9)))) && (t258 == a2_10 && (t259 == a2_11 && (t260 == a2_12 && (t261 == a2_13))))))))))) = true := by simpa using c47))
                (try (have c47b2 : (t248 == a2_0 && (t249 == a2_1 && (t250 == a2_2 && (t251 == a2_3 && (t252 == a2_4 && (t253 == a2_5 && ((t254 == a2_6 && (t255 == a2_7 && (t256.toList == a2_8.toList && (t257 == a2_9)))) && (t258 == a2_10 && (t259 == a2_11 && (t260 == a2_12 && (t261 == a2_13))))))))))) = true := by simpa using c47))
                clear c47
                replace H := Option.bind_eq_some_iff.mp H
                obtain ⟨t292, A480, H⟩ := H
                replace H : (some t292) = some true := H
                have A48 := Aside0.mk A480
                clear A480
                obtain rfl := Option.some.inj H
                have hnb49 := NB245_246.out
                have hnc49 := NB246_245.out
                have hcz50_0 : wc.cell? ⟨gb245, 0, none⟩ = some (.string a0_0) := (blk_cell BK245.out 0).trans rfl
                have hcz50_1 : wc.cell? ⟨gb245, 1, none⟩ = some (.string a0_1) := (blk_cell BK245.out 1).trans rfl
                have hcz50_2 : wc.cell? ⟨gb245, 2, none⟩ = some (.string a0_2) := (blk_cell BK245.out 2).trans rfl
                have hcz50_3 : wc.cell? ⟨gb245, 3, none⟩ = some (.string a0_3) := (blk_cell BK245.out 3).trans rfl
                have hcz50_4 : wc.cell? ⟨gb245, 4, none⟩ = some (.string a0_4) := (blk_cell BK245.out 4).trans rfl
                have hcz50_5 : wc.cell? ⟨gb245, 5, none⟩ = some (.string a0_5) := (blk_cell BK245.out 5).trans rfl
                have hcz50_6 : wc.cell? ⟨gb245, 6, none⟩ = some (.string a0_6) := (blk_cell BK245.out 6).trans rfl
                have hcz50_7 : wc.cell? ⟨gb245, 7, none⟩ = some (.string a0_7) := (blk_cell BK245.out 7).trans rfl
                have hcz50_8 : wc.cell? ⟨gb245, 8, none⟩ = some (.string a0_8) := (blk_cell BK245.out 8).trans rfl
                have hcz50_9 : wc.cell? ⟨gb245, 9, none⟩ = some (.int .i64 a0_9) := (blk_cell BK245.out 9).trans rfl
                have hcz50_10 : wc.cell? ⟨gb245, 10, none⟩ = some (.int .i64 a0_10) := (blk_cell BK245.out 10).trans rfl
                have hcz50_11 : wc.cell? ⟨gb245, 11, none⟩ = some (.int .i64 a0_11) := (blk_cell BK245.out 11).trans rfl
                have hfz50_0 := blk_frozen BK245.out 0
                have hfz50_1 := blk_frozen BK245.out 1
                have hfz50_2 := blk_frozen BK245.out 2
                have hfz50_3 := blk_frozen BK245.out 3
                have hfz50_4 := blk_frozen BK245.out 4
                have hfz50_5 := blk_frozen BK245.out 5
                have hfz50_6 := blk_frozen BK245.out 6
                have hfz50_7 := blk_frozen BK245.out 7
                have hfz50_8 := blk_frozen BK245.out 8
                have hfz50_9 := blk_frozen BK245.out 9
                have hfz50_10 := blk_frozen BK245.out 10
                have hfz50_11 := blk_frozen BK245.out 11
                have hcz51_0 : wc.cell? ⟨gb246, 0, none⟩ = some (.int .i64 a2_0) := (blk_cell BK246.out 0).trans rfl
                have hcz51_1 : wc.cell? ⟨gb246, 1, none⟩ = some (.int .i64 a2_1) := (blk_cell BK246.out 1).trans rfl
                have hcz51_2 : wc.cell? ⟨gb246, 2, none⟩ = some (.int .i64 a2_2) := (blk_cell BK246.out 2).trans rfl
                have hcz51_3 : wc.cell? ⟨gb246, 3, none⟩ = some (.int .i64 a2_3) := (blk_cell BK246.out 3).trans rfl
                have hcz51_4 : wc.cell? ⟨gb246, 4, none⟩ = some (.int .i64 a2_4) := (blk_cell BK246.out 4).trans rfl
                have hcz51_5 : wc.cell? ⟨gb246, 5, none⟩ = some (.bool a2_5) := (blk_cell BK246.out 5).trans rfl
                have hcz51_6 : wc.cell? ⟨gb246, 6, none⟩ = some (.int .i64 a2_6) := (blk_cell BK246.out 6).trans rfl
                have hcz51_7 : wc.cell? ⟨gb246, 7, none⟩ = some (.bool a2_7) := (blk_cell BK246.out 7).trans rfl
                have hcz51_8 : wc.cell? ⟨gb246, 8, none⟩ = some (.string a2_8) := (blk_cell BK246.out 8).trans rfl
                have hcz51_9 : wc.cell? ⟨gb246, 9, none⟩ = some (.int .i64 a2_9) := (blk_cell BK246.out 9).trans rfl
                have hcz51_10 : wc.cell? ⟨gb246, 10, none⟩ = some (.int .i64 a2_10) := (blk_cell BK246.out 10).trans rfl
                have hcz51_11 : wc.cell? ⟨gb246, 11, none⟩ = some (.bool a2_11) := (blk_cell BK246.out 11).trans rfl
                have hcz51_12 : wc.cell? ⟨gb246, 12, none⟩ = some (.int .i64 a2_12) := (blk_cell BK246.out 12).trans rfl
                have hcz51_13 : wc.cell? ⟨gb246, 13, none⟩ = some (.int .i64 a2_13) := (blk_cell BK246.out 13).trans rfl
                have hfz51_0 := blk_frozen BK246.out 0
                have hfz51_1 := blk_frozen BK246.out 1
                have hfz51_2 := blk_frozen BK246.out 2
                have hfz51_3 := blk_frozen BK246.out 3
                have hfz51_4 := blk_frozen BK246.out 4
                have hfz51_5 := blk_frozen BK246.out 5
                have hfz51_6 := blk_frozen BK246.out 6
                have hfz51_7 := blk_frozen BK246.out 7
                have hfz51_8 := blk_frozen BK246.out 8
                have hfz51_9 := blk_frozen BK246.out 9
                have hfz51_10 := blk_frozen BK246.out 10
                have hfz51_11 := blk_frozen BK246.out 11
                have hfz51_12 := blk_frozen BK246.out 12
                have hfz51_13 := blk_frozen BK246.out 13
                try go_wp2_with (first | ((with_reducible refine gate_callee (f := 8) rfl ?_); refine goesL_ (some 40) rfl rfl Tryd.func8 (by kernel_rfl) rfl #[.agg #[.string a0_0, .string a0_1, .string a0_2, .string a0_3, .string a0_4, .string a0_5, .string a0_6, .string a0_7, .string a0_8, .int .i64 a0_9, .int .i64 a0_10, .int .i64 a0_11], .bool a1, .agg #[.int .i64 a2_0, .int .i64 a2_1, .int .i64 a2_2, .int .i64 a2_3, .int .i64 a2_4, .bool a2_5, .int .i64 a2_6, .bool a2_7, .string a2_8, .int .i64 a2_9, .int .i64 a2_10, .bool a2_11, .int .i64 a2_12, .int .i64 a2_13]] rfl (by (try simp only [List.map_toArray, List.map_cons, List.map_nil]); first | done | rfl | (simp only [List.length_drop, List.length_take]; rfl)) ?_; (with_reducible refine (money_Precision.calls kj3 a0_0 a0_1 a0_2 a0_3 a0_4 a0_5 a0_6 a0_7 a0_8 a0_9 a0_10 a0_11 a1 a2_0 a2_1 a2_2 a2_3 a2_4 a2_5 a2_6 a2_7 a2_8 a2_9 a2_10 a2_11 a2_12 a2_13 t248 t249 t250 t251 t252 t253 t254 t255 t256 t257 t258 t259 t260 t261 _ (Gd.below HG.out (by repeat (first | (with_reducible first | exact HB.out | apply below_alloc | apply pw_below_drewN | apply below_drew1 | refine below_set ?_ GE245.out | refine below_set ?_ GE246.out) | exact HB.out))) A27.out).mono ?_); rintro e w52 ⟨rfl, hb⟩; refine ⟨_, rfl, ?_⟩; have n0_ := Aside0.mk (blk_below (g := gb245) (o := .cells #[.string a0_0, .string a0_1, .string a0_2, .string a0_3, .string a0_4, .string a0_5, .string a0_6, .string a0_7, .string a0_8, .int .i64 a0_9, .int .i64 a0_10, .int .i64 a0_11] 24 (0, 0)) (by (with_reducible repeat (first | refine blk_drewN ?_ _ | refine blk_drew ?_ | refine blk_alloc ?_ _)); exact BK245.out) hb); have n1_ := Aside0.mk (blk_below (g := gb246) (o := .cells #[.int .i64 a2_0, .int .i64 a2_1, .int .i64 a2_2, .int .i64 a2_3, .int .i64 a2_4, .bool a2_5, .int .i64 a2_6, .bool a2_7, .string a2_8, .int .i64 a2_9, .int .i64 a2_10, .bool a2_11, .int .i64 a2_12, .int .i64 a2_13] 28 (0, 0)) (by (with_reducible repeat (first | refine blk_drewN ?_ _ | refine blk_drew ?_ | refine blk_alloc ?_ _)); exact BK246.out) hb); have n2_ := Aside0.mk (below_step (by repeat (first | (with_reducible first | exact HB.out | apply below_alloc | apply pw_below_drewN | apply below_drew1 | refine below_set ?_ GE245.out | refine below_set ?_ GE246.out) | exact HB.out)) hb); clear BK245; clear BK246; clear HB; have BK245 := n0_; have BK246 := n1_; have HB := n2_; clear n0_ n1_ n2_; (try clear hb); (try clear hb2); (try clear hk); (try clear hi)) | ((with_reducible refine gate_dst (N := 7) rfl ?_); refine box_event ?hg (N := 7) ?hd (cs := #[.int .i64 0, .int .i64 0, .int .i64 0, .int .i64 0, .int .i64 0, .bool false, .int .i64 0, .bool false, .string (⟨#[]⟩ : ByteArray), .int .i64 0, .int .i64 0, .bool false, .int .i64 0, .int .i64 0]) (t := 28) ?hr ?_; (case hd => rfl); (case hg => rfl); (case hr => first | (go_simp; done) | (go_simp; rfl)); intro gb262 hg w53 hbox hb; have n0_ := Aside0.mk (blk_below (g := gb245) (o := .cells #[.string a0_0, .string a0_1, .string a0_2, .string a0_3, .string a0_4, .string a0_5, .string a0_6, .string a0_7, .string a0_8, .int .i64 a0_9, .int .i64 a0_10, .int .i64 a0_11] 24 (0, 0)) (by (with_reducible repeat (first | refine blk_drewN ?_ _ | refine blk_drew ?_ | refine blk_alloc ?_ _)); exact BK245.out) hb); have n1_ := Aside0.mk (blk_below (g := gb246) (o := .cells #[.int .i64 a2_0, .int .i64 a2_1, .int .i64 a2_2, .int .i64 a2_3, .int .i64 a2_4, .bool a2_5, .int .i64 a2_6, .bool a2_7, .string a2_8, .int .i64 a2_9, .int .i64 a2_10, .bool a2_11, .int .i64 a2_12, .int .i64 a2_13] 28 (0, 0)) (by (with_reducible repeat (first | refine blk_drewN ?_ _ | refine blk_drew ?_ | refine blk_alloc ?_ _)); exact BK246.out) hb); have n2_ := Aside0.mk (below_step (by repeat (first | (with_reducible first | exact HB.out | apply below_alloc | apply pw_below_drewN | apply below_drew1 | refine below_set ?_ GE245.out | refine below_set ?_ GE246.out) | exact HB.out)) hb); have n3_ := Aside0.mk (hbox); have n4_ := Aside0.mk ((by rw [hg]; exact (below_size (by repeat (first | (with_reducible first | exact HB.out | apply below_alloc | apply pw_below_drewN | apply below_drew1 | refine below_set ?_ GE245.out | refine below_set ?_ GE246.out) | exact HB.out))) : w.heap.size ≤ gb262)); have n5_ := Aside0.mk ((by rw [hg]; exact (below_size (by repeat (first | (with_reducible first | exact HB.out | apply below_alloc | apply pw_below_drewN | apply below_drew1 | refine below_set ?_ GE245.out | refine below_set ?_ GE246.out) | exact HB.out))) : w.heap.size ≤ gb262)); have n6_ := Aside0.mk ((by rw [hg]; exact Nat.ne_of_lt (blk_lt (g := gb245) (o := .cells #[.string a0_0, .string a0_1, .string a0_2, .string a0_3, .string a0_4, .string a0_5, .string a0_6, .string a0_7, .string a0_8, .int .i64 a0_9, .int .i64 a0_10, .int .i64 a0_11] 24 (0, 0)) (by (with_reducible repeat (first | refine blk_drewN ?_ _ | refine blk_drew ?_ | refine blk_alloc ?_ _)); exact BK245.out)) : gb245 ≠ gb262)); have n7_ := Aside0.mk ((by rw [hg]; exact Nat.ne_of_gt (blk_lt (g := gb245) (o := .cells #[.string a0_0, .string a0_1, .string a0_2, .string a0_3, .string a0_4, .string a0_5, .string a0_6, .string a0_7, .string a0_8, .int .i64 a0_9, .int .i64 a0_10, .int .i64 a0_11] 24 (0, 0)) (by (with_reducible repeat (first | refine blk_drewN ?_ _ | refine blk_drew ?_ | refine blk_alloc ?_ _)); exact BK245.out)) : gb262 ≠ gb245)); have n8_ := Aside0.mk ((by rw [hg]; exact Nat.ne_of_lt (blk_lt (g := gb246) (o := .cells #[.int .i64 a2_0, .int .i64 a2_1, .int .i64 a2_2, .int .i64 a2_3, .int .i64 a2_4, .bool a2_5, .int .i64 a2_6, .bool a2_7, .string a2_8, .int .i64 a2_9, .int .i64 a2_10, .bool a2_11, .int .i64 a2_12, .int .i64 a2_13] 28 (0, 0)) (by (with_reducible repeat (first | refine blk_drewN ?_ _ | refine blk_drew ?_ | refine blk_alloc ?_ _)); exact BK246.out)) : gb246 ≠ gb262)); have n9_ := Aside0.mk ((by rw [hg]; exact Nat.ne_of_gt (blk_lt (g := gb246) (o := .cells #[.int .i64 a2_0, .int .i64 a2_1, .int .i64 a2_2, .int .i64 a2_3, .int .i64 a2_4, .bool a2_5, .int .i64 a2_6, .bool a2_7, .string a2_8, .int .i64 a2_9, .int .i64 a2_10, .bool a2_11, .int .i64 a2_12, .int .i64 a2_13] 28 (0, 0)) (by (with_reducible repeat (first | refine blk_drewN ?_ _ | refine blk_drew ?_ | refine blk_alloc ?_ _)); exact BK246.out)) : gb262 ≠ gb246)); clear BK245; clear BK246; clear HB; have BK245 := n0_; have BK246 := n1_; have HB := n2_; have BK262 := n3_; have GW262 := n4_; have GE262 := n5_; have NB245_262 := n6_; have NB262_245 := n7_; have NB246_262 := n8_; have NB262_246 := n9_; clear n0_ n1_ n2_ n3_ n4_ n5_ n6_ n7_ n8_ n9_; clear hb hbox hg; have hnb54 := NB262_245.out; have hnc54 := NB245_262.out; have hnb55 := NB262_246.out; have hnc55 := NB246_262.out; have hcz56_0 : w53.cell? ⟨gb262, 0, none⟩ = some (.int .i64 0) := (blk_cell BK262.out 0).trans rfl; have hcz56_1 : w53.cell? ⟨gb262, 1, none⟩ = some (.int .i64 0) := (blk_cell BK262.out 1).trans rfl; have hcz56_2 : w53.cell? ⟨gb262, 2, none⟩ = some (.int .i64 0) := (blk_cell BK262.out 2).trans rfl; have hcz56_3 : w53.cell? ⟨gb262, 3, none⟩ = some (.int .i64 0) := (blk_cell BK262.out 3).trans rfl; have hcz56_4 : w53.cell? ⟨gb262, 4, none⟩ = some (.int .i64 0) := (blk_cell BK262.out 4).trans rfl; have hcz56_5 : w53.cell? ⟨gb262, 5, none⟩ = some (.bool false) := (blk_cell BK262.out 5).trans rfl; have hcz56_6 : w53.cell? ⟨gb262, 6, none⟩ = some (.int .i64 0) := (blk_cell BK262.out 6).trans rfl; have hcz56_7 : w53.cell? ⟨gb262, 7, none⟩ = some (.bool false) := (blk_cell BK262.out 7).trans rfl; have hcz56_8 : w53.cell? ⟨gb262, 8, none⟩ = some (.string (⟨#[]⟩ : ByteArray)) := (blk_cell BK262.out 8).trans rfl; have hcz56_9 : w53.cell? ⟨gb262, 9, none⟩ = some (.int .i64 0) := (blk_cell BK262.out 9).trans rfl; have hcz56_10 : w53.cell? ⟨gb262, 10, none⟩ = some (.int .i64 0) := (blk_cell BK262.out 10).trans rfl; have hcz56_11 : w53.cell? ⟨gb262, 11, none⟩ = some (.bool false) := (blk_cell BK262.out 11).trans rfl; have hcz56_12 : w53.cell? ⟨gb262, 12, none⟩ = some (.int .i64 0) := (blk_cell BK262.out 12).trans rfl; have hcz56_13 : w53.cell? ⟨gb262, 13, none⟩ = some (.int .i64 0) := (blk_cell BK262.out 13).trans rfl; have hfz56_0 := blk_frozen BK262.out 0; have hfz56_1 := blk_frozen BK262.out 1; have hfz56_2 := blk_frozen BK262.out 2; have hfz56_3 := blk_frozen BK262.out 3; have hfz56_4 := blk_frozen BK262.out 4; have hfz56_5 := blk_frozen BK262.out 5; have hfz56_6 := blk_frozen BK262.out 6; have hfz56_7 := blk_frozen BK262.out 7; have hfz56_8 := blk_frozen BK262.out 8; have hfz56_9 := blk_frozen BK262.out 9; have hfz56_10 := blk_frozen BK262.out 10; have hfz56_11 := blk_frozen BK262.out 11; have hfz56_12 := blk_frozen BK262.out 12; have hfz56_13 := blk_frozen BK262.out 13))
                have n0_ : Aside0 (((((((((((((((w53.setCell ⟨gb262, 0, none⟩ (.int .i64 t248)).setCell ⟨gb262, 1, none⟩ (.int .i64 t249)).setCell ⟨gb262, 2, none⟩ (.int .i64 t250)).setCell ⟨gb262, 3, none⟩ (.int .i64 t251)).setCell ⟨gb262, 4, none⟩ (.int .i64 t252)).setCell ⟨gb262, 5, none⟩ (.bool t253)).setCell ⟨gb262, 6, none⟩ (.int .i64 t254)).setCell ⟨gb262, 7, none⟩ (.bool t255)).setCell ⟨gb262, 8, none⟩ (.string t256)).setCell ⟨gb262, 9, none⟩ (.int .i64 t257)).setCell ⟨gb262, 10, none⟩ (.int .i64 t258)).setCell ⟨gb262, 11, none⟩ (.bool t259)).setCell ⟨gb262, 12, none⟩ (.int .i64 t260)).setCell ⟨gb262, 13, none⟩ (.int .i64 t261)).heap[gb245]? = some (.cells #[.string a0_0, .string a0_1, .string a0_2, .string a0_3, .string a0_4, .string a0_5, .string a0_6, .string a0_7, .string a0_8, .int .i64 a0_9, .int .i64 a0_10, .int .i64 a0_11] 24 (0, 0))) := ⟨by (with_reducible repeat (first | refine blk_drewN ?_ _ | refine blk_drew ?_ | refine blk_alloc ?_ _)); refine blk_far ?_ NB245_262.out _; (with_reducible repeat (first | refine blk_drewN ?_ _ | refine blk_drew ?_ | refine blk_alloc ?_ _)); refine blk_far ?_ NB245_262.out _; (with_reducible repeat (first | refine blk_drewN ?_ _ | refine blk_drew ?_ | refine blk_alloc ?_ _)); refine blk_far ?_ NB245_262.out _; (with_reducible repeat (first | refine blk_drewN ?_ _ | refine blk_drew ?_ | refine blk_alloc ?_ _)); refine blk_far ?_ NB245_262.out _; (with_reducible repeat (first | refine blk_drewN ?_ _ | refine blk_drew ?_ | refine blk_alloc ?_ _)); refine blk_far ?_ NB245_262.out _; (with_reducible repeat (first | refine blk_drewN ?_ _ | refine blk_drew ?_ | refine blk_alloc ?_ _)); refine blk_far ?_ NB245_262.out _; (with_reducible repeat (first | refine blk_drewN ?_ _ | refine blk_drew ?_ | refine blk_alloc ?_ _)); refine blk_far ?_ NB245_262.out _; (with_reducible repeat (first | refine blk_drewN ?_ _ | refine blk_drew ?_ | refine blk_alloc ?_ _)); refine blk_far ?_ NB245_262.out _; (with_reducible repeat (first | refine blk_drewN ?_ _ | refine blk_drew ?_ | refine blk_alloc ?_ _)); refine blk_far ?_ NB245_262.out _; (with_reducible repeat (first | refine blk_drewN ?_ _ | refine blk_drew ?_ | refine blk_alloc ?_ _)); refine blk_far ?_ NB245_262.out _; (with_reducible repeat (first | refine blk_drewN ?_ _ | refine blk_drew ?_ | refine blk_alloc ?_ _)); refine blk_far ?_ NB245_262.out _; (with_reducible repeat (first | refine blk_drewN ?_ _ | refine blk_drew ?_ | refine blk_alloc ?_ _)); refine blk_far ?_ NB245_262.out _; (with_reducible repeat (first | refine blk_drewN ?_ _ | refine blk_drew ?_ | refine blk_alloc ?_ _)); refine blk_far ?_ NB245_262.out _; (with_reducible repeat (first | refine blk_drewN ?_ _ | refine blk_drew ?_ | refine blk_alloc ?_ _)); refine blk_far ?_ NB245_262.out _; (with_reducible repeat (first | refine blk_drewN ?_ _ | refine blk_drew ?_ | refine blk_alloc ?_ _)); exact BK245.out⟩
                have n1_ : Aside0 (((((((((((((((w53.setCell ⟨gb262, 0, none⟩ (.int .i64 t248)).setCell ⟨gb262, 1, none⟩ (.int .i64 t249)).setCell ⟨gb262, 2, none⟩ (.int .i64 t250)).setCell ⟨gb262, 3, none⟩ (.int .i64 t251)).setCell ⟨gb262, 4, none⟩ (.int .i64 t252)).setCell ⟨gb262, 5, none⟩ (.bool t253)).setCell ⟨gb262, 6, none⟩ (.int .i64 t254)).setCell ⟨gb262, 7, none⟩ (.bool t255)).setCell ⟨gb262, 8, none⟩ (.string t256)).setCell ⟨gb262, 9, none⟩ (.int .i64 t257)).setCell ⟨gb262, 10, none⟩ (.int .i64 t258)).setCell ⟨gb262, 11, none⟩ (.bool t259)).setCell ⟨gb262, 12, none⟩ (.int .i64 t260)).setCell ⟨gb262, 13, none⟩ (.int .i64 t261)).heap[gb246]? = some (.cells #[.int .i64 a2_0, .int .i64 a2_1, .int .i64 a2_2, .int .i64 a2_3, .int .i64 a2_4, .bool a2_5, .int .i64 a2_6, .bool a2_7, .string a2_8, .int .i64 a2_9, .int .i64 a2_10, .bool a2_11, .int .i64 a2_12, .int .i64 a2_13] 28 (0, 0))) := ⟨by (with_reducible repeat (first | refine blk_drewN ?_ _ | refine blk_drew ?_ | refine blk_alloc ?_ _)); refine blk_far ?_ NB246_262.out _; (with_reducible repeat (first | refine blk_drewN ?_ _ | refine blk_drew ?_ | refine blk_alloc ?_ _)); refine blk_far ?_ NB246_262.out _; (with_reducible repeat (first | refine blk_drewN ?_ _ | refine blk_drew ?_ | refine blk_alloc ?_ _)); refine blk_far ?_ NB246_262.out _; (with_reducible repeat (first | refine blk_drewN ?_ _ | refine blk_drew ?_ | refine blk_alloc ?_ _)); refine blk_far ?_ NB246_262.out _; (with_reducible repeat (first | refine blk_drewN ?_ _ | refine blk_drew ?_ | refine blk_alloc ?_ _)); refine blk_far ?_ NB246_262.out _; (with_reducible repeat (first | refine blk_drewN ?_ _ | refine blk_drew ?_ | refine blk_alloc ?_ _)); refine blk_far ?_ NB246_262.out _; (with_reducible repeat (first | refine blk_drewN ?_ _ | refine blk_drew ?_ | refine blk_alloc ?_ _)); refine blk_far ?_ NB246_262.out _; (with_reducible repeat (first | refine blk_drewN ?_ _ | refine blk_drew ?_ | refine blk_alloc ?_ _)); refine blk_far ?_ NB246_262.out _; (with_reducible repeat (first | refine blk_drewN ?_ _ | refine blk_drew ?_ | refine blk_alloc ?_ _)); refine blk_far ?_ NB246_262.out _; (with_reducible repeat (first | refine blk_drewN ?_ _ | refine blk_drew ?_ | refine blk_alloc ?_ _)); refine blk_far ?_ NB246_262.out _; (with_reducible repeat (first | refine blk_drewN ?_ _ | refine blk_drew ?_ | refine blk_alloc ?_ _)); refine blk_far ?_ NB246_262.out _; (with_reducible repeat (first | refine blk_drewN ?_ _ | refine blk_drew ?_ | refine blk_alloc ?_ _)); refine blk_far ?_ NB246_262.out _; (with_reducible repeat (first | refine blk_drewN ?_ _ | refine blk_drew ?_ | refine blk_alloc ?_ _)); refine blk_far ?_ NB246_262.out _; (with_reducible repeat (first | refine blk_drewN ?_ _ | refine blk_drew ?_ | refine blk_alloc ?_ _)); refine blk_far ?_ NB246_262.out _; (with_reducible repeat (first | refine blk_drewN ?_ _ | refine blk_drew ?_ | refine blk_alloc ?_ _)); exact BK246.out⟩
                have n2_ : Aside0 (((((((((((((((w53.setCell ⟨gb262, 0, none⟩ (.int .i64 t248)).setCell ⟨gb262, 1, none⟩ (.int .i64 t249)).setCell ⟨gb262, 2, none⟩ (.int .i64 t250)).setCell ⟨gb262, 3, none⟩ (.int .i64 t251)).setCell ⟨gb262, 4, none⟩ (.int .i64 t252)).setCell ⟨gb262, 5, none⟩ (.bool t253)).setCell ⟨gb262, 6, none⟩ (.int .i64 t254)).setCell ⟨gb262, 7, none⟩ (.bool t255)).setCell ⟨gb262, 8, none⟩ (.string t256)).setCell ⟨gb262, 9, none⟩ (.int .i64 t257)).setCell ⟨gb262, 10, none⟩ (.int .i64 t258)).setCell ⟨gb262, 11, none⟩ (.bool t259)).setCell ⟨gb262, 12, none⟩ (.int .i64 t260)).setCell ⟨gb262, 13, none⟩ (.int .i64 t261)).heap[gb262]? = some (.cells #[.int .i64 t248, .int .i64 t249, .int .i64 t250, .int .i64 t251, .int .i64 t252, .bool t253, .int .i64 t254, .bool t255, .string t256, .int .i64 t257, .int .i64 t258, .bool t259, .int .i64 t260, .int .i64 t261] 28 (0, 0))) := ⟨by (with_reducible repeat (first | refine blk_drewN ?_ _ | refine blk_drew ?_ | refine blk_alloc ?_ _)); refine blk_put (cs := #[.int .i64 t248, .int .i64 t249, .int .i64 t250, .int .i64 t251, .int .i64 t252, .bool t253, .int .i64 t254, .bool t255, .string t256, .int .i64 t257, .int .i64 t258, .bool t259, .int .i64 t260, .int .i64 0]) ?_ 13 _ rfl; (with_reducible repeat (first | refine blk_drewN ?_ _ | refine blk_drew ?_ | refine blk_alloc ?_ _)); refine blk_put (cs := #[.int .i64 t248, .int .i64 t249, .int .i64 t250, .int .i64 t251, .int .i64 t252, .bool t253, .int .i64 t254, .bool t255, .string t256, .int .i64 t257, .int .i64 t258, .bool t259, .int .i64 0, .int .i64 0]) ?_ 12 _ rfl; (with_reducible repeat (first | refine blk_drewN ?_ _ | refine blk_drew ?_ | refine blk_alloc ?_ _)); refine blk_put (cs := #[.int .i64 t248, .int .i64 t249, .int .i64 t250, .int .i64 t251, .int .i64 t252, .bool t253, .int .i64 t254, .bool t255, .string t256, .int .i64 t257, .int .i64 t258, .bool false, .int .i64 0, .int .i64 0]) ?_ 11 _ rfl; (with_reducible repeat (first | refine blk_drewN ?_ _ | refine blk_drew ?_ | refine blk_alloc ?_ _)); refine blk_put (cs := #[.int .i64 t248, .int .i64 t249, .int .i64 t250, .int .i64 t251, .int .i64 t252, .bool t253, .int .i64 t254, .bool t255, .string t256, .int .i64 t257, .int .i64 0, .bool false, .int .i64 0, .int .i64 0]) ?_ 10 _ rfl; (with_reducible repeat (first | refine blk_drewN ?_ _ | refine blk_drew ?_ | refine blk_alloc ?_ _)); refine blk_put (cs := #[.int .i64 t248, .int .i64 t249, .int .i64 t250, .int .i64 t251, .int .i64 t252, .bool t253, .int .i64 t254, .bool t255, .string t256, .int .i64 0, .int .i64 0, .bool false, .int .i64 0, .int .i64 0]) ?_ 9 _ rfl; (with_reducible repeat (first | refine blk_drewN ?_ _ | refine blk_drew ?_ | refine blk_alloc ?_ _)); refine blk_put (cs := #[.int .i64 t248, .int .i64 t249, .int .i64 t250, .int .i64 t251, .int .i64 t252, .bool t253, .int .i64 t254, .bool t255, .string (⟨#[]⟩ : ByteArray), .int .i64 0, .int .i64 0, .bool false, .int .i64 0, .int .i64 0]) ?_ 8 _ rfl; (with_reducible repeat (first | refine blk_drewN ?_ _ | refine blk_drew ?_ | refine blk_alloc ?_ _)); refine blk_put (cs := #[.int .i64 t248, .int .i64 t249, .int .i64 t250, .int .i64 t251, .int .i64 t252, .bool t253, .int .i64 t254, .bool false, .string (⟨#[]⟩ : ByteArray), .int .i64 0, .int .i64 0, .bool false, .int .i64 0, .int .i64 0]) ?_ 7 _ rfl; (with_reducible repeat (first | refine blk_drewN ?_ _ | refine blk_drew ?_ | refine blk_alloc ?_ _)); refine blk_put (cs := #[.int .i64 t248, .int .i64 t249, .int .i64 t250, .int .i64 t251, .int .i64 t252, .bool t253, .int .i64 0, .bool false, .string (⟨#[]⟩ : ByteArray), .int .i64 0, .int .i64 0, .bool false, .int .i64 0, .int .i64 0]) ?_ 6 _ rfl; (with_reducible repeat (first | refine blk_drewN ?_ _ | refine blk_drew ?_ | refine blk_alloc ?_ _)); refine blk_put (cs := #[.int .i64 t248, .int .i64 t249, .int .i64 t250, .int .i64 t251, .int .i64 t252, .bool false, .int .i64 0, .bool false, .string (⟨#[]⟩ : ByteArray), .int .i64 0, .int .i64 0, .bool false, .int .i64 0, .int .i64 0]) ?_ 5 _ rfl; (with_reducible repeat (first | refine blk_drewN ?_ _ | refine blk_drew ?_ | refine blk_alloc ?_ _)); refine blk_put (cs := #[.int .i64 t248, .int .i64 t249, .int .i64 t250, .int .i64 t251, .int .i64 0, .bool false, .int .i64 0, .bool false, .string (⟨#[]⟩ : ByteArray), .int .i64 0, .int .i64 0, .bool false, .int .i64 0, .int .i64 0]) ?_ 4 _ rfl; (with_reducible repeat (first | refine blk_drewN ?_ _ | refine blk_drew ?_ | refine blk_alloc ?_ _)); refine blk_put (cs := #[.int .i64 t248, .int .i64 t249, .int .i64 t250, .int .i64 0, .int .i64 0, .bool false, .int .i64 0, .bool false, .string (⟨#[]⟩ : ByteArray), .int .i64 0, .int .i64 0, .bool false, .int .i64 0, .int .i64 0]) ?_ 3 _ rfl; (with_reducible repeat (first | refine blk_drewN ?_ _ | refine blk_drew ?_ | refine blk_alloc ?_ _)); refine blk_put (cs := #[.int .i64 t248, .int .i64 t249, .int .i64 0, .int .i64 0, .int .i64 0, .bool false, .int .i64 0, .bool false, .string (⟨#[]⟩ : ByteArray), .int .i64 0, .int .i64 0, .bool false, .int .i64 0, .int .i64 0]) ?_ 2 _ rfl; (with_reducible repeat (first | refine blk_drewN ?_ _ | refine blk_drew ?_ | refine blk_alloc ?_ _)); refine blk_put (cs := #[.int .i64 t248, .int .i64 0, .int .i64 0, .int .i64 0, .int .i64 0, .bool false, .int .i64 0, .bool false, .string (⟨#[]⟩ : ByteArray), .int .i64 0, .int .i64 0, .bool false, .int .i64 0, .int .i64 0]) ?_ 1 _ rfl; (with_reducible repeat (first | refine blk_drewN ?_ _ | refine blk_drew ?_ | refine blk_alloc ?_ _)); refine blk_put (cs := #[.int .i64 0, .int .i64 0, .int .i64 0, .int .i64 0, .int .i64 0, .bool false, .int .i64 0, .bool false, .string (⟨#[]⟩ : ByteArray), .int .i64 0, .int .i64 0, .bool false, .int .i64 0, .int .i64 0]) ?_ 0 _ rfl; (with_reducible repeat (first | refine blk_drewN ?_ _ | refine blk_drew ?_ | refine blk_alloc ?_ _)); exact BK262.out⟩
                have n3_ : Aside0 (Below w.heap.size w ((((((((((((((w53.setCell ⟨gb262, 0, none⟩ (.int .i64 t248)).setCell ⟨gb262, 1, none⟩ (.int .i64 t249)).setCell ⟨gb262, 2, none⟩ (.int .i64 t250)).setCell ⟨gb262, 3, none⟩ (.int .i64 t251)).setCell ⟨gb262, 4, none⟩ (.int .i64 t252)).setCell ⟨gb262, 5, none⟩ (.bool t253)).setCell ⟨gb262, 6, none⟩ (.int .i64 t254)).setCell ⟨gb262, 7, none⟩ (.bool t255)).setCell ⟨gb262, 8, none⟩ (.string t256)).setCell ⟨gb262, 9, none⟩ (.int .i64 t257)).setCell ⟨gb262, 10, none⟩ (.int .i64 t258)).setCell ⟨gb262, 11, none⟩ (.bool t259)).setCell ⟨gb262, 12, none⟩ (.int .i64 t260)).setCell ⟨gb262, 13, none⟩ (.int .i64 t261))) := ⟨by repeat (first | (with_reducible first | exact HB.out | apply below_alloc | apply pw_below_drewN | apply below_drew1 | refine below_set ?_ GE245.out | refine below_set ?_ GE246.out | refine below_set ?_ GE262.out) | exact HB.out)⟩
                (try clear BK245)
                (try clear BK246)
                (try clear BK262)
                (try clear HB)
                generalize ((((((((((((((w53.setCell ⟨gb262, 0, none⟩ (.int .i64 t248)).setCell ⟨gb262, 1, none⟩ (.int .i64 t249)).setCell ⟨gb262, 2, none⟩ (.int .i64 t250)).setCell ⟨gb262, 3, none⟩ (.int .i64 t251)).setCell ⟨gb262, 4, none⟩ (.int .i64 t252)).setCell ⟨gb262, 5, none⟩ (.bool t253)).setCell ⟨gb262, 6, none⟩ (.int .i64 t254)).setCell ⟨gb262, 7, none⟩ (.bool t255)).setCell ⟨gb262, 8, none⟩ (.string t256)).setCell ⟨gb262, 9, none⟩ (.int .i64 t257)).setCell ⟨gb262, 10, none⟩ (.int .i64 t258)).setCell ⟨gb262, 11, none⟩ (.bool t259)).setCell ⟨gb262, 12, none⟩ (.int .i64 t260)).setCell ⟨gb262, 13, none⟩ (.int .i64 t261)) = w57 at n0_ n1_ n2_ n3_ ⊢
                have BK245 := n0_
                have BK246 := n1_
                have BK262 := n2_
                have HB := n3_
                clear n0_ n1_ n2_ n3_
                have n0_ := Aside0.mk (blk_drew BK245.out)
                have n1_ := Aside0.mk (blk_drew BK246.out)
                have n2_ := Aside0.mk (blk_drew BK262.out)
                have n3_ := Aside0.mk (below_drew1 HB.out)
                clear BK245
                clear BK246
                clear BK262
                clear HB
                have BK245 := n0_
                have BK246 := n1_
                have BK262 := n2_
                have HB := n3_
                clear n0_ n1_ n2_ n3_
                refine start_ (n := 28) (S := fun w' => w'.cell? ⟨gb262, 0, none⟩ = some (.int .i64 t248) ∧ w'.cell? ⟨gb262, 1, none⟩ = some (.int .i64 t249) ∧ w'.cell? ⟨gb262, 2, none⟩ = some (.int .i64 t250) ∧ w'.cell? ⟨gb262, 3, none⟩ = some (.int .i64 t251) ∧ w'.cell? ⟨gb262, 4, none⟩ = some (.int .i64 t252) ∧ w'.cell? ⟨gb262, 5, none⟩ = some (.bool t253) ∧ w'.cell? ⟨gb262, 6, none⟩ = some (.int .i64 t254) ∧ w'.cell? ⟨gb262, 7, none⟩ = some (.bool t255) ∧ w'.cell? ⟨gb262, 8, none⟩ = some (.string t256) ∧ w'.cell? ⟨gb262, 9, none⟩ = some (.int .i64 t257) ∧ w'.cell? ⟨gb262, 10, none⟩ = some (.int .i64 t258) ∧ w'.cell? ⟨gb262, 11, none⟩ = some (.bool t259) ∧ w'.cell? ⟨gb262, 12, none⟩ = some (.int .i64 t260) ∧ w'.cell? ⟨gb262, 13, none⟩ = some (.int .i64 t261) ∧ w'.cell? ⟨gb245, 0, none⟩ = some (.string a0_0) ∧ w'.cell? ⟨gb245, 1, none⟩ = some (.string a0_1) ∧ w'.cell? ⟨gb245, 2, none⟩ = some (.string a0_2) ∧ w'.cell? ⟨gb245, 3, none⟩ = some (.string a0_3) ∧ w'.cell? ⟨gb245, 4, none⟩ = some (.string a0_4) ∧ w'.cell? ⟨gb245, 5, none⟩ = some (.string a0_5) ∧ w'.cell? ⟨gb245, 6, none⟩ = some (.string a0_6) ∧ w'.cell? ⟨gb245, 7, none⟩ = some (.string a0_7) ∧ w'.cell? ⟨gb245, 8, none⟩ = some (.string a0_8) ∧ w'.cell? ⟨gb245, 9, none⟩ = some (.int .i64 a0_9) ∧ w'.cell? ⟨gb245, 10, none⟩ = some (.int .i64 a0_10) ∧ w'.cell? ⟨gb245, 11, none⟩ = some (.int .i64 a0_11) ∧ w'.cell? ⟨gb246, 0, none⟩ = some (.int .i64 a2_0) ∧ w'.cell? ⟨gb246, 1, none⟩ = some (.int .i64 a2_1) ∧ w'.cell? ⟨gb246, 2, none⟩ = some (.int .i64 a2_2) ∧ w'.cell? ⟨gb246, 3, none⟩ = some (.int .i64 a2_3) ∧ w'.cell? ⟨gb246, 4, none⟩ = some (.int .i64 a2_4) ∧ w'.cell? ⟨gb246, 5, none⟩ = some (.bool a2_5) ∧ w'.cell? ⟨gb246, 6, none⟩ = some (.int .i64 a2_6) ∧ w'.cell? ⟨gb246, 7, none⟩ = some (.bool a2_7) ∧ w'.cell? ⟨gb246, 8, none⟩ = some (.string a2_8) ∧ w'.cell? ⟨gb246, 9, none⟩ = some (.int .i64 a2_9) ∧ w'.cell? ⟨gb246, 10, none⟩ = some (.int .i64 a2_10) ∧ w'.cell? ⟨gb246, 11, none⟩ = some (.bool a2_11) ∧ w'.cell? ⟨gb246, 12, none⟩ = some (.int .i64 a2_12) ∧ w'.cell? ⟨gb246, 13, none⟩ = some (.int .i64 a2_13)) (ds := []) #[false, false, false, false, false, false, false, false, false, false, false, false, false, false, false, false, false, false, false, false, false, false, false, false, false, false, false, false] (by kernel_rfl) rfl rfl ⟨(blk_cell BK262.out 0).trans rfl, (blk_cell BK262.out 1).trans rfl, (blk_cell BK262.out 2).trans rfl, (blk_cell BK262.out 3).trans rfl, (blk_cell BK262.out 4).trans rfl, (blk_cell BK262.out 5).trans rfl, (blk_cell BK262.out 6).trans rfl, (blk_cell BK262.out 7).trans rfl, (blk_cell BK262.out 8).trans rfl, (blk_cell BK262.out 9).trans rfl, (blk_cell BK262.out 10).trans rfl, (blk_cell BK262.out 11).trans rfl, (blk_cell BK262.out 12).trans rfl, (blk_cell BK262.out 13).trans rfl, (blk_cell BK245.out 0).trans rfl, (blk_cell BK245.out 1).trans rfl, (blk_cell BK245.out 2).trans rfl, (blk_cell BK245.out 3).trans rfl, (blk_cell BK245.out 4).trans rfl, (blk_cell BK245.out 5).trans rfl, (blk_cell BK245.out 6).trans rfl, (blk_cell BK245.out 7).trans rfl, (blk_cell BK245.out 8).trans rfl, (blk_cell BK245.out 9).trans rfl, (blk_cell BK245.out 10).trans rfl, (blk_cell BK245.out 11).trans rfl, (blk_cell BK246.out 0).trans rfl, (blk_cell BK246.out 1).trans rfl, (blk_cell BK246.out 2).trans rfl, (blk_cell BK246.out 3).trans rfl, (blk_cell BK246.out 4).trans rfl, (blk_cell BK246.out 5).trans rfl, (blk_cell BK246.out 6).trans rfl, (blk_cell BK246.out 7).trans rfl, (blk_cell BK246.out 8).trans rfl, (blk_cell BK246.out 9).trans rfl, (blk_cell BK246.out 10).trans rfl, (blk_cell BK246.out 11).trans rfl, (blk_cell BK246.out 12).trans rfl, (blk_cell BK246.out 13).trans rfl⟩ (fun hHeld => ?_); refine with_tabW quipulaw20_MoneyCounts.tab4 quipulaw20_MoneyCounts.bits4 (fun HT_ HW_ => ?_)
                generalize w57.drew = w58 at BK245 BK246 BK262 HB hHeld ⊢
                refine pure_ (i := 2) (N := some 43) (v := ?_) (a' := ?_) #[false, false, true, false, false, false, false, false, false, false, false, false, false, false, false, false, false, false, false, false, false, false, false, false, false, false, false, false] rfl rfl (any_of HT_.out (by kernel_rfl)) (fun _ _ _ h => h) (Or.inl ⟨by rfl, ?_⟩) ?_ ?_
                rotate_left
                · intro w'
                  go_simp
                  with_reducible rfl
                rotate_left
                · simp only [Act.put, List.setIfInBounds_toArray, List.set_cons_zero, List.set_cons_succ, i64_w, i32_w]
                  rfl
                refine take_ (i := 0) (N := some 41) (v := ?_) (a' := ?_) #[true, false, true, false, false, false, false, false, false, false, false, false, false, false, false, false, false, false, false, false, false, false, false, false, false, false, false, false] rfl rfl (take_ofW HT_.out HW_.out (by kernel_rfl)) (fun _ _ _ h => h) (Or.inl ⟨by rfl, ?_⟩) hHeld ?_ ?_
                rotate_left
                · rintro w' ⟨s0, s1, s2, s3, s4, s5, s6, s7, s8, s9, s10, s11, s12, s13, s14, s15, s16, s17, s18, s19, s20, s21, s22, s23, s24, s25, s26, s27, s28, s29, s30, s31, s32, s33, s34, s35, s36, s37, s38, s39⟩
                  go_simp
                  with_reducible rfl
                rotate_left
                · simp only [Act.put, List.setIfInBounds_toArray, List.set_cons_zero, List.set_cons_succ, i64_w, i32_w]
                  rfl
                refine take_ (i := 1) (N := some 42) (v := ?_) (a' := ?_) #[true, true, true, false, false, false, false, false, false, false, false, false, false, false, false, false, false, false, false, false, false, false, false, false, false, false, false, false] rfl rfl (take_ofW HT_.out HW_.out (by kernel_rfl)) (fun _ _ _ h => h) (Or.inl ⟨by rfl, ?_⟩) hHeld ?_ ?_
                rotate_left
                · rintro w' ⟨s0, s1, s2, s3, s4, s5, s6, s7, s8, s9, s10, s11, s12, s13, s14, s15, s16, s17, s18, s19, s20, s21, s22, s23, s24, s25, s26, s27, s28, s29, s30, s31, s32, s33, s34, s35, s36, s37, s38, s39⟩
                  go_simp
                  with_reducible rfl
                rotate_left
                · simp only [Act.put, List.setIfInBounds_toArray, List.set_cons_zero, List.set_cons_succ, i64_w, i32_w]
                  rfl
                refine take_ (i := 3) (N := some 44) (v := ?_) (a' := ?_) #[true, true, true, true, false, false, false, false, false, false, false, false, false, false, false, false, false, false, false, false, false, false, false, false, false, false, false, false] rfl rfl (take_ofW HT_.out HW_.out (by kernel_rfl)) (fun _ _ _ h => h) (Or.inl ⟨by rfl, ?_⟩) hHeld ?_ ?_
                rotate_left
                · rintro w' ⟨s0, s1, s2, s3, s4, s5, s6, s7, s8, s9, s10, s11, s12, s13, s14, s15, s16, s17, s18, s19, s20, s21, s22, s23, s24, s25, s26, s27, s28, s29, s30, s31, s32, s33, s34, s35, s36, s37, s38, s39⟩
                  go_simp
                  with_reducible rfl
                rotate_left
                · simp only [Act.put, List.setIfInBounds_toArray, List.set_cons_zero, List.set_cons_succ, i64_w, i32_w]
                  rfl
                refine one_ (i := 4) (N := some 45) #[true, true, true, true, true, false, false, false, false, false, false, false, false, false, false, false, false, false, false, false, false, false, false, false, false, false, false, false] rfl rfl (one_of HT_.out (by kernel_rfl)) (by decide) (fun K hK => ?_)
                refine goes_ Tryd.func9 (by kernel_rfl) rfl #[.agg #[.string a0_0, .string a0_1, .string a0_2, .string a0_3, .string a0_4, .string a0_5, .string a0_6, .string a0_7, .string a0_8, .int .i64 a0_9, .int .i64 a0_10, .int .i64 a0_11], .bool a1, .agg #[.int .i64 a2_0, .int .i64 a2_1, .int .i64 a2_2, .int .i64 a2_3, .int .i64 a2_4, .bool a2_5, .int .i64 a2_6, .bool a2_7, .string a2_8, .int .i64 a2_9, .int .i64 a2_10, .bool a2_11, .int .i64 a2_12, .int .i64 a2_13]] (by rfl) rfl rfl (by (try simp only [List.map_toArray, List.map_cons, List.map_nil]); first | done | rfl | (simp only [List.length_drop, List.length_take]; rfl)) ?_
                with_reducible refine (quipuref20_Precision.calls kj3 a0_0 a0_1 a0_2 a0_3 a0_4 a0_5 a0_6 a0_7 a0_8 a0_9 a0_10 a0_11 a1 a2_0 a2_1 a2_2 a2_3 a2_4 a2_5 a2_6 a2_7 a2_8 a2_9 a2_10 a2_11 a2_12 a2_13 t263 t264 t265 t266 t267 t268 t269 t270 t271 t272 t273 t274 t275 t276 _ A28.out).mono ?_
                rintro e w59 ⟨rfl, hb⟩
                refine ⟨_, rfl, ?_⟩
                have n0_ := Aside0.mk (blk_below (g := gb245) (o := .cells #[.string a0_0, .string a0_1, .string a0_2, .string a0_3, .string a0_4, .string a0_5, .string a0_6, .string a0_7, .string a0_8, .int .i64 a0_9, .int .i64 a0_10, .int .i64 a0_11] 24 (0, 0)) (by (with_reducible repeat (first | refine blk_drewN ?_ _ | refine blk_drew ?_ | refine blk_alloc ?_ _)); exact BK245.out) hb)
                have n1_ := Aside0.mk (blk_below (g := gb246) (o := .cells #[.int .i64 a2_0, .int .i64 a2_1, .int .i64 a2_2, .int .i64 a2_3, .int .i64 a2_4, .bool a2_5, .int .i64 a2_6, .bool a2_7, .string a2_8, .int .i64 a2_9, .int .i64 a2_10, .bool a2_11, .int .i64 a2_12, .int .i64 a2_13] 28 (0, 0)) (by (with_reducible repeat (first | refine blk_drewN ?_ _ | refine blk_drew ?_ | refine blk_alloc ?_ _)); exact BK246.out) hb)
                have n2_ := Aside0.mk (blk_below (g := gb262) (o := .cells #[.int .i64 t248, .int .i64 t249, .int .i64 t250, .int .i64 t251, .int .i64 t252, .bool t253, .int .i64 t254, .bool t255, .string t256, .int .i64 t257, .int .i64 t258, .bool t259, .int .i64 t260, .int .i64 t261] 28 (0, 0)) (by (with_reducible repeat (first | refine blk_drewN ?_ _ | refine blk_drew ?_ | refine blk_alloc ?_ _)); exact BK262.out) hb)
                have n3_ := Aside0.mk (below_step (by repeat (first | (with_reducible first | exact HB.out | apply below_alloc | apply pw_below_drewN | apply below_drew1 | refine below_set ?_ GE245.out | refine below_set ?_ GE246.out | refine below_set ?_ GE262.out) | exact HB.out)) hb)
                clear BK245
                clear BK246
                clear BK262
                clear HB
                have BK245 := n0_
                have BK246 := n1_
                have BK262 := n2_
                have HB := n3_
                clear n0_ n1_ n2_ n3_
                (try clear hb)
                (try clear hb2)
                (try clear hk)
                (try clear hi)
                refine hK.out _ _ ⟨(blk_cell BK262.out 0).trans rfl, (blk_cell BK262.out 1).trans rfl, (blk_cell BK262.out 2).trans rfl, (blk_cell BK262.out 3).trans rfl, (blk_cell BK262.out 4).trans rfl, (blk_cell BK262.out 5).trans rfl, (blk_cell BK262.out 6).trans rfl, (blk_cell BK262.out 7).trans rfl, (blk_cell BK262.out 8).trans rfl, (blk_cell BK262.out 9).trans rfl, (blk_cell BK262.out 10).trans rfl, (blk_cell BK262.out 11).trans rfl, (blk_cell BK262.out 12).trans rfl, (blk_cell BK262.out 13).trans rfl, (blk_cell BK245.out 0).trans rfl, (blk_cell BK245.out 1).trans rfl, (blk_cell BK245.out 2).trans rfl, (blk_cell BK245.out 3).trans rfl, (blk_cell BK245.out 4).trans rfl, (blk_cell BK245.out 5).trans rfl, (blk_cell BK245.out 6).trans rfl, (blk_cell BK245.out 7).trans rfl, (blk_cell BK245.out 8).trans rfl, (blk_cell BK245.out 9).trans rfl, (blk_cell BK245.out 10).trans rfl, (blk_cell BK245.out 11).trans rfl, (blk_cell BK246.out 0).trans rfl, (blk_cell BK246.out 1).trans rfl, (blk_cell BK246.out 2).trans rfl, (blk_cell BK246.out 3).trans rfl, (blk_cell BK246.out 4).trans rfl, (blk_cell BK246.out 5).trans rfl, (blk_cell BK246.out 6).trans rfl, (blk_cell BK246.out 7).trans rfl, (blk_cell BK246.out 8).trans rfl, (blk_cell BK246.out 9).trans rfl, (blk_cell BK246.out 10).trans rfl, (blk_cell BK246.out 11).trans rfl, (blk_cell BK246.out 12).trans rfl, (blk_cell BK246.out 13).trans rfl⟩ (fun hHeld => ?_)
                clear hK K
                refine norm_ (a' := ?_) ?_ ?_
                rotate_left
                · show Act.put _ (some 45) _ = _
                  simp only [Act.put, List.setIfInBounds_toArray, List.set_cons_zero, List.set_cons_succ, i64_w, i32_w]
                  rfl
                refine pure_ (i := 5) (N := some 46) (v := ?_) (a' := ?_) #[true, true, true, true, true, true, false, false, false, false, false, false, false, false, false, false, false, false, false, false, false, false, false, false, false, false, false, false] rfl rfl (any_of HT_.out (by kernel_rfl)) (fun _ _ _ h => h) (Or.inl ⟨by rfl, ?_⟩) ?_ ?_
                rotate_left
                · intro w'
                  go_simp
                  with_reducible rfl
                rotate_left
                · simp only [Act.put, List.setIfInBounds_toArray, List.set_cons_zero, List.set_cons_succ, i64_w, i32_w]
                  rfl
                refine pure_ (i := 6) (N := some 47) (v := ?_) (a' := ?_) #[true, true, true, true, true, true, true, false, false, false, false, false, false, false, false, false, false, false, false, false, false, false, false, false, false, false, false, false] rfl rfl (any_of HT_.out (by kernel_rfl)) (fun _ _ _ h => h) (Or.inl ⟨by rfl, ?_⟩) ?_ ?_
                rotate_left
                · intro w'
                  go_simp
                  with_reducible rfl
                rotate_left
                · simp only [Act.put, List.setIfInBounds_toArray, List.set_cons_zero, List.set_cons_succ, i64_w, i32_w]
                  rfl
                refine pure_ (i := 8) (N := some 49) (v := ?_) (a' := ?_) #[true, true, true, true, true, true, true, false, true, false, false, false, false, false, false, false, false, false, false, false, false, false, false, false, false, false, false, false] rfl rfl (any_of HT_.out (by kernel_rfl)) (fun _ _ _ h => h) (Or.inl ⟨by rfl, ?_⟩) ?_ ?_
                rotate_left
                · intro w'
                  go_simp
                  with_reducible rfl
                rotate_left
                · simp only [Act.put, List.setIfInBounds_toArray, List.set_cons_zero, List.set_cons_succ, i64_w, i32_w]
                  rfl
                refine take_ (i := 7) (N := some 48) (v := ?_) (a' := ?_) #[true, true, true, true, true, true, true, true, true, false, false, false, false, false, false, false, false, false, false, false, false, false, false, false, false, false, false, false] rfl rfl (take_ofW HT_.out HW_.out (by kernel_rfl)) (fun _ _ _ h => h) (Or.inl ⟨by rfl, ?_⟩) hHeld ?_ ?_
                rotate_left
                · rintro w' ⟨s0, s1, s2, s3, s4, s5, s6, s7, s8, s9, s10, s11, s12, s13, s14, s15, s16, s17, s18, s19, s20, s21, s22, s23, s24, s25, s26, s27, s28, s29, s30, s31, s32, s33, s34, s35, s36, s37, s38, s39⟩
                  go_simp
                  with_reducible rfl
                rotate_left
                · simp only [Act.put, List.setIfInBounds_toArray, List.set_cons_zero, List.set_cons_succ, i64_w, i32_w]
                  rfl
                refine take_ (i := 9) (N := some 50) (v := ?_) (a' := ?_) #[true, true, true, true, true, true, true, true, true, true, false, false, false, false, false, false, false, false, false, false, false, false, false, false, false, false, false, false] rfl rfl (take_ofW HT_.out HW_.out (by kernel_rfl)) (fun _ _ _ h => h) (Or.inl ⟨by rfl, ?_⟩) hHeld ?_ ?_
                rotate_left
                · rintro w' ⟨s0, s1, s2, s3, s4, s5, s6, s7, s8, s9, s10, s11, s12, s13, s14, s15, s16, s17, s18, s19, s20, s21, s22, s23, s24, s25, s26, s27, s28, s29, s30, s31, s32, s33, s34, s35, s36, s37, s38, s39⟩
                  go_simp
                  with_reducible rfl
                rotate_left
                · simp only [Act.put, List.setIfInBounds_toArray, List.set_cons_zero, List.set_cons_succ, i64_w, i32_w]
                  rfl
                refine take_ (i := 11) (N := some 52) (v := ?_) (a' := ?_) #[true, true, true, true, true, true, true, true, true, true, false, true, false, false, false, false, false, false, false, false, false, false, false, false, false, false, false, false] rfl rfl (take_ofW HT_.out HW_.out (by kernel_rfl)) (fun _ _ _ h => h) (Or.inl ⟨by rfl, ?_⟩) hHeld ?_ ?_
                rotate_left
                · rintro w' ⟨s0, s1, s2, s3, s4, s5, s6, s7, s8, s9, s10, s11, s12, s13, s14, s15, s16, s17, s18, s19, s20, s21, s22, s23, s24, s25, s26, s27, s28, s29, s30, s31, s32, s33, s34, s35, s36, s37, s38, s39⟩
                  go_simp
                  with_reducible rfl
                rotate_left
                · simp only [Act.put, List.setIfInBounds_toArray, List.set_cons_zero, List.set_cons_succ, i64_w, i32_w]
                  rfl
                refine one_ (i := 10) (N := some 51) #[true, true, true, true, true, true, true, true, true, true, true, true, false, false, false, false, false, false, false, false, false, false, false, false, false, false, false, false] rfl rfl (one_of HT_.out (by kernel_rfl)) (by decide) (fun K hK => ?_)
                refine goes_ Tryd.func8 (by kernel_rfl) rfl #[.agg #[.string a0_0, .string a0_1, .string a0_2, .string a0_3, .string a0_4, .string a0_5, .string a0_6, .string a0_7, .string a0_8, .int .i64 a0_9, .int .i64 a0_10, .int .i64 a0_11], .bool a1, .agg #[.int .i64 t248, .int .i64 t249, .int .i64 t250, .int .i64 t251, .int .i64 t252, .bool t253, .int .i64 t254, .bool t255, .string t256, .int .i64 t257, .int .i64 t258, .bool t259, .int .i64 t260, .int .i64 t261]] (by rfl) rfl rfl (by (try simp only [List.map_toArray, List.map_cons, List.map_nil]); first | done | rfl | (simp only [List.length_drop, List.length_take]; rfl)) ?_
                with_reducible refine (money_Precision.calls kj3 a0_0 a0_1 a0_2 a0_3 a0_4 a0_5 a0_6 a0_7 a0_8 a0_9 a0_10 a0_11 a1 t248 t249 t250 t251 t252 t253 t254 t255 t256 t257 t258 t259 t260 t261 t277 t278 t279 t280 t281 t282 t283 t284 t285 t286 t287 t288 t289 t290 _ (Gd.below HG.out (by repeat (first | (with_reducible first | exact HB.out | apply below_alloc | apply pw_below_drewN | apply below_drew1 | refine below_set ?_ GE245.out | refine below_set ?_ GE246.out | refine below_set ?_ GE262.out) | exact HB.out))) A30.out).mono ?_
                rintro e w60 ⟨rfl, hb⟩
                refine ⟨_, rfl, ?_⟩
                have n0_ := Aside0.mk (blk_below (g := gb245) (o := .cells #[.string a0_0, .string a0_1, .string a0_2, .string a0_3, .string a0_4, .string a0_5, .string a0_6, .string a0_7, .string a0_8, .int .i64 a0_9, .int .i64 a0_10, .int .i64 a0_11] 24 (0, 0)) (by (with_reducible repeat (first | refine blk_drewN ?_ _ | refine blk_drew ?_ | refine blk_alloc ?_ _)); exact BK245.out) hb)
                have n1_ := Aside0.mk (blk_below (g := gb246) (o := .cells #[.int .i64 a2_0, .int .i64 a2_1, .int .i64 a2_2, .int .i64 a2_3, .int .i64 a2_4, .bool a2_5, .int .i64 a2_6, .bool a2_7, .string a2_8, .int .i64 a2_9, .int .i64 a2_10, .bool a2_11, .int .i64 a2_12, .int .i64 a2_13] 28 (0, 0)) (by (with_reducible repeat (first | refine blk_drewN ?_ _ | refine blk_drew ?_ | refine blk_alloc ?_ _)); exact BK246.out) hb)
                have n2_ := Aside0.mk (blk_below (g := gb262) (o := .cells #[.int .i64 t248, .int .i64 t249, .int .i64 t250, .int .i64 t251, .int .i64 t252, .bool t253, .int .i64 t254, .bool t255, .string t256, .int .i64 t257, .int .i64 t258, .bool t259, .int .i64 t260, .int .i64 t261] 28 (0, 0)) (by (with_reducible repeat (first | refine blk_drewN ?_ _ | refine blk_drew ?_ | refine blk_alloc ?_ _)); exact BK262.out) hb)
                have n3_ := Aside0.mk (below_step (by repeat (first | (with_reducible first | exact HB.out | apply below_alloc | apply pw_below_drewN | apply below_drew1 | refine below_set ?_ GE245.out | refine below_set ?_ GE246.out | refine below_set ?_ GE262.out) | exact HB.out)) hb)
                clear BK245
                clear BK246
                clear BK262
                clear HB
                have BK245 := n0_
                have BK246 := n1_
                have BK262 := n2_
                have HB := n3_
                clear n0_ n1_ n2_ n3_
                (try clear hb)
                (try clear hb2)
                (try clear hk)
                (try clear hi)
                refine hK.out _ _ ⟨(blk_cell BK262.out 0).trans rfl, (blk_cell BK262.out 1).trans rfl, (blk_cell BK262.out 2).trans rfl, (blk_cell BK262.out 3).trans rfl, (blk_cell BK262.out 4).trans rfl, (blk_cell BK262.out 5).trans rfl, (blk_cell BK262.out 6).trans rfl, (blk_cell BK262.out 7).trans rfl, (blk_cell BK262.out 8).trans rfl, (blk_cell BK262.out 9).trans rfl, (blk_cell BK262.out 10).trans rfl, (blk_cell BK262.out 11).trans rfl, (blk_cell BK262.out 12).trans rfl, (blk_cell BK262.out 13).trans rfl, (blk_cell BK245.out 0).trans rfl, (blk_cell BK245.out 1).trans rfl, (blk_cell BK245.out 2).trans rfl, (blk_cell BK245.out 3).trans rfl, (blk_cell BK245.out 4).trans rfl, (blk_cell BK245.out 5).trans rfl, (blk_cell BK245.out 6).trans rfl, (blk_cell BK245.out 7).trans rfl, (blk_cell BK245.out 8).trans rfl, (blk_cell BK245.out 9).trans rfl, (blk_cell BK245.out 10).trans rfl, (blk_cell BK245.out 11).trans rfl, (blk_cell BK246.out 0).trans rfl, (blk_cell BK246.out 1).trans rfl, (blk_cell BK246.out 2).trans rfl, (blk_cell BK246.out 3).trans rfl, (blk_cell BK246.out 4).trans rfl, (blk_cell BK246.out 5).trans rfl, (blk_cell BK246.out 6).trans rfl, (blk_cell BK246.out 7).trans rfl, (blk_cell BK246.out 8).trans rfl, (blk_cell BK246.out 9).trans rfl, (blk_cell BK246.out 10).trans rfl, (blk_cell BK246.out 11).trans rfl, (blk_cell BK246.out 12).trans rfl, (blk_cell BK246.out 13).trans rfl⟩ (fun hHeld => ?_)
                clear hK K
                refine norm_ (a' := ?_) ?_ ?_
                rotate_left
                · show Act.put _ (some 51) _ = _
                  simp only [Act.put, List.setIfInBounds_toArray, List.set_cons_zero, List.set_cons_succ, i64_w, i32_w]
                  rfl
                refine pure_ (i := 12) (N := some 53) (v := ?_) (a' := ?_) #[true, true, true, true, true, true, true, true, true, true, true, true, true, false, false, false, false, false, false, false, false, false, false, false, false, false, false, false] rfl rfl (any_of HT_.out (by kernel_rfl)) (fun _ _ _ h => h) (Or.inl ⟨by rfl, ?_⟩) ?_ ?_
                rotate_left
                · intro w'
                  go_simp
                  with_reducible rfl
                rotate_left
                · simp only [Act.put, List.setIfInBounds_toArray, List.set_cons_zero, List.set_cons_succ, i64_w, i32_w]
                  rfl
                refine pure_ (i := 13) (N := some 54) (v := ?_) (a' := ?_) #[true, true, true, true, true, true, true, true, true, true, true, true, true, true, false, false, false, false, false, false, false, false, false, false, false, false, false, false] rfl rfl (any_of HT_.out (by kernel_rfl)) (fun _ _ _ h => h) (Or.inl ⟨by rfl, ?_⟩) ?_ ?_
                rotate_left
                · intro w'
                  go_simp
                  with_reducible rfl
                rotate_left
                · simp only [Act.put, List.setIfInBounds_toArray, List.set_cons_zero, List.set_cons_succ, i64_w, i32_w]
                  rfl
                refine pure_ (i := 14) (N := some 55) (v := ?_) (a' := ?_) #[true, true, true, true, true, true, true, true, true, true, true, true, true, true, true, false, false, false, false, false, false, false, false, false, false, false, false, false] rfl rfl (any_of HT_.out (by kernel_rfl)) (fun _ _ _ h => h) (Or.inl ⟨by rfl, ?_⟩) ?_ ?_
                rotate_left
                · intro w'
                  go_simp
                  with_reducible rfl
                rotate_left
                · simp only [Act.put, List.setIfInBounds_toArray, List.set_cons_zero, List.set_cons_succ, i64_w, i32_w]
                  rfl
                refine pure_ (i := 15) (N := some 56) (v := ?_) (a' := ?_) #[true, true, true, true, true, true, true, true, true, true, true, true, true, true, true, true, false, false, false, false, false, false, false, false, false, false, false, false] rfl rfl (any_of HT_.out (by kernel_rfl)) (fun _ _ _ h => h) (Or.inl ⟨by rfl, ?_⟩) ?_ ?_
                rotate_left
                · intro w'
                  go_simp
                  with_reducible rfl
                rotate_left
                · simp only [Act.put, List.setIfInBounds_toArray, List.set_cons_zero, List.set_cons_succ, i64_w, i32_w]
                  rfl
                refine take_ (i := 16) (N := some 57) (v := ?_) (a' := ?_) #[true, true, true, true, true, true, true, true, true, true, true, true, true, true, true, true, true, false, false, false, false, false, false, false, false, false, false, false] rfl rfl (take_ofW HT_.out HW_.out (by kernel_rfl)) (fun _ _ _ h => h) (Or.inl ⟨by rfl, ?_⟩) hHeld ?_ ?_
                rotate_left
                · rintro w' ⟨s0, s1, s2, s3, s4, s5, s6, s7, s8, s9, s10, s11, s12, s13, s14, s15, s16, s17, s18, s19, s20, s21, s22, s23, s24, s25, s26, s27, s28, s29, s30, s31, s32, s33, s34, s35, s36, s37, s38, s39⟩
                  go_simp
                  with_reducible rfl
                rotate_left
                · simp only [Act.put, List.setIfInBounds_toArray, List.set_cons_zero, List.set_cons_succ, i64_w, i32_w]
                  rfl
                refine pure_ (i := 17) (N := some 58) (v := ?_) (a' := ?_) #[true, true, true, true, true, true, true, true, true, true, true, true, true, true, true, true, true, true, false, false, false, false, false, false, false, false, false, false] rfl rfl (any_of HT_.out (by kernel_rfl)) (fun _ _ _ h => h) (Or.inl ⟨by rfl, ?_⟩) ?_ ?_
                rotate_left
                · intro w'
                  go_simp
                  with_reducible rfl
                rotate_left
                · simp only [Act.put, List.setIfInBounds_toArray, List.set_cons_zero, List.set_cons_succ, i64_w, i32_w]
                  rfl
                refine pure_ (i := 18) (N := some 59) (v := ?_) (a' := ?_) #[true, true, true, true, true, true, true, true, true, true, true, true, true, true, true, true, true, true, true, false, false, false, false, false, false, false, false, false] rfl rfl (any_of HT_.out (by kernel_rfl)) (fun _ _ _ h => h) (Or.inl ⟨by rfl, ?_⟩) ?_ ?_
                rotate_left
                · intro w'
                  go_simp
                  with_reducible rfl
                rotate_left
                · simp only [Act.put, List.setIfInBounds_toArray, List.set_cons_zero, List.set_cons_succ, i64_w, i32_w]
                  rfl
                refine take_ (i := 19) (N := some 60) (v := ?_) (a' := ?_) #[true, true, true, true, true, true, true, true, true, true, true, true, true, true, true, true, true, true, true, true, false, false, false, false, false, false, false, false] rfl rfl (take_ofW HT_.out HW_.out (by kernel_rfl)) (fun _ _ _ h => h) (Or.inl ⟨by rfl, ?_⟩) hHeld ?_ ?_
                rotate_left
                · rintro w' ⟨s0, s1, s2, s3, s4, s5, s6, s7, s8, s9, s10, s11, s12, s13, s14, s15, s16, s17, s18, s19, s20, s21, s22, s23, s24, s25, s26, s27, s28, s29, s30, s31, s32, s33, s34, s35, s36, s37, s38, s39⟩
                  go_simp
                  with_reducible rfl
                rotate_left
                · simp only [Act.put, List.setIfInBounds_toArray, List.set_cons_zero, List.set_cons_succ, i64_w, i32_w]
                  rfl
                refine take_ (i := 20) (N := some 61) (v := ?_) (a' := ?_) #[true, true, true, true, true, true, true, true, true, true, true, true, true, true, true, true, true, true, true, true, true, false, false, false, false, false, false, false] rfl rfl (take_ofW HT_.out HW_.out (by kernel_rfl)) (fun _ _ _ h => h) (Or.inl ⟨by rfl, ?_⟩) hHeld ?_ ?_
                rotate_left
                · rintro w' ⟨s0, s1, s2, s3, s4, s5, s6, s7, s8, s9, s10, s11, s12, s13, s14, s15, s16, s17, s18, s19, s20, s21, s22, s23, s24, s25, s26, s27, s28, s29, s30, s31, s32, s33, s34, s35, s36, s37, s38, s39⟩
                  go_simp
                  with_reducible rfl
                rotate_left
                · simp only [Act.put, List.setIfInBounds_toArray, List.set_cons_zero, List.set_cons_succ, i64_w, i32_w]
                  rfl
                refine pure_ (i := 21) (N := some 62) (v := ?_) (a' := ?_) #[true, true, true, true, true, true, true, true, true, true, true, true, true, true, true, true, true, true, true, true, true, true, false, false, false, false, false, false] rfl rfl (any_of HT_.out (by kernel_rfl)) (fun _ _ _ h => h) (Or.inl ⟨by rfl, ?_⟩) ?_ ?_
                rotate_left
                · intro w'
                  go_simp
                  with_reducible rfl
                rotate_left
                · simp only [Act.put, List.setIfInBounds_toArray, List.set_cons_zero, List.set_cons_succ, i64_w, i32_w]
                  rfl
                refine pure_ (i := 22) (N := some 63) (v := ?_) (a' := ?_) #[true, true, true, true, true, true, true, true, true, true, true, true, true, true, true, true, true, true, true, true, true, true, true, false, false, false, false, false] rfl rfl (any_of HT_.out (by kernel_rfl)) (fun _ _ _ h => h) (Or.inl ⟨by rfl, ?_⟩) ?_ ?_
                rotate_left
                · intro w'
                  go_simp
                  with_reducible rfl
                rotate_left
                · simp only [Act.put, List.setIfInBounds_toArray, List.set_cons_zero, List.set_cons_succ, i64_w, i32_w]
                  rfl
                refine pure_ (i := 23) (N := some 64) (v := ?_) (a' := ?_) #[true, true, true, true, true, true, true, true, true, true, true, true, true, true, true, true, true, true, true, true, true, true, true, true, false, false, false, false] rfl rfl (any_of HT_.out (by kernel_rfl)) (fun _ _ _ h => h) (Or.inl ⟨by rfl, ?_⟩) ?_ ?_
                rotate_left
                · intro w'
                  go_simp
                  with_reducible rfl
                rotate_left
                · simp only [Act.put, List.setIfInBounds_toArray, List.set_cons_zero, List.set_cons_succ, i64_w, i32_w]
                  rfl
                refine pure_ (i := 24) (N := some 65) (v := ?_) (a' := ?_) #[true, true, true, true, true, true, true, true, true, true, true, true, true, true, true, true, true, true, true, true, true, true, true, true, true, false, false, false] rfl rfl (any_of HT_.out (by kernel_rfl)) (fun _ _ _ h => h) (Or.inl ⟨by rfl, ?_⟩) ?_ ?_
                rotate_left
                · intro w'
                  go_simp
                  with_reducible rfl
                rotate_left
                · simp only [Act.put, List.setIfInBounds_toArray, List.set_cons_zero, List.set_cons_succ, i64_w, i32_w]
                  rfl
                refine one_ (i := 25) (N := some 66) #[true, true, true, true, true, true, true, true, true, true, true, true, true, true, true, true, true, true, true, true, true, true, true, true, true, true, false, false] rfl rfl (one_of HT_.out (by kernel_rfl)) (by decide) (fun K hK => ?_)
                refine goes_ Tryd.func7 (by kernel_rfl) rfl #[] (by rfl) rfl rfl (by (try simp only [List.map_toArray, List.map_cons, List.map_nil]); first | done | rfl | (simp only [List.length_drop, List.length_take]; rfl)) ?_
                with_reducible refine (quipulaw20_fixed.calls  true _ (Gd.below HG.out (by repeat (first | (with_reducible first | exact HB.out | apply below_alloc | apply pw_below_drewN | apply below_drew1 | refine below_set ?_ GE245.out | refine below_set ?_ GE246.out | refine below_set ?_ GE262.out) | exact HB.out))) A48.out).mono ?_
                rintro e w61 ⟨rfl, hb⟩
                refine ⟨_, rfl, ?_⟩
                have n0_ := Aside0.mk (blk_below (g := gb245) (o := .cells #[.string a0_0, .string a0_1, .string a0_2, .string a0_3, .string a0_4, .string a0_5, .string a0_6, .string a0_7, .string a0_8, .int .i64 a0_9, .int .i64 a0_10, .int .i64 a0_11] 24 (0, 0)) (by (with_reducible repeat (first | refine blk_drewN ?_ _ | refine blk_drew ?_ | refine blk_alloc ?_ _)); exact BK245.out) hb)
                have n1_ := Aside0.mk (blk_below (g := gb246) (o := .cells #[.int .i64 a2_0, .int .i64 a2_1, .int .i64 a2_2, .int .i64 a2_3, .int .i64 a2_4, .bool a2_5, .int .i64 a2_6, .bool a2_7, .string a2_8, .int .i64 a2_9, .int .i64 a2_10, .bool a2_11, .int .i64 a2_12, .int .i64 a2_13] 28 (0, 0)) (by (with_reducible repeat (first | refine blk_drewN ?_ _ | refine blk_drew ?_ | refine blk_alloc ?_ _)); exact BK246.out) hb)
                have n2_ := Aside0.mk (blk_below (g := gb262) (o := .cells #[.int .i64 t248, .int .i64 t249, .int .i64 t250, .int .i64 t251, .int .i64 t252, .bool t253, .int .i64 t254, .bool t255, .string t256, .int .i64 t257, .int .i64 t258, .bool t259, .int .i64 t260, .int .i64 t261] 28 (0, 0)) (by (with_reducible repeat (first | refine blk_drewN ?_ _ | refine blk_drew ?_ | refine blk_alloc ?_ _)); exact BK262.out) hb)
                have n3_ := Aside0.mk (below_step (by repeat (first | (with_reducible first | exact HB.out | apply below_alloc | apply pw_below_drewN | apply below_drew1 | refine below_set ?_ GE245.out | refine below_set ?_ GE246.out | refine below_set ?_ GE262.out) | exact HB.out)) hb)
                clear BK245
                clear BK246
                clear BK262
                clear HB
                have BK245 := n0_
                have BK246 := n1_
                have BK262 := n2_
                have HB := n3_
                clear n0_ n1_ n2_ n3_
                (try clear hb)
                (try clear hb2)
                (try clear hk)
                (try clear hi)
                refine hK.out _ _ ⟨(blk_cell BK262.out 0).trans rfl, (blk_cell BK262.out 1).trans rfl, (blk_cell BK262.out 2).trans rfl, (blk_cell BK262.out 3).trans rfl, (blk_cell BK262.out 4).trans rfl, (blk_cell BK262.out 5).trans rfl, (blk_cell BK262.out 6).trans rfl, (blk_cell BK262.out 7).trans rfl, (blk_cell BK262.out 8).trans rfl, (blk_cell BK262.out 9).trans rfl, (blk_cell BK262.out 10).trans rfl, (blk_cell BK262.out 11).trans rfl, (blk_cell BK262.out 12).trans rfl, (blk_cell BK262.out 13).trans rfl, (blk_cell BK245.out 0).trans rfl, (blk_cell BK245.out 1).trans rfl, (blk_cell BK245.out 2).trans rfl, (blk_cell BK245.out 3).trans rfl, (blk_cell BK245.out 4).trans rfl, (blk_cell BK245.out 5).trans rfl, (blk_cell BK245.out 6).trans rfl, (blk_cell BK245.out 7).trans rfl, (blk_cell BK245.out 8).trans rfl, (blk_cell BK245.out 9).trans rfl, (blk_cell BK245.out 10).trans rfl, (blk_cell BK245.out 11).trans rfl, (blk_cell BK246.out 0).trans rfl, (blk_cell BK246.out 1).trans rfl, (blk_cell BK246.out 2).trans rfl, (blk_cell BK246.out 3).trans rfl, (blk_cell BK246.out 4).trans rfl, (blk_cell BK246.out 5).trans rfl, (blk_cell BK246.out 6).trans rfl, (blk_cell BK246.out 7).trans rfl, (blk_cell BK246.out 8).trans rfl, (blk_cell BK246.out 9).trans rfl, (blk_cell BK246.out 10).trans rfl, (blk_cell BK246.out 11).trans rfl, (blk_cell BK246.out 12).trans rfl, (blk_cell BK246.out 13).trans rfl⟩ (fun hHeld => ?_)
                clear hK K
                refine norm_ (a' := ?_) ?_ ?_
                rotate_left
                · show Act.put _ (some 66) _ = _
                  simp only [Act.put, List.setIfInBounds_toArray, List.set_cons_zero, List.set_cons_succ, i64_w, i32_w]
                  rfl
                refine pure_ (i := 26) (N := some 67) (v := ?_) (a' := ?_) #[true, true, true, true, true, true, true, true, true, true, true, true, true, true, true, true, true, true, true, true, true, true, true, true, true, true, true, false] rfl rfl (any_of HT_.out (by kernel_rfl)) (fun _ _ _ h => h) (Or.inl ⟨by rfl, ?_⟩) ?_ ?_
                rotate_left
                · intro w'
                  go_simp
                  with_reducible rfl
                rotate_left
                · simp only [Act.put, List.setIfInBounds_toArray, List.set_cons_zero, List.set_cons_succ, i64_w, i32_w]
                  rfl
                refine pure_ (i := 27) (N := some 6) (v := ?_) (a' := ?_) #[true, true, true, true, true, true, true, true, true, true, true, true, true, true, true, true, true, true, true, true, true, true, true, true, true, true, true, true] rfl rfl (any_of HT_.out (by kernel_rfl)) (fun _ _ _ h => h) (Or.inl ⟨by rfl, ?_⟩) ?_ ?_
                rotate_left
                · intro w'
                  go_simp
                  with_reducible rfl
                rotate_left
                · simp only [Act.put, List.setIfInBounds_toArray, List.set_cons_zero, List.set_cons_succ, i64_w, i32_w]
                  rfl
                refine done_ (done_of HT_.out (by kernel_rfl)) ?_
                try go_wp2
                go_ret
                exact ⟨by first | rfl | (simp [errW_none, errW_some] <;> rfl) | (simp [*, errW_none, errW_some] <;> rfl) | (simp only [ne_nil_b]; first | done | rfl) | (simp [ne_nil_b]; done), by repeat (first | (with_reducible first | exact HB.out | apply below_alloc | apply pw_below_drewN | apply below_drew1 | refine below_set ?_ GE245.out | refine below_set ?_ GE246.out | refine below_set ?_ GE262.out) | exact HB.out)⟩
              · rw [if_neg c47] at H
                first
                | exact absurd H (by simp)
          · rw [if_neg c31] at H
            first
            | exact absurd H (by simp)
        · rw [if_neg c29] at H
          first
          | exact absurd H (by simp)
end Go.Proofs.YtepahimiakgieaaDoor.Q
