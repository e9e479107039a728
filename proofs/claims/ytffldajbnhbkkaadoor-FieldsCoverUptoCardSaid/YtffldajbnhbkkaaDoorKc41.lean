import Derived.Test.YtffldajbnhbkkaaDoorKc38
import Derived.Test.YtffldajbnhbkkaaDoorKc37
import Derived.Test.YtffldajbnhbkkaaDoorKc40
import Derived.Test.YtffldajbnhbkkaaDoorKc4
namespace Go.Proofs.YtffldajbnhbkkaaDoor.Q
open Go.RowKit Go.Proofs.YtffldajbnhbkkaaDoorW.PrintWords Go.Proofs.YtffldajbnhbkkaaDoorW.PrintLast Go.Proofs.YtffldajbnhbkkaaDoorW.PrintMore
attribute [local go_sem] max2_int min2_int max_two min_two max_three min_three max_four min_four   -- for this text's walks alone
set_option linter.unusedVariables false
set_option linter.unusedSimpArgs false
mutual
def fCover.l0 : Nat → List (S43) → List (S34) → List Int → Int → ByteArray → List (S31) → Option (Bool)
 | 0, _, _, _, _, _, _ => none
 | k + 1, x0, x1, x7, x8, x385000, x385001 => if x8 < (x0.length : Int) then (if 0 ≤ x8 then (if x7.length + ((rd_T43 x0 x8).f0).size < 140737488355328 then (fCover.l0 k x0 x1 (x7 ++ bytesOf ((rd_T43 x0 x8).f0)) (wrap64 (x8 + 1)) x385000 x385001) else (none)) else (none)) else (fCover.l1 k x1 x7 0 x385000 x385001)
def fCover.l1 : Nat → List (S34) → List Int → Int → ByteArray → List (S31) → Option (Bool)
 | 0, _, _, _, _, _ => none
 | k + 1, x1, x7, x9, x385000, x385001 => if x9 < (x1.length : Int) then (if 0 ≤ x9 then ((fields_Wrap.f x385000 x385001 ((rd_T34 x1 x9).f0) ((rd_T34 x1 x9).f1) ((rd_T34 x1 x9).f2)).bind fun bt396 => (if bt396.2.2 = 0 then (if (bt396.2.1.length : Int) = (wrap64 ((x385001.length : Int) + 1)) then (fCover.l1 k x1 x7 (wrap64 (x9 + 1)) bt396.1 bt396.2.1) else (some false)) else (fCover.l1 k x1 x7 (wrap64 (x9 + 1)) x385000 x385001))) else (none)) else ((fields_Leaves.f x385000 x385001).bind fun bt402 => (if bt402.2 = 0 then (if x385000.toList = (strOfNums x7).toList then ((fields_Check.f x385000 x385001).bind fun t406 => (fCover.j2 k bt402.1 (t406 != 0) x385000 x385001)) else (fCover.j2 k bt402.1 true x385000 x385001)) else (fCover.j2 k bt402.1 true x385000 x385001)))
def fCover.j2 : Nat → List (S43) → Bool → ByteArray → List (S31) → Option (Bool)
 | 0, _, _, _, _ => none
 | k + 1, x12, x113, x385000, x385001 => if x113 = true then (some false) else (if 0 ≤ (wrap64 ((x385000.size : Int) + 1)) then (if (wrap64 ((x385000.size : Int) + 1) : Int).toNat ≤ 281474976710656 then ((some (List.replicate (wrap64 ((x385000.size : Int) + 1) : Int).toNat false : List Bool)).bind fun y407 => (if 0 < (y407.length : Int) then (fCover.l2 k x12 (y407.set (0 : Int).toNat true) 0 0 x385000 x385001) else (none))) else (none)) else (none))
def fCover.l2 : Nat → List (S43) → List Bool → Int → Int → ByteArray → List (S31) → Option (Bool)
 | 0, _, _, _, _, _, _ => none
 | k + 1, x12, x14, x15, x16, x385000, x385001 => if x16 < (x12.length : Int) then (if 0 ≤ x16 then (if (((rd_T43 x12 x16).f0).size : Int) = 0 then (some false) else (if (((rd_T43 x12 x16).f0).size : Int) > (wrap64 ((x385000.size : Int) - x15)) then (some false) else (if 0 ≤ x15 then (if x15 ≤ (wrap64 (x15 + (((rd_T43 x12 x16).f0).size : Int))) then (if (wrap64 (x15 + (((rd_T43 x12 x16).f0).size : Int))) ≤ (x385000.size : Int) then (if (x385000.extract (x15 : Int).toNat ((wrap64 (x15 + (((rd_T43 x12 x16).f0).size : Int))) : Int).toNat).toList = ((rd_T43 x12 x16).f0).toList then (if ((rd_T43 x12 x16).f1) < 0 then (some false) else (if ((rd_T43 x12 x16).f1) > 17 then (some false) else (if 0 ≤ (wrap64 (x15 + (((rd_T43 x12 x16).f0).size : Int))) then (if (wrap64 (x15 + (((rd_T43 x12 x16).f0).size : Int))) < (x14.length : Int) then (fCover.l2 k x12 (x14.set ((wrap64 (x15 + (((rd_T43 x12 x16).f0).size : Int))) : Int).toNat true) (wrap64 (x15 + (((rd_T43 x12 x16).f0).size : Int))) (wrap64 (x16 + 1)) x385000 x385001) else (none)) else (none)))) else (some false)) else (none)) else (none)) else (none)))) else (none)) else (if x15 = (x385000.size : Int) then (fCover.l3 k x14 0 x385000 x385001) else (some false))
def fCover.l3 : Nat → List Bool → Int → ByteArray → List (S31) → Option (Bool)
 | 0, _, _, _, _ => none
 | k + 1, x14, x18, x385000, x385001 => if x18 < (x385001.length : Int) then (if 0 ≤ x18 then (if ((rd_T31 x385001 x18).f1) < 0 then (fCover.j5 k x14 x18 true x385000 x385001 ((rd_T31 x385001 x18).f0) ((rd_T31 x385001 x18).f1) ((rd_T31 x385001 x18).f2)) else (if ((rd_T31 x385001 x18).f2) > (x385000.size : Int) then (fCover.j5 k x14 x18 true x385000 x385001 ((rd_T31 x385001 x18).f0) ((rd_T31 x385001 x18).f1) ((rd_T31 x385001 x18).f2)) else (if ((rd_T31 x385001 x18).f1) ≥ ((rd_T31 x385001 x18).f2) then (fCover.j5 k x14 x18 true x385000 x385001 ((rd_T31 x385001 x18).f0) ((rd_T31 x385001 x18).f1) ((rd_T31 x385001 x18).f2)) else (if 0 ≤ ((rd_T31 x385001 x18).f1) then (if ((rd_T31 x385001 x18).f1) < (x14.length : Int) then (if (rdOf false x14 ((rd_T31 x385001 x18).f1) = true) then (if 0 ≤ ((rd_T31 x385001 x18).f2) then (if ((rd_T31 x385001 x18).f2) < (x14.length : Int) then (fCover.j5 k x14 x18 (!(rdOf false x14 ((rd_T31 x385001 x18).f2))) x385000 x385001 ((rd_T31 x385001 x18).f0) ((rd_T31 x385001 x18).f1) ((rd_T31 x385001 x18).f2)) else (none)) else (none)) else (fCover.j5 k x14 x18 true x385000 x385001 ((rd_T31 x385001 x18).f0) ((rd_T31 x385001 x18).f1) ((rd_T31 x385001 x18).f2))) else (none)) else (none))))) else (none)) else (some true)
def fCover.j5 : Nat → List Bool → Int → Bool → ByteArray → List (S31) → Int → Int → Int → Option (Bool)
 | 0, _, _, _, _, _, _, _, _ => none
 | k + 1, x14, x18, x231, x385000, x385001, x418000, x418001, x418002 => if x231 = true then (some false) else (fCover.l4 k x14 x18 0 x385000 x385001 x418000 x418001 x418002)
def fCover.l4 : Nat → List Bool → Int → Int → ByteArray → List (S31) → Int → Int → Int → Option (Bool)
 | 0, _, _, _, _, _, _, _, _ => none
 | k + 1, x14, x18, x20, x385000, x385001, x418000, x418001, x418002 => if x20 < x18 then (if 0 ≤ x20 then (if x20 < (x385001.length : Int) then (if ((rd_T31 x385001 x20).f1) > x418001 then (some false) else (if ((rd_T31 x385001 x20).f1) = x418001 then (if ((rd_T31 x385001 x20).f2) < x418002 then (some false) else (if ((rd_T31 x385001 x20).f2) > x418001 then (fCover.l4 k x14 x18 (wrap64 (x20 + 1)) x385000 x385001 x418000 x418001 x418002) else (fCover.l4 k x14 x18 (wrap64 (x20 + 1)) x385000 x385001 x418000 x418001 x418002))) else (if ((rd_T31 x385001 x20).f2) > x418001 then (if ((rd_T31 x385001 x20).f2) < x418002 then (some false) else (fCover.l4 k x14 x18 (wrap64 (x20 + 1)) x385000 x385001 x418000 x418001 x418002)) else (fCover.l4 k x14 x18 (wrap64 (x20 + 1)) x385000 x385001 x418000 x418001 x418002)))) else (none)) else (none)) else (fCover.l3 k x14 (wrap64 (x18 + 1)) x385000 x385001)
end
def fCover.f (k : Nat) (l0 : List (S43)) (l1 : List (S34)) : Option (Bool) := (fields_Build.f l0).bind fun bt379 => ((quipulaw17_awake.f).bind fun t385 => (if t385 = true then (if bt379.2.2 = 0 then (fCover.l0 k l0 l1 (([] : List Int)) 0 bt379.1 bt379.2.1) else (if bt379.2.2 = 170 then (if bt379.1.toList = ([] : List UInt8) then (some ((bt379.2.1.length : Int) == 0)) else (some false)) else (some false))) else (some false)))
theorem fCover.mono_l : ∀ k, (∀ y0 y1 y2 y3 y4 y5, LeO (fCover.l0 k y0 y1 y2 y3 y4 y5) (fCover.l0 (k + 1) y0 y1 y2 y3 y4 y5)) ∧ (∀ y0 y1 y2 y3 y4, LeO (fCover.l1 k y0 y1 y2 y3 y4) (fCover.l1 (k + 1) y0 y1 y2 y3 y4)) ∧ (∀ y0 y1 y2 y3, LeO (fCover.j2 k y0 y1 y2 y3) (fCover.j2 (k + 1) y0 y1 y2 y3)) ∧ (∀ y0 y1 y2 y3 y4 y5, LeO (fCover.l2 k y0 y1 y2 y3 y4 y5) (fCover.l2 (k + 1) y0 y1 y2 y3 y4 y5)) ∧ (∀ y0 y1 y2 y3, LeO (fCover.l3 k y0 y1 y2 y3) (fCover.l3 (k + 1) y0 y1 y2 y3)) ∧ (∀ y0 y1 y2 y3 y4 y5 y6 y7, LeO (fCover.j5 k y0 y1 y2 y3 y4 y5 y6 y7) (fCover.j5 (k + 1) y0 y1 y2 y3 y4 y5 y6 y7)) ∧ (∀ y0 y1 y2 y3 y4 y5 y6 y7, LeO (fCover.l4 k y0 y1 y2 y3 y4 y5 y6 y7) (fCover.l4 (k + 1) y0 y1 y2 y3 y4 y5 y6 y7))
 | 0 => ⟨fun _ _ _ _ _ _ r h => by simp [fCover.l0] at h, fun _ _ _ _ _ r h => by simp [fCover.l1] at h, fun _ _ _ _ r h => by simp [fCover.j2] at h, fun _ _ _ _ _ _ r h => by simp [fCover.l2] at h, fun _ _ _ _ r h => by simp [fCover.l3] at h, fun _ _ _ _ _ _ _ _ r h => by simp [fCover.j5] at h, fun _ _ _ _ _ _ _ _ r h => by simp [fCover.l4] at h⟩
 | k + 1 => by
  obtain ⟨ih0, ih1, ih2, ih3, ih4, ih5, ih6⟩ := fCover.mono_l k
  refine ⟨?_, ?_, ?_, ?_, ?_, ?_, ?_⟩
  ·intro y0 y1 y2 y3 y4 y5
   unfold fCover.l0
   repeat' first
   | (with_reducible exact ih0 _ _ _ _ _ _)
   | (with_reducible exact ih1 _ _ _ _ _)
   | (with_reducible exact ih2 _ _ _ _)
   | (with_reducible exact ih3 _ _ _ _ _ _)
   | (with_reducible exact ih4 _ _ _ _)
   | (with_reducible exact ih5 _ _ _ _ _ _ _ _)
   | (with_reducible exact ih6 _ _ _ _ _ _ _ _)
   | (with_reducible exact LeO.refl _)
   | (with_reducible exact LeO.none _)
   | (with_reducible refine LeO.ite ?_ ?_)
   | (with_reducible refine LeO.bind ?_ (fun _ => ?_))
   | exact ih0 _ _ _ _ _ _
   | exact ih1 _ _ _ _ _
   | exact ih2 _ _ _ _
   | exact ih3 _ _ _ _ _ _
   | exact ih4 _ _ _ _
   | exact ih5 _ _ _ _ _ _ _ _
   | exact ih6 _ _ _ _ _ _ _ _
   | exact LeO.none _
   | refine LeO.ite ?_ ?_
   | refine LeO.bind ?_ (fun _ => ?_)
  ·intro y0 y1 y2 y3 y4
   unfold fCover.l1
   repeat' first
   | (with_reducible exact ih0 _ _ _ _ _ _)
   | (with_reducible exact ih1 _ _ _ _ _)
   | (with_reducible exact ih2 _ _ _ _)
   | (with_reducible exact ih3 _ _ _ _ _ _)
   | (with_reducible exact ih4 _ _ _ _)
   | (with_reducible exact ih5 _ _ _ _ _ _ _ _)
   | (with_reducible exact ih6 _ _ _ _ _ _ _ _)
   | (with_reducible exact LeO.refl _)
   | (with_reducible exact LeO.none _)
   | (with_reducible refine LeO.ite ?_ ?_)
   | (with_reducible refine LeO.bind ?_ (fun _ => ?_))
   | exact ih0 _ _ _ _ _ _
   | exact ih1 _ _ _ _ _
   | exact ih2 _ _ _ _
   | exact ih3 _ _ _ _ _ _
   | exact ih4 _ _ _ _
   | exact ih5 _ _ _ _ _ _ _ _
   | exact ih6 _ _ _ _ _ _ _ _
   | exact LeO.none _
   | refine LeO.ite ?_ ?_
   | refine LeO.bind ?_ (fun _ => ?_)
  ·intro y0 y1 y2 y3
   unfold fCover.j2
   repeat' first
   | (with_reducible exact ih0 _ _ _ _ _ _)
   | (with_reducible exact ih1 _ _ _ _ _)
   | (with_reducible exact ih2 _ _ _ _)
   | (with_reducible exact ih3 _ _ _ _ _ _)
   | (with_reducible exact ih4 _ _ _ _)
   | (with_reducible exact ih5 _ _ _ _ _ _ _ _)
   | (with_reducible exact ih6 _ _ _ _ _ _ _ _)
   | (with_reducible exact LeO.refl _)
   | (with_reducible exact LeO.none _)
   | (with_reducible refine LeO.ite ?_ ?_)
   | (with_reducible refine LeO.bind ?_ (fun _ => ?_))
   | exact ih0 _ _ _ _ _ _
   | exact ih1 _ _ _ _ _
   | exact ih2 _ _ _ _
   | exact ih3 _ _ _ _ _ _
   | exact ih4 _ _ _ _
   | exact ih5 _ _ _ _ _ _ _ _
   | exact ih6 _ _ _ _ _ _ _ _
   | exact LeO.none _
   | refine LeO.ite ?_ ?_
   | refine LeO.bind ?_ (fun _ => ?_)
  ·intro y0 y1 y2 y3 y4 y5
   unfold fCover.l2
   repeat' first
   | (with_reducible exact ih0 _ _ _ _ _ _)
   | (with_reducible exact ih1 _ _ _ _ _)
   | (with_reducible exact ih2 _ _ _ _)
   | (with_reducible exact ih3 _ _ _ _ _ _)
   | (with_reducible exact ih4 _ _ _ _)
   | (with_reducible exact ih5 _ _ _ _ _ _ _ _)
   | (with_reducible exact ih6 _ _ _ _ _ _ _ _)
   | (with_reducible exact LeO.refl _)
   | (with_reducible exact LeO.none _)
   | (with_reducible refine LeO.ite ?_ ?_)
   | (with_reducible refine LeO.bind ?_ (fun _ => ?_))
   | exact ih0 _ _ _ _ _ _
   | exact ih1 _ _ _ _ _
   | exact ih2 _ _ _ _
   | exact ih3 _ _ _ _ _ _
   | exact ih4 _ _ _ _
   | exact ih5 _ _ _ _ _ _ _ _
   | exact ih6 _ _ _ _ _ _ _ _
   | exact LeO.none _
   | refine LeO.ite ?_ ?_
   | refine LeO.bind ?_ (fun _ => ?_)
  ·intro y0 y1 y2 y3
   unfold fCover.l3
   repeat' first
   | (with_reducible exact ih0 _ _ _ _ _ _)
   | (with_reducible exact ih1 _ _ _ _ _)
   | (with_reducible exact ih2 _ _ _ _)
   | (with_reducible exact ih3 _ _ _ _ _ _)
   | (with_reducible exact ih4 _ _ _ _)
   | (with_reducible exact ih5 _ _ _ _ _ _ _ _)
   | (with_reducible exact ih6 _ _ _ _ _ _ _ _)
   | (with_reducible exact LeO.refl _)
   | (with_reducible exact LeO.none _)
   | (with_reducible refine LeO.ite ?_ ?_)
   | (with_reducible refine LeO.bind ?_ (fun _ => ?_))
   | exact ih0 _ _ _ _ _ _
   | exact ih1 _ _ _ _ _
   | exact ih2 _ _ _ _
   | exact ih3 _ _ _ _ _ _
   | exact ih4 _ _ _ _
   | exact ih5 _ _ _ _ _ _ _ _
   | exact ih6 _ _ _ _ _ _ _ _
   | exact LeO.none _
   | refine LeO.ite ?_ ?_
   | refine LeO.bind ?_ (fun _ => ?_)
  ·intro y0 y1 y2 y3 y4 y5 y6 y7
   unfold fCover.j5
   repeat' first
   | (with_reducible exact ih0 _ _ _ _ _ _)
   | (with_reducible exact ih1 _ _ _ _ _)
   | (with_reducible exact ih2 _ _ _ _)
   | (with_reducible exact ih3 _ _ _ _ _ _)
   | (with_reducible exact ih4 _ _ _ _)
   | (with_reducible exact ih5 _ _ _ _ _ _ _ _)
   | (with_reducible exact ih6 _ _ _ _ _ _ _ _)
   | (with_reducible exact LeO.refl _)
   | (with_reducible exact LeO.none _)
   | (with_reducible refine LeO.ite ?_ ?_)
   | (with_reducible refine LeO.bind ?_ (fun _ => ?_))
   | exact ih0 _ _ _ _ _ _
   | exact ih1 _ _ _ _ _
   | exact ih2 _ _ _ _
   | exact ih3 _ _ _ _ _ _
   | exact ih4 _ _ _ _
   | exact ih5 _ _ _ _ _ _ _ _
   | exact ih6 _ _ _ _ _ _ _ _
   | exact LeO.none _
   | refine LeO.ite ?_ ?_
   | refine LeO.bind ?_ (fun _ => ?_)
  ·intro y0 y1 y2 y3 y4 y5 y6 y7
   unfold fCover.l4
   repeat' first
   | (with_reducible exact ih0 _ _ _ _ _ _)
   | (with_reducible exact ih1 _ _ _ _ _)
   | (with_reducible exact ih2 _ _ _ _)
   | (with_reducible exact ih3 _ _ _ _ _ _)
   | (with_reducible exact ih4 _ _ _ _)
   | (with_reducible exact ih5 _ _ _ _ _ _ _ _)
   | (with_reducible exact ih6 _ _ _ _ _ _ _ _)
   | (with_reducible exact LeO.refl _)
   | (with_reducible exact LeO.none _)
   | (with_reducible refine LeO.ite ?_ ?_)
   | (with_reducible refine LeO.bind ?_ (fun _ => ?_))
   | exact ih0 _ _ _ _ _ _
   | exact ih1 _ _ _ _ _
   | exact ih2 _ _ _ _
   | exact ih3 _ _ _ _ _ _
   | exact ih4 _ _ _ _
   | exact ih5 _ _ _ _ _ _ _ _
   | exact ih6 _ _ _ _ _ _ _ _
   | exact LeO.none _
   | refine LeO.ite ?_ ?_
   | refine LeO.bind ?_ (fun _ => ?_)
theorem fCover.mono : ∀ a0 a1 k, LeO (fCover.f k a0 a1) (fCover.f (k + 1) a0 a1) := by
 intro a0 a1 k
 obtain ⟨ih0, ih1, ih2, ih3, ih4, ih5, ih6⟩ := fCover.mono_l k
 unfold fCover.f
 repeat' first
   | (with_reducible exact ih0 _ _ _ _ _ _)
   | (with_reducible exact ih1 _ _ _ _ _)
   | (with_reducible exact ih2 _ _ _ _)
   | (with_reducible exact ih3 _ _ _ _ _ _)
   | (with_reducible exact ih4 _ _ _ _)
   | (with_reducible exact ih5 _ _ _ _ _ _ _ _)
   | (with_reducible exact ih6 _ _ _ _ _ _ _ _)
   | (with_reducible exact LeO.refl _)
   | (with_reducible exact LeO.none _)
   | (with_reducible refine LeO.ite ?_ ?_)
   | (with_reducible refine LeO.bind ?_ (fun _ => ?_))
   | exact ih0 _ _ _ _ _ _
   | exact ih1 _ _ _ _ _
   | exact ih2 _ _ _ _
   | exact ih3 _ _ _ _ _ _
   | exact ih4 _ _ _ _
   | exact ih5 _ _ _ _ _ _ _ _
   | exact ih6 _ _ _ _ _ _ _ _
   | exact LeO.none _
   | refine LeO.ite ?_ ?_
   | refine LeO.bind ?_ (fun _ => ?_)
def fCover.T14 : Bool × List (List Nat × List Nat) := (true, [([], []), ([], []), ([], []), ([1, 2], [1, 2]), ([3], [3]), ([4], [4]), ([], []), ([], []), ([6, 7], [6, 7]), ([8], [8]), ([9], [9]), ([], []), ([], []), ([11, 12], [11, 12]), ([13], [13]), ([14], [14]), ([0, 5, 10, 15], [0, 5, 10, 15]), ([16], [16]), ([17], [17]), ([17], [17]), ([], []), ([20, 18, 16, 0, 1, 2, 3, 4, 5, 6, 7, 8, 9, 10, 11, 12, 13, 14, 15, 16, 17, 18, 20], [18, 20]), ([19, 21, 0, 1, 2, 3, 4, 5, 6, 7, 8, 9, 10, 11, 12, 13, 14, 15, 16, 17, 18, 19, 20, 21], [19])])
def fCover.B14 : List Nat := [0, 0, 0, 6, 14, 30, 0, 0, 192, 448, 960, 0, 0, 6144, 14336, 30720, 65535, 131071, 262143, 262143, 0, 1572863, 4194303]
theorem fCover.tab14 : rtab .any (opsOf Tryd.f5 14) = fCover.T14 := by kernel_rfl
theorem fCover.bits14 : waitsOk fCover.T14.2 fCover.B14 = true := by kernel_rfl
def fCover.T29 : Bool × List (List Nat × List Nat) := (true, [([], []), ([0], [0]), ([1], [1]), ([2], [2]), ([2], [2]), ([4, 2], [2, 4]), ([5, 2], [2, 5]), ([2], [2]), ([6, 7, 2], [2, 6, 7]), ([3, 8, 2], [2, 3, 8]), ([2, 9], [2, 9]), ([10, 2], [10]), ([11], [11]), ([12, 11], [11, 12]), ([11], [11]), ([11], [11]), ([11], [11]), ([15, 16, 11], [11, 15, 16]), ([13, 14, 17, 11], [11, 13, 14, 17]), ([11], [11]), ([11], [11]), ([19, 20, 11], [11, 19, 20]), ([21, 11], [11, 21]), ([22, 11], [11, 22]), ([18, 23, 11], [11, 18, 23]), ([11, 24], [11, 24]), ([25, 11], [25]), ([26], [26]), ([26], [26]), ([27, 28, 26], [26, 27, 28]), ([29, 26], [26, 29]), ([30, 26], [26, 30]), ([31, 26], [26, 31]), ([26, 32], [26, 32]), ([33, 26], [33]), ([34], [34]), ([34], [34]), ([35, 36, 34], [34, 35, 36]), ([37, 34], [34, 37]), ([38, 34], [34, 38]), ([39, 34], [34, 39]), ([34, 40], [34, 40])])
def fCover.B29 : List Nat := [0, 1, 3, 7, 7, 23, 55, 7, 247, 511, 1023, 2047, 4095, 8191, 4095, 4095, 4095, 102399, 262143, 4095, 4095, 1576959, 3674111, 7868415, 16777215, 33554431, 67108863, 134217727, 134217727, 536870911, 1073741823, 2147483647, 4294967295, 8589934591, 17179869183, 34359738367, 34359738367, 137438953471, 274877906943, 549755813887, 1099511627775, 2199023255551]
theorem fCover.tab29 : rtab .any (opsOf Tryd.f5 29) = fCover.T29 := by kernel_rfl
theorem fCover.bits29 : waitsOk fCover.T29.2 fCover.B29 = true := by kernel_rfl
set_option maxHeartbeats 8000000 in
set_option maxRecDepth 100000 in
theorem fCover.calls (k : Nat) (A0 : Option Addr) (c0 : Nat) (l0 : List (S43)) (A1 : Option Addr) (c1 : Nat) (l1 : List (S34)) (w : World) (hG : Gd w) (hr0 : Kd.C k43 w A0 l0.length l0) (hc0 : l0.length ≤ c0) (hr1 : Kd.C k34 w A1 l1.length l1) (hc1 : l1.length ≤ c1) (h : fCover.f k l0 l1 = some true) :
  Calls Tryd.prog 5 #[.slice A0 l0.length c0, .slice A1 l1.length c1] w fun e w' => e = .returned (.bool true) ∧ Below w.heap.size w w' := by
 have hu25 := Tryd.underlying25
 have hu31 := Tryd.underlying31
 have HR0 := Aside0.mk hr0
 have HC0 := Aside0.mk hc0
 clear hr0 hc0
 have HR1 := Aside0.mk hr1
 have HC1 := Aside0.mk hc1
 clear hr1 hc1
 have HB := Aside0.mk (Below.refl w.heap.size w)
 have HG := Aside0.mk hG
 clear hG
 have H : ((fields_Build.f l0).bind fun bt379 => ((quipulaw17_awake.f).bind fun t385 => (if t385 = true then (if bt379.2.2 = 0 then (fCover.l0 k l0 l1 (([] : List Int)) 0 bt379.1 bt379.2.1) else (if bt379.2.2 = 170 then (if bt379.1.toList = ([] : List UInt8) then (some ((bt379.2.1.length : Int) == 0)) else (some false)) else (some false))) else (some false)))) = some true := h
 clear h
 replace H := Option.bind_eq_some_iff.mp H
 obtain ⟨⟨t379, t380, t383⟩, A30, H⟩ := H
 replace H : ((quipulaw17_awake.f).bind fun t385 => (if t385 = true then (if t383 = 0 then (fCover.l0 k l0 l1 (([] : List Int)) 0 t379 t380) else (if t383 = 170 then (if t379.toList = ([] : List UInt8) then (some ((t380.length : Int) == 0)) else (some false)) else (some false))) else (some false))) = some true := H
 have A3 := Aside0.mk A30
 clear A30
 replace H := Option.bind_eq_some_iff.mp H
 obtain ⟨t385, A40, H⟩ := H
 replace H : (if t385 = true then (if t383 = 0 then (fCover.l0 k l0 l1 (([] : List Int)) 0 t379 t380) else (if t383 = 170 then (if t379.toList = ([] : List UInt8) then (some ((t380.length : Int) == 0)) else (some false)) else (some false))) else (some false)) = some true := H
 have A4 := Aside0.mk A40
 clear A40
 by_cases c5 : t385 = true
 rotate_left
 ·replace c5 := Bool.eq_false_iff.mpr c5
  subst c5
  have H1 : (some false) = some true := by rw [if_neg (show ¬ (false = true) by decide)] at H; exact H
  clear H
  have H := H1
  clear H1
  exact absurd H (by simp)
 subst c5
 have H1 : (if t383 = 0 then (fCover.l0 k l0 l1 (([] : List Int)) 0 t379 t380) else (if t383 = 170 then (if t379.toList = ([] : List UInt8) then (some ((t380.length : Int) == 0)) else (some false)) else (some false))) = some true := by rw [if_pos rfl] at H; exact H
 clear H
 have H := H1
 clear H1
 by_cases c6 : t383 = 0
 rotate_left
 ·rw [if_neg c6] at H
  have c6b0 : (t383 == 0) = false := beq_eq_false_iff_ne.mpr c6
  have c6b1 : (t383 != 0) = true := bne_iff_ne.mpr c6
  by_cases c200 : t383 = 170
  rotate_left
  ·rw [if_neg c200] at H
   exact absurd H (by simp)
  rw [if_pos c200] at H
  have c200b0 : (t383 == 170) = true := beq_iff_eq.mpr c200
  have c200b1 : (t383 != 170) = false := bne_eq_false_iff_eq.mpr c200
  clear c200
  by_cases c201 : t379.toList = ([] : List UInt8)
  rotate_left
  ·rw [if_neg c201] at H
   exact absurd H (by simp)
  rw [if_pos c201] at H
  have c201b0 : (t379.toList == ([] : List UInt8)) = true := beq_iff_eq.mpr c201
  have c201b1 : (t379.toList != ([] : List UInt8)) = false := bne_eq_false_iff_eq.mpr c201
  clear c201
  have HQr := Aside0.mk (Option.some.inj H)
  clear H
  go_enter Tryd.func5, Tryd.ntmps5
  go_wp2_with (first | ((with_reducible refine gate_callee (f := 8) rfl ?_); refine goesL_ (some 24) rfl rfl Tryd.func8 (by kernel_rfl) rfl #[.slice A0 l0.length c0] rfl (by (try simp only [List.map_toArray, List.map_cons, List.map_nil]); first | done | rfl | (simp only [List.length_drop, List.length_take]; rfl)) ?_; (with_reducible refine (fields_Build.calls _ _ l0 t379 t380 t383 _ (Gd.below HG.out (by repeat (first | (with_reducible first | exact HB.out | apply below_alloc | apply pw_below_drewN | apply below_drew1) | exact HB.out))) ?side1 ?side2 A3.out).mono ?_); (case side1 => repeat (first | exact HR0.out | (with_reducible refine Kd.C_alloc ?_ _) | (with_reducible refine Kd.C_drewN ?_ _) | (with_reducible refine Kd.C_drew ?_))); (case side2 => exact HC0.out); rintro e w202 ⟨v381, rfl, ho0, hb⟩; refine ⟨_, rfl, ?_⟩; have n0_ := Aside0.mk (Kd.R_lower ho0 (below_size (by repeat (first | (with_reducible first | exact HB.out | apply below_alloc | apply pw_below_drewN | apply below_drew1) | exact HB.out)))); have n1_ := Aside0.mk (below_step (by repeat (first | (with_reducible first | exact HB.out | apply below_alloc | apply pw_below_drewN | apply below_drew1) | exact HB.out)) hb); clear HB; have HO382 := n0_; have HB := n1_; clear n0_ n1_; (try clear hb); (try clear hb2); (try clear hk); (try clear hi); (try clear ho0)) | ((with_reducible refine gate_dst (N := 5) rfl ?_); (try (refine gate_guard (by rfl) ?_; dsimp only)); refine box_event ?hg (N := 5) ?hd (cs := #[.string (⟨#[]⟩ : ByteArray), .slice none 0 0]) (t := 25) ?hr ?_; (case hd => rfl); (case hg => rfl); (case hr => first | (go_simp; done) | (go_simp; rfl)); intro gb384 hg w203 hbox hb; have n0_ := Aside0.mk (Kd.R_below (by (with_reducible repeat (first | apply Kd.R_alloc | apply Kd.R_drewN | apply Kd.R_drew)); exact HO382.out) hb); have n1_ := Aside0.mk (below_step (by repeat (first | (with_reducible first | exact HB.out | apply below_alloc | apply pw_below_drewN | apply below_drew1) | exact HB.out)) hb); have n2_ := Aside0.mk (hbox); have n3_ := Aside0.mk ((by rw [hg]; exact (below_size (by repeat (first | (with_reducible first | exact HB.out | apply below_alloc | apply pw_below_drewN | apply below_drew1) | exact HB.out))) : w.heap.size ≤ gb384)); have n4_ := Aside0.mk ((by rw [hg]; exact (below_size (by repeat (first | (with_reducible first | exact HB.out | apply below_alloc | apply pw_below_drewN | apply below_drew1) | exact HB.out))) : w.heap.size ≤ gb384)); clear HO382; clear HB; have HO382 := n0_; have HB := n1_; have BK384 := n2_; have GW384 := n3_; have GE384 := n4_; clear n0_ n1_ n2_ n3_ n4_; clear hb hbox hg; have hcz204_0 : w203.cell? ⟨gb384, 0, none⟩ = some (.string (⟨#[]⟩ : ByteArray)) := (blk_cell BK384.out 0).trans rfl; have hcz204_1 : w203.cell? ⟨gb384, 1, none⟩ = some (.slice none 0 0) := (blk_cell BK384.out 1).trans rfl; have hfz204_0 := blk_frozen BK384.out 0; have hfz204_1 := blk_frozen BK384.out 1; obtain ⟨Ao205, co205, eo205⟩ := Kd.R_slice HO382.out; subst eo205) | ((with_reducible refine gate_callee (f := 11) rfl ?_); refine goesL_ (some 27) rfl rfl Tryd.func11 (by kernel_rfl) rfl #[] rfl (by (try simp only [List.map_toArray, List.map_cons, List.map_nil]); first | done | rfl | (simp only [List.length_drop, List.length_take]; rfl)) ?_; (with_reducible refine (quipulaw17_awake.calls  true _ (Gd.below HG.out (by repeat (first | (with_reducible first | exact HB.out | apply below_alloc | apply pw_below_drewN | apply below_drew1 | refine below_set ?_ GE384.out) | exact HB.out))) A4.out).mono ?_); rintro e w206 ⟨rfl, hb⟩; refine ⟨_, rfl, ?_⟩; have n0_ := Aside0.mk (Kd.R_below (by (with_reducible repeat (first | apply Kd.R_alloc | apply Kd.R_drewN | apply Kd.R_drew)); exact (Kd.R_mono (Kd.R_far (p := ⟨gb384, 1, none⟩) (Kd.R_far (p := ⟨gb384, 0, none⟩) (Kd.R_types HO382.out BK384.out (by decide)) (fun _ hk => hk.2) (.string t379)) (fun _ hk => hk.2) (.slice Ao205 t380.length co205)) (fun _ h_ => h_.1))) hb); have n1_ := Aside0.mk (blk_below (g := gb384) (o := .cells #[.string t379, .slice Ao205 t380.length co205] 25 (0, 0)) (by (with_reducible repeat (first | refine blk_drewN ?_ _ | refine blk_drew ?_ | refine blk_alloc ?_ _)); refine blk_put (cs := #[.string t379, .slice none 0 0]) ?_ 1 _ rfl; (with_reducible repeat (first | refine blk_drewN ?_ _ | refine blk_drew ?_ | refine blk_alloc ?_ _)); refine blk_put (cs := #[.string (⟨#[]⟩ : ByteArray), .slice none 0 0]) ?_ 0 _ rfl; (with_reducible repeat (first | refine blk_drewN ?_ _ | refine blk_drew ?_ | refine blk_alloc ?_ _)); exact BK384.out) hb); have n2_ := Aside0.mk (below_step (by repeat (first | (with_reducible first | exact HB.out | apply below_alloc | apply pw_below_drewN | apply below_drew1 | refine below_set ?_ GE384.out) | exact HB.out)) hb); clear HO382; clear BK384; clear HB; have HO382 := n0_; have BK384 := n1_; have HB := n2_; clear n0_ n1_ n2_; (try clear hb); (try clear hb2); (try clear hk); (try clear hi); have hcz207_0 : w206.cell? ⟨gb384, 0, none⟩ = some (.string t379) := (blk_cell BK384.out 0).trans rfl; have hcz207_1 : w206.cell? ⟨gb384, 1, none⟩ = some (.slice Ao205 t380.length co205) := (blk_cell BK384.out 1).trans rfl; have hfz207_0 := blk_frozen BK384.out 0; have hfz207_1 := blk_frozen BK384.out 1))
  go_ret
  have hq_ : t380 = [] := (by have h_ := HQr.out; simpa using h_)
  subst hq_
  exact ⟨by first | (simp; done) | rfl | (simp [errW_none, errW_some] <;> rfl) | (simp [*, errW_none, errW_some] <;> rfl) | (simp only [ne_nil_b]; first | done | rfl) | (simp [ne_nil_b]; done), by repeat (first | (with_reducible first | exact HB.out | apply below_alloc | apply pw_below_drewN | apply below_drew1 | refine below_set ?_ GE384.out) | exact HB.out)⟩
 rw [if_pos c6] at H
 have c6b0 : (t383 == 0) = true := beq_iff_eq.mpr c6
 have c6b1 : (t383 != 0) = false := bne_eq_false_iff_eq.mpr c6
 clear c6
 obtain ⟨y386, hy386⟩ : ∃ y_ : List Int, y_ = (([] : List Int)) := ⟨_, rfl⟩
 replace H : (fCover.l0 k l0 l1 y386 0 t379 t380) = some true := by first | (rw [hy386]; with_reducible exact H) | (have H2_ := (Option.bind_some _ _).symm.trans H; rw [hy386]; with_reducible exact H2_) | (have H2_ := (Option.bind_some _ _).symm.trans H; with_reducible exact H2_) | with_reducible exact H | (rw [hy386]; exact H) | exact H
 have Ny386 := Aside0.mk hy386
 clear hy386
 have H' := Aside0.mk H
 clear H
 go_enter Tryd.func5, Tryd.ntmps5
 go_wp2_with (first | ((with_reducible refine gate_callee (f := 8) rfl ?_); refine goesL_ (some 24) rfl rfl Tryd.func8 (by kernel_rfl) rfl #[.slice A0 l0.length c0] rfl (by (try simp only [List.map_toArray, List.map_cons, List.map_nil]); first | done | rfl | (simp only [List.length_drop, List.length_take]; rfl)) ?_; (with_reducible refine (fields_Build.calls _ _ l0 t379 t380 t383 _ (Gd.below HG.out (by repeat (first | (with_reducible first | exact HB.out | apply below_alloc | apply pw_below_drewN | apply below_drew1) | exact HB.out))) ?side1 ?side2 A3.out).mono ?_); (case side1 => repeat (first | exact HR0.out | (with_reducible refine Kd.C_alloc ?_ _) | (with_reducible refine Kd.C_drewN ?_ _) | (with_reducible refine Kd.C_drew ?_))); (case side2 => exact HC0.out); rintro e w7 ⟨v381, rfl, ho0, hb⟩; refine ⟨_, rfl, ?_⟩; have n0_ := Aside0.mk (Kd.R_lower ho0 (below_size (by repeat (first | (with_reducible first | exact HB.out | apply below_alloc | apply pw_below_drewN | apply below_drew1) | exact HB.out)))); have n1_ := Aside0.mk (below_step (by repeat (first | (with_reducible first | exact HB.out | apply below_alloc | apply pw_below_drewN | apply below_drew1) | exact HB.out)) hb); clear HB; have HO382 := n0_; have HB := n1_; clear n0_ n1_; (try clear hb); (try clear hb2); (try clear hk); (try clear hi); (try clear ho0)) | ((with_reducible refine gate_dst (N := 5) rfl ?_); (try (refine gate_guard (by rfl) ?_; dsimp only)); refine box_event ?hg (N := 5) ?hd (cs := #[.string (⟨#[]⟩ : ByteArray), .slice none 0 0]) (t := 25) ?hr ?_; (case hd => rfl); (case hg => rfl); (case hr => first | (go_simp; done) | (go_simp; rfl)); intro gb384 hg w8 hbox hb; have n0_ := Aside0.mk (Kd.R_below (by (with_reducible repeat (first | apply Kd.R_alloc | apply Kd.R_drewN | apply Kd.R_drew)); exact HO382.out) hb); have n1_ := Aside0.mk (below_step (by repeat (first | (with_reducible first | exact HB.out | apply below_alloc | apply pw_below_drewN | apply below_drew1) | exact HB.out)) hb); have n2_ := Aside0.mk (hbox); have n3_ := Aside0.mk ((by rw [hg]; exact (below_size (by repeat (first | (with_reducible first | exact HB.out | apply below_alloc | apply pw_below_drewN | apply below_drew1) | exact HB.out))) : w.heap.size ≤ gb384)); have n4_ := Aside0.mk ((by rw [hg]; exact (below_size (by repeat (first | (with_reducible first | exact HB.out | apply below_alloc | apply pw_below_drewN | apply below_drew1) | exact HB.out))) : w.heap.size ≤ gb384)); clear HO382; clear HB; have HO382 := n0_; have HB := n1_; have BK384 := n2_; have GW384 := n3_; have GE384 := n4_; clear n0_ n1_ n2_ n3_ n4_; clear hb hbox hg; have hcz9_0 : w8.cell? ⟨gb384, 0, none⟩ = some (.string (⟨#[]⟩ : ByteArray)) := (blk_cell BK384.out 0).trans rfl; have hcz9_1 : w8.cell? ⟨gb384, 1, none⟩ = some (.slice none 0 0) := (blk_cell BK384.out 1).trans rfl; have hfz9_0 := blk_frozen BK384.out 0; have hfz9_1 := blk_frozen BK384.out 1; obtain ⟨Ao10, co10, eo10⟩ := Kd.R_slice HO382.out; subst eo10) | ((with_reducible refine gate_callee (f := 11) rfl ?_); refine goesL_ (some 27) rfl rfl Tryd.func11 (by kernel_rfl) rfl #[] rfl (by (try simp only [List.map_toArray, List.map_cons, List.map_nil]); first | done | rfl | (simp only [List.length_drop, List.length_take]; rfl)) ?_; (with_reducible refine (quipulaw17_awake.calls  true _ (Gd.below HG.out (by repeat (first | (with_reducible first | exact HB.out | apply below_alloc | apply pw_below_drewN | apply below_drew1 | refine below_set ?_ GE384.out) | exact HB.out))) A4.out).mono ?_); rintro e w11 ⟨rfl, hb⟩; refine ⟨_, rfl, ?_⟩; have n0_ := Aside0.mk (Kd.R_below (by (with_reducible repeat (first | apply Kd.R_alloc | apply Kd.R_drewN | apply Kd.R_drew)); exact (Kd.R_mono (Kd.R_far (p := ⟨gb384, 1, none⟩) (Kd.R_far (p := ⟨gb384, 0, none⟩) (Kd.R_types HO382.out BK384.out (by decide)) (fun _ hk => hk.2) (.string t379)) (fun _ hk => hk.2) (.slice Ao10 t380.length co10)) (fun _ h_ => h_.1))) hb); have n1_ := Aside0.mk (blk_below (g := gb384) (o := .cells #[.string t379, .slice Ao10 t380.length co10] 25 (0, 0)) (by (with_reducible repeat (first | refine blk_drewN ?_ _ | refine blk_drew ?_ | refine blk_alloc ?_ _)); refine blk_put (cs := #[.string t379, .slice none 0 0]) ?_ 1 _ rfl; (with_reducible repeat (first | refine blk_drewN ?_ _ | refine blk_drew ?_ | refine blk_alloc ?_ _)); refine blk_put (cs := #[.string (⟨#[]⟩ : ByteArray), .slice none 0 0]) ?_ 0 _ rfl; (with_reducible repeat (first | refine blk_drewN ?_ _ | refine blk_drew ?_ | refine blk_alloc ?_ _)); exact BK384.out) hb); have n2_ := Aside0.mk (below_step (by repeat (first | (with_reducible first | exact HB.out | apply below_alloc | apply pw_below_drewN | apply below_drew1 | refine below_set ?_ GE384.out) | exact HB.out)) hb); clear HO382; clear BK384; clear HB; have HO382 := n0_; have BK384 := n1_; have HB := n2_; clear n0_ n1_ n2_; (try clear hb); (try clear hb2); (try clear hk); (try clear hi)) | ((with_reducible refine gate_dst (N := 44) rfl ?_); (try (refine gate_guard (by rfl) ?_; dsimp only)); refine Kd.R_lit (Kd.int .u8) _ 5 ?hg (N := 44) ?hd (xs := ([] : List Int)) (inner := []) (ok := fun _ => True) (okp := fun _ => True) ?hr ?hp (fun _ hk => hk) trivial (Below.refl _ _) (Nat.le_refl _) (by simp) ?_; (case hd => rfl); (case hg => rfl); (case hr => first | (go_simp; done) | (go_simp; rfl)); (case hp => exact (Reps.none _ _)); intro v387 w12 ho13 hb hg_ hnew_; clear hg_ hnew_; (first | rw [← Ny386.out] at ho13 | (simp only [Int.reduceToNat] at ho13; rw [← Ny386.out] at ho13)); have n0_ := Aside0.mk (Kd.R_below (by (with_reducible repeat (first | apply Kd.R_alloc | apply Kd.R_drewN | apply Kd.R_drew)); exact HO382.out) hb); have n1_ := Aside0.mk (Kd.R_lower ho13 (below_size (by repeat (first | (with_reducible first | exact HB.out | apply below_alloc | apply pw_below_drewN | apply below_drew1 | refine below_set ?_ GE384.out) | exact HB.out)))); have n2_ := Aside0.mk (blk_below (g := gb384) (o := .cells #[.string t379, .slice Ao10 t380.length co10] 25 (0, 0)) (by (with_reducible repeat (first | refine blk_drewN ?_ _ | refine blk_drew ?_ | refine blk_alloc ?_ _)); exact BK384.out) hb); have n3_ := Aside0.mk (below_step (by repeat (first | (with_reducible first | exact HB.out | apply below_alloc | apply pw_below_drewN | apply below_drew1 | refine below_set ?_ GE384.out) | exact HB.out)) hb); clear HO382; clear BK384; clear HB; have HO382 := n0_; have HO388 := n1_; have BK384 := n2_; have HB := n3_; clear n0_ n1_ n2_ n3_; clear hb ho13))
 go_loopg [7, 8] k (fun kq v7 v8 w' => ∃ (x7_1 : List Int) (x8_1 : Int), v8 = .int .i64 x8_1 ∧ Aside0 (fCover.l0 kq l0 l1 x7_1 x8_1 t379 t380 = some true) ∧ Aside0 (kq ≤ k) ∧ Aside0 (Kd.R (Kd.int .u8) 5 w' w.heap.size (fun _ => True) v7 x7_1) ∧ Aside0 (Kd.R k31 31 w' w.heap.size (fun _ => True) (.slice Ao10 t380.length co10) t380) ∧ Aside0 (w'.heap[gb384]? = some (.cells #[.string t379, (.slice Ao10 t380.length co10)] 25 (0, 0))) ∧ Aside0 (Below w.heap.size w w'))
 case atStart => exact ⟨(y386), (0), (by first | rfl | (simp; done) | (simp [*]; done)), H', ⟨Nat.le_refl _⟩, ⟨by (with_reducible repeat (first | apply Kd.R_alloc | apply Kd.R_drewN | apply Kd.R_drew)); exact HO388.out⟩, ⟨by (with_reducible repeat (first | apply Kd.R_alloc | apply Kd.R_drewN | apply Kd.R_drew)); exact HO382.out⟩, ⟨by (with_reducible repeat (first | refine blk_drewN ?_ _ | refine blk_drew ?_ | refine blk_alloc ?_ _)); exact BK384.out⟩, ⟨by repeat (first | (with_reducible first | exact HB.out | apply below_alloc | apply pw_below_drewN | apply below_drew1 | refine below_set ?_ GE384.out) | exact HB.out)⟩⟩
 case round => as_aux_lemma =>
  clear H'
  (try clear c1); (try clear p2); (try clear c5); (try clear c6); (try clear c6b0); (try clear c6b1); (try clear c8); (try clear c11); (try clear hcz9_0); (try clear hcz9_1); (try clear hfz9_0); (try clear hfz9_1)
  obtain ⟨x7_1, x8_1, rfl, HA, HK1, HO_7, HO_385001, BK384, HB⟩ := hrel
  cases gk with
  | zero => exact absurd HA.out (by simp [fCover.l0])
  | succ k1 =>
   have H := HA.out
   clear HA
   simp only [fCover.l0] at H
   by_cases c14 : x8_1 < (l0.length : Int)
   ·rw [if_pos c14] at H
    have c14b0 : decide (x8_1 < (l0.length : Int)) = true := decide_eq_true c14
    clear c14
    by_cases c15 : 0 ≤ x8_1
    rotate_left
    ·rw [if_neg c15] at H
     exact absurd H (by simp)
    rw [if_pos c15] at H
    have c15b0 : decide (0 ≤ x8_1) = true := decide_eq_true c15
    clear c15
    by_cases c16 : x7_1.length + ((rd_T43 l0 x8_1).f0).size < 140737488355328
    rotate_left
    ·rw [if_neg c16] at H
     exact absurd H (by simp)
    rw [if_pos c16] at H
    have LMc16 := Aside0.mk c16
    clear c16
    obtain ⟨y390, hy390⟩ : ∃ y_ : List Int, y_ = (x7_1 ++ bytesOf ((rd_T43 l0 x8_1).f0)) := ⟨_, rfl⟩
    replace H : (fCover.l0 k1 l0 l1 y390 (wrap64 (x8_1 + 1)) t379 t380) = some true := by first | (rw [hy390]; with_reducible exact H) | (have H2_ := (Option.bind_some _ _).symm.trans H; rw [hy390]; with_reducible exact H2_) | (have H2_ := (Option.bind_some _ _).symm.trans H; with_reducible exact H2_) | with_reducible exact H | (rw [hy390]; exact H) | exact H
    have Ny390 := Aside0.mk hy390
    clear hy390
    have H' := Aside0.mk H
    clear H
    have p389 : 0 ≤ (x8_1 : Int) := of_decide_eq_true (by first | (with_reducible assumption) | assumption)
    have q389 : x8_1 < (l0.length : Int) := of_decide_eq_true (by first | (with_reducible assumption) | assumption)
    obtain ⟨ad389, e389, hx389_0, hx389_1⟩ := at_T43 HR0.out x8_1 p389 q389
    cases e389
    replace hx389_0 := bce HB.out hx389_0
    replace hx389_1 := bce HB.out hx389_1
    replace p389 := eq_true p389
    replace q389 := eq_true q389
    go_wp2_with (first | (at_builtin; refine print_append_str (w0 := w) w.heap.size rfl (.tmp 51) _ 41 9 5 rfl Tryd.underlying41 Tryd.underlying9 info5 u7 x7_1 ((rd_T43 l0 x8_1).f0) rfl rfl ?aO ?aB ?aS ?aL ?_; (case aB => exact (by repeat (first | (with_reducible first | exact HB.out | apply below_alloc | apply pw_below_drewN | apply below_drew1 | refine below_set ?_ GE384.out) | exact HB.out))); (case aO => exact (Kd.own_of_R (by (with_reducible repeat (first | apply Kd.R_alloc | apply Kd.R_drewN | apply Kd.R_drew)); exact HO_7.out))); (case aS => exact (below_size (by repeat (first | (with_reducible first | exact HB.out | apply below_alloc | apply pw_below_drewN | apply below_drew1 | refine below_set ?_ GE384.out) | exact HB.out)))); (case aL => have := LMc16.out; omega); intro v391 w17 ho0 hb hg; have ho := Kd.R_of_own (h1 := fun _ => rfl) (ok := fun _ => True) ho0 (fun _ _ => trivial); clear ho0; have hat := True.intro; rw [← Ny390.out] at ho; change Kd.R (Kd.int .u8) 5 w17 w.heap.size (fun _ => True) v391 y390 at ho; have n0_ := Aside0.mk (Kd.R_over' (by (with_reducible repeat (first | apply Kd.R_alloc | apply Kd.R_drewN | apply Kd.R_drew)); exact HO_385001.out) (Kd.R_typed (by (with_reducible repeat (first | apply Kd.R_alloc | apply Kd.R_drewN | apply Kd.R_drew)); exact HO_7.out)) (by decide) hg); have n1_ := Aside0.mk (blk_grown (g := gb384) (o := .cells #[.string t379, .slice Ao10 t380.length co10] 25 (0, 0)) (by (with_reducible repeat (first | refine blk_drewN ?_ _ | refine blk_drew ?_ | refine blk_alloc ?_ _)); exact BK384.out) hg (Kd.R_ne HO_7.out BK384.out (by decide))); have n2_ := Aside0.mk (hb); have n3_ := Aside0.mk (ho); clear HO_385001; clear BK384; clear HB; clear HO_7; have HO_385001 := n0_; have BK384 := n1_; have HB := n2_; have HO392 := n3_; clear n0_ n1_ n2_ n3_; clear ho hb hg hat))
    go_roundg k1
    case measure => have := HK1.out; omega
    case rel => exact ⟨(y390), (wrap64 (x8_1 + 1)), (by first | rfl | (simp; done) | (simp [*]; done)), H', ⟨by have := HK1.out; omega⟩, ⟨by (with_reducible repeat (first | apply Kd.R_alloc | apply Kd.R_drewN | apply Kd.R_drew)); exact HO392.out⟩, ⟨by (with_reducible repeat (first | apply Kd.R_alloc | apply Kd.R_drewN | apply Kd.R_drew)); exact HO_385001.out⟩, ⟨by (with_reducible repeat (first | refine blk_drewN ?_ _ | refine blk_drew ?_ | refine blk_alloc ?_ _)); exact BK384.out⟩, ⟨by repeat (first | (with_reducible first | exact HB.out | apply below_alloc | apply pw_below_drewN | apply below_drew1 | refine below_set ?_ GE384.out) | exact HB.out)⟩⟩
   rw [if_neg c14] at H
   have c14b0 : decide (x8_1 < (l0.length : Int)) = false := decide_eq_false c14
   clear c14
   have H' := Aside0.mk H
   clear H
   go_wp2
   go_loopg [9] k1 (fun kq v9 w' => ∃ (x9_2 : Int) (x385000_2 : ByteArray) (x385001_2 : List (S31)) (u385001 : Value), v9 = .int .i64 x9_2 ∧ Aside0 (fCover.l1 kq l1 x7_1 x9_2 x385000_2 x385001_2 = some true) ∧ Aside0 (kq ≤ k1) ∧ Aside0 (Kd.R (Kd.int .u8) 5 w' w.heap.size (fun _ => True) u7 x7_1) ∧ Aside0 (Kd.R k31 31 w' w.heap.size (fun _ => True) u385001 x385001_2) ∧ Aside0 (w'.heap[gb384]? = some (.cells #[.string x385000_2, u385001] 25 (0, 0))) ∧ Aside0 (Below w.heap.size w w'))
   case atStart => exact ⟨(0), (t379), (t380), (.slice Ao10 t380.length co10), (by first | rfl | (simp; done) | (simp [*]; done)), H', ⟨Nat.le_refl _⟩, ⟨by (with_reducible repeat (first | apply Kd.R_alloc | apply Kd.R_drewN | apply Kd.R_drew)); exact HO_7.out⟩, ⟨by (with_reducible repeat (first | apply Kd.R_alloc | apply Kd.R_drewN | apply Kd.R_drew)); exact HO_385001.out⟩, ⟨by (with_reducible repeat (first | refine blk_drewN ?_ _ | refine blk_drew ?_ | refine blk_alloc ?_ _)); exact BK384.out⟩, ⟨by repeat (first | (with_reducible first | exact HB.out | apply below_alloc | apply pw_below_drewN | apply below_drew1 | refine below_set ?_ GE384.out) | exact HB.out)⟩⟩
   case round => as_aux_lemma =>
    clear H'
    (try clear c1); (try clear p2); (try clear p3); (try clear q3); (try clear hx3); (try clear c5); (try clear c6); (try clear c6b0); (try clear c6b1); (try clear p6); (try clear c8); (try clear c11); (try clear c14); (try clear c14b0); (try clear c15); (try clear c15b0); (try clear c16); (try clear hcz9_0); (try clear hcz9_1); (try clear hfz9_0); (try clear hfz9_1); (try clear hx389_0); (try clear hx389_1); (try clear p2); (try clear p389); (try clear q389)
    obtain ⟨x9_2, x385000_2, x385001_2, u385001, rfl, HA, HK2, HO_7, HO_385001, BK384, HB⟩ := hrel
    cases gk with
    | zero => exact absurd HA.out (by simp [fCover.l1])
    | succ k2 =>
     have H := HA.out
     clear HA
     simp only [fCover.l1] at H
     by_cases c18 : x9_2 < (l1.length : Int)
     ·rw [if_pos c18] at H
      have c18b0 : decide (x9_2 < (l1.length : Int)) = true := decide_eq_true c18
      clear c18
      by_cases c19 : 0 ≤ x9_2
      rotate_left
      ·rw [if_neg c19] at H
       exact absurd H (by simp)
      rw [if_pos c19] at H
      have c19b0 : decide (0 ≤ x9_2) = true := decide_eq_true c19
      clear c19
      replace H := Option.bind_eq_some_iff.mp H
      obtain ⟨⟨t396, t397, t400⟩, A200, H⟩ := H
      replace H : (if t400 = 0 then (if (t397.length : Int) = (wrap64 ((x385001_2.length : Int) + 1)) then (fCover.l1 k2 l1 x7_1 (wrap64 (x9_2 + 1)) t396 t397) else (some false)) else (fCover.l1 k2 l1 x7_1 (wrap64 (x9_2 + 1)) x385000_2 x385001_2)) = some true := H
      have A20 := Aside0.mk A200
      clear A200
      by_cases c21 : t400 = 0
      rotate_left
      ·rw [if_neg c21] at H
       have c21b0 : (t400 == 0) = false := beq_eq_false_iff_ne.mpr c21
       have c21b1 : (t400 != 0) = true := bne_iff_ne.mpr c21
       have H' := Aside0.mk H
       clear H
       obtain ⟨Ao45, co45, eo45⟩ := Kd.R_slice HO_385001.out
       subst eo45
       try go_wp2
       have n0_ := Aside0.mk (Kd.R_drew HO_7.out)
       have n1_ := Aside0.mk (Kd.R_drew HO_385001.out)
       have n2_ := Aside0.mk (blk_drew BK384.out)
       have n3_ := Aside0.mk (below_drew1 HB.out)
       clear HO_7
       clear HO_385001
       clear BK384
       clear HB
       have HO_7 := n0_
       have HO_385001 := n1_
       have BK384 := n2_
       have HB := n3_
       clear n0_ n1_ n2_ n3_
       have p393 : 0 ≤ (x9_2 : Int) := of_decide_eq_true (by first | (with_reducible assumption) | assumption)
       have q393 : x9_2 < (l1.length : Int) := of_decide_eq_true (by first | (with_reducible assumption) | assumption)
       obtain ⟨ad393, e393, hx393_0, hx393_1, hx393_2⟩ := at_T34 HR1.out x9_2 p393 q393
       have hw393_2 := hx393_2
       have hw393_1 := hx393_1
       have hw393_0 := hx393_0
       cases e393
       replace hx393_0 := bce HB.out hx393_0
       replace hx393_1 := bce HB.out hx393_1
       replace hx393_2 := bce HB.out hx393_2
       replace p393 := eq_true p393
       replace q393 := eq_true q393
       have p394 : 0 ≤ (x9_2 : Int) := of_decide_eq_true (by first | (with_reducible assumption) | assumption)
       have q394 : x9_2 < (l1.length : Int) := of_decide_eq_true (by first | (with_reducible assumption) | assumption)
       obtain ⟨ad394, e394, hx394_0, hx394_1, hx394_2⟩ := at_T34 HR1.out x9_2 p394 q394
       have hw394_2 := hx394_2
       have hw394_1 := hx394_1
       have hw394_0 := hx394_0
       obtain rfl : ad393 = ad394 := (by injection e394)
       replace hx394_0 := bce HB.out hx394_0
       replace hx394_1 := bce HB.out hx394_1
       replace hx394_2 := bce HB.out hx394_2
       replace p394 := eq_true p394
       replace q394 := eq_true q394
       have p395 : 0 ≤ (x9_2 : Int) := of_decide_eq_true (by first | (with_reducible assumption) | assumption)
       have q395 : x9_2 < (l1.length : Int) := of_decide_eq_true (by first | (with_reducible assumption) | assumption)
       obtain ⟨ad395, e395, hx395_0, hx395_1, hx395_2⟩ := at_T34 HR1.out x9_2 p395 q395
       have hw395_2 := hx395_2
       have hw395_1 := hx395_1
       have hw395_0 := hx395_0
       obtain rfl : ad393 = ad395 := (by injection e395)
       replace hx395_0 := bce HB.out hx395_0
       replace hx395_1 := bce HB.out hx395_1
       replace hx395_2 := bce HB.out hx395_2
       replace p395 := eq_true p395
       replace q395 := eq_true q395
       refine start_ (n := 23) (S := fun w' => w'.cell? ⟨gb384, 0, none⟩ = some (.string x385000_2) ∧ w'.cell? ⟨gb384, 1, none⟩ = some (.slice Ao45 x385001_2.length co45) ∧ w'.cell? (ad393.add ((x9_2).toNat * 3)) = some (.int .i64 ((rd_T34 l1 x9_2).f0)) ∧ w'.cell? ⟨(ad393.add ((x9_2).toNat * 3)).block, (ad393.add ((x9_2).toNat * 3)).off + 1, none⟩ = some (.int .i64 ((rd_T34 l1 x9_2).f1)) ∧ w'.cell? ⟨(ad393.add ((x9_2).toNat * 3)).block, (ad393.add ((x9_2).toNat * 3)).off + 2, none⟩ = some (.int .i64 ((rd_T34 l1 x9_2).f2)) ∧ w'.cell? (ad393.add ((x9_2).toNat * 3)) = some (.int .i64 ((rd_T34 l1 x9_2).f0)) ∧ w'.cell? ⟨(ad393.add ((x9_2).toNat * 3)).block, (ad393.add ((x9_2).toNat * 3)).off + 1, none⟩ = some (.int .i64 ((rd_T34 l1 x9_2).f1)) ∧ w'.cell? ⟨(ad393.add ((x9_2).toNat * 3)).block, (ad393.add ((x9_2).toNat * 3)).off + 2, none⟩ = some (.int .i64 ((rd_T34 l1 x9_2).f2)) ∧ w'.cell? (ad393.add ((x9_2).toNat * 3)) = some (.int .i64 ((rd_T34 l1 x9_2).f0)) ∧ w'.cell? ⟨(ad393.add ((x9_2).toNat * 3)).block, (ad393.add ((x9_2).toNat * 3)).off + 1, none⟩ = some (.int .i64 ((rd_T34 l1 x9_2).f1)) ∧ w'.cell? ⟨(ad393.add ((x9_2).toNat * 3)).block, (ad393.add ((x9_2).toNat * 3)).off + 2, none⟩ = some (.int .i64 ((rd_T34 l1 x9_2).f2))) (ds := []) #[false, false, false, false, false, false, false, false, false, false, false, false, false, false, false, false, false, false, false, false, false, false, false] (by kernel_rfl) rfl rfl ⟨(blk_cell BK384.out 0).trans rfl, (blk_cell BK384.out 1).trans rfl, (bce HB.out hw393_0), (bce HB.out hw393_1), (bce HB.out hw393_2), (bce HB.out hw394_0), (bce HB.out hw394_1), (bce HB.out hw394_2), (bce HB.out hw395_0), (bce HB.out hw395_1), (bce HB.out hw395_2)⟩ (fun hHeld => ?_); refine with_tabW fCover.tab14 fCover.bits14 (fun HT_ HW_ => ?_)
       generalize wr.drew = w46 at HO_7 HO_385001 BK384 HB hx393_0 hx393_1 hx393_2 hx394_0 hx394_1 hx394_2 hx395_0 hx395_1 hx395_2 hHeld ⊢
       refine pure_ (i := 1) (N := some 66) (v := ?_) (a' := ?_) (bN 23 2) rfl rfl (any_of HT_.out (by kernel_rfl)) (fun _ _ _ h => h) (Or.inl ⟨by rfl, ?_⟩) ?_ ?_
       rotate_left
       ·intro w'
        go_simp
        with_reducible rfl
       rotate_left
       ·simp only [Act.put, List.setIfInBounds_toArray, List.set_cons_zero, List.set_cons_succ, i64_w, i32_w]
        rfl
       refine pure_ (i := 2) (N := some 67) (v := ?_) (a' := ?_) (bN 23 6) rfl rfl (any_of HT_.out (by kernel_rfl)) (fun _ _ _ h => h) (Or.inl ⟨by rfl, ?_⟩) ?_ ?_
       rotate_left
       ·intro w'
        go_simp
        with_reducible rfl
       rotate_left
       ·simp only [Act.put, List.setIfInBounds_toArray, List.set_cons_zero, List.set_cons_succ, i64_w, i32_w]
        rfl
       refine pure_ (i := 3) (N := some 68) (v := ?_) (a' := ?_) (bN 23 14) rfl rfl (any_of HT_.out (by kernel_rfl)) (fun _ _ _ h => h) (Or.inl ⟨by rfl, ?_⟩) ?_ ?_
       rotate_left
       ·intro w'
        go_simp
        with_reducible rfl
       rotate_left
       ·simp only [Act.put, List.setIfInBounds_toArray, List.set_cons_zero, List.set_cons_succ, i64_w, i32_w]
        rfl
       refine pure_ (i := 4) (N := some 69) (v := ?_) (a' := ?_) (bN 23 30) rfl rfl (any_of HT_.out (by kernel_rfl)) (fun _ _ _ h => h) (Or.inl ⟨by rfl, ?_⟩) ?_ ?_
       rotate_left
       ·intro w'
        go_simp
        with_reducible rfl
       rotate_left
       ·simp only [Act.put, List.setIfInBounds_toArray, List.set_cons_zero, List.set_cons_succ, i64_w, i32_w]
        rfl
       refine pure_ (i := 6) (N := some 71) (v := ?_) (a' := ?_) (bN 23 94) rfl rfl (any_of HT_.out (by kernel_rfl)) (fun _ _ _ h => h) (Or.inl ⟨by rfl, ?_⟩) ?_ ?_
       rotate_left
       ·intro w'
        go_simp
        with_reducible rfl
       rotate_left
       ·simp only [Act.put, List.setIfInBounds_toArray, List.set_cons_zero, List.set_cons_succ, i64_w, i32_w]
        rfl
       refine pure_ (i := 7) (N := some 72) (v := ?_) (a' := ?_) (bN 23 222) rfl rfl (any_of HT_.out (by kernel_rfl)) (fun _ _ _ h => h) (Or.inl ⟨by rfl, ?_⟩) ?_ ?_
       rotate_left
       ·intro w'
        go_simp
        with_reducible rfl
       rotate_left
       ·simp only [Act.put, List.setIfInBounds_toArray, List.set_cons_zero, List.set_cons_succ, i64_w, i32_w]
        rfl
       refine pure_ (i := 8) (N := some 73) (v := ?_) (a' := ?_) (bN 23 478) rfl rfl (any_of HT_.out (by kernel_rfl)) (fun _ _ _ h => h) (Or.inl ⟨by rfl, ?_⟩) ?_ ?_
       rotate_left
       ·intro w'
        go_simp
        with_reducible rfl
       rotate_left
       ·simp only [Act.put, List.setIfInBounds_toArray, List.set_cons_zero, List.set_cons_succ, i64_w, i32_w]
        rfl
       refine pure_ (i := 9) (N := some 74) (v := ?_) (a' := ?_) (bN 23 990) rfl rfl (any_of HT_.out (by kernel_rfl)) (fun _ _ _ h => h) (Or.inl ⟨by rfl, ?_⟩) ?_ ?_
       rotate_left
       ·intro w'
        go_simp
        with_reducible rfl
       rotate_left
       ·simp only [Act.put, List.setIfInBounds_toArray, List.set_cons_zero, List.set_cons_succ, i64_w, i32_w]
        rfl
       refine pure_ (i := 11) (N := some 76) (v := ?_) (a' := ?_) (bN 23 3038) rfl rfl (any_of HT_.out (by kernel_rfl)) (fun _ _ _ h => h) (Or.inl ⟨by rfl, ?_⟩) ?_ ?_
       rotate_left
       ·intro w'
        go_simp
        with_reducible rfl
       rotate_left
       ·simp only [Act.put, List.setIfInBounds_toArray, List.set_cons_zero, List.set_cons_succ, i64_w, i32_w]
        rfl
       refine pure_ (i := 12) (N := some 77) (v := ?_) (a' := ?_) (bN 23 7134) rfl rfl (any_of HT_.out (by kernel_rfl)) (fun _ _ _ h => h) (Or.inl ⟨by rfl, ?_⟩) ?_ ?_
       rotate_left
       ·intro w'
        go_simp
        with_reducible rfl
       rotate_left
       ·simp only [Act.put, List.setIfInBounds_toArray, List.set_cons_zero, List.set_cons_succ, i64_w, i32_w]
        rfl
       refine pure_ (i := 13) (N := some 78) (v := ?_) (a' := ?_) (bN 23 15326) rfl rfl (any_of HT_.out (by kernel_rfl)) (fun _ _ _ h => h) (Or.inl ⟨by rfl, ?_⟩) ?_ ?_
       rotate_left
       ·intro w'
        go_simp
        with_reducible rfl
       rotate_left
       ·simp only [Act.put, List.setIfInBounds_toArray, List.set_cons_zero, List.set_cons_succ, i64_w, i32_w]
        rfl
       refine pure_ (i := 14) (N := some 79) (v := ?_) (a' := ?_) (bN 23 31710) rfl rfl (any_of HT_.out (by kernel_rfl)) (fun _ _ _ h => h) (Or.inl ⟨by rfl, ?_⟩) ?_ ?_
       rotate_left
       ·intro w'
        go_simp
        with_reducible rfl
       rotate_left
       ·simp only [Act.put, List.setIfInBounds_toArray, List.set_cons_zero, List.set_cons_succ, i64_w, i32_w]
        rfl
       refine take_ (i := 0) (N := some 65) (v := ?_) (a' := ?_) #[true, true, true, true, true, false, true, true, true, true, false, true, true, true, true, false, false, false, false, false, false, false, false] rfl rfl (take_ofW HT_.out HW_.out (by kernel_rfl)) (fun _ _ _ h => h) (Or.inl ⟨by rfl, ?_⟩) hHeld ?_ ?_
       rotate_left
       ·rintro w' ⟨s0, s1, s2, s3, s4, s5, s6, s7, s8, s9, s10⟩
        go_simp
        with_reducible rfl
       rotate_left
       ·simp only [Act.put, List.setIfInBounds_toArray, List.set_cons_zero, List.set_cons_succ, i64_w, i32_w]
        rfl
       refine take_ (i := 5) (N := some 70) (v := ?_) (a' := ?_) #[true, true, true, true, true, true, true, true, true, true, false, true, true, true, true, false, false, false, false, false, false, false, false] rfl rfl (take_ofW HT_.out HW_.out (by kernel_rfl)) (fun _ _ _ h => h) (Or.inl ⟨by rfl, ?_⟩) hHeld ?_ ?_
       rotate_left
       ·rintro w' ⟨s0, s1, s2, s3, s4, s5, s6, s7, s8, s9, s10⟩
        go_simp
        with_reducible rfl
       rotate_left
       ·simp only [Act.put, List.setIfInBounds_toArray, List.set_cons_zero, List.set_cons_succ, i64_w, i32_w]
        rfl
       refine take_ (i := 10) (N := some 75) (v := ?_) (a' := ?_) #[true, true, true, true, true, true, true, true, true, true, true, true, true, true, true, false, false, false, false, false, false, false, false] rfl rfl (take_ofW HT_.out HW_.out (by kernel_rfl)) (fun _ _ _ h => h) (Or.inl ⟨by rfl, ?_⟩) hHeld ?_ ?_
       rotate_left
       ·rintro w' ⟨s0, s1, s2, s3, s4, s5, s6, s7, s8, s9, s10⟩
        go_simp
        with_reducible rfl
       rotate_left
       ·simp only [Act.put, List.setIfInBounds_toArray, List.set_cons_zero, List.set_cons_succ, i64_w, i32_w]
        rfl
       refine take_ (i := 15) (N := some 80) (v := ?_) (a' := ?_) #[true, true, true, true, true, true, true, true, true, true, true, true, true, true, true, true, false, false, false, false, false, false, false] rfl rfl (take_ofW HT_.out HW_.out (by kernel_rfl)) (fun _ _ _ h => h) (Or.inl ⟨by rfl, ?_⟩) hHeld ?_ ?_
       rotate_left
       ·rintro w' ⟨s0, s1, s2, s3, s4, s5, s6, s7, s8, s9, s10⟩
        go_simp
        with_reducible rfl
       rotate_left
       ·simp only [Act.put, List.setIfInBounds_toArray, List.set_cons_zero, List.set_cons_succ, i64_w, i32_w]
        rfl
       refine join_ (σ := Value × Nat) 2 #[true, true, true, true, true, true, true, true, true, true, true, true, true, true, true, true, true, true, true, true, true, false, false] (fun s_ => [(81, .tuple #[.agg #[.string t396, s_.1], .int .i64 t400]), (10, .pointer (some ⟨s_.2, 0, none⟩)), (64, .tuple #[.agg #[.string t396, s_.1], .int .i64 t400]), (82, .agg #[.string t396, s_.1]), (83, .int .i64 t400)]) (fun s_ w' => (w'.cell? ⟨gb384, 0, none⟩ = some (.string x385000_2) ∧ w'.cell? ⟨gb384, 1, none⟩ = some (.slice Ao45 x385001_2.length co45) ∧ w'.cell? (ad393.add ((x9_2).toNat * 3)) = some (.int .i64 ((rd_T34 l1 x9_2).f0)) ∧ w'.cell? ⟨(ad393.add ((x9_2).toNat * 3)).block, (ad393.add ((x9_2).toNat * 3)).off + 1, none⟩ = some (.int .i64 ((rd_T34 l1 x9_2).f1)) ∧ w'.cell? ⟨(ad393.add ((x9_2).toNat * 3)).block, (ad393.add ((x9_2).toNat * 3)).off + 2, none⟩ = some (.int .i64 ((rd_T34 l1 x9_2).f2)) ∧ w'.cell? (ad393.add ((x9_2).toNat * 3)) = some (.int .i64 ((rd_T34 l1 x9_2).f0)) ∧ w'.cell? ⟨(ad393.add ((x9_2).toNat * 3)).block, (ad393.add ((x9_2).toNat * 3)).off + 1, none⟩ = some (.int .i64 ((rd_T34 l1 x9_2).f1)) ∧ w'.cell? ⟨(ad393.add ((x9_2).toNat * 3)).block, (ad393.add ((x9_2).toNat * 3)).off + 2, none⟩ = some (.int .i64 ((rd_T34 l1 x9_2).f2)) ∧ w'.cell? (ad393.add ((x9_2).toNat * 3)) = some (.int .i64 ((rd_T34 l1 x9_2).f0)) ∧ w'.cell? ⟨(ad393.add ((x9_2).toNat * 3)).block, (ad393.add ((x9_2).toNat * 3)).off + 1, none⟩ = some (.int .i64 ((rd_T34 l1 x9_2).f1)) ∧ w'.cell? ⟨(ad393.add ((x9_2).toNat * 3)).block, (ad393.add ((x9_2).toNat * 3)).off + 2, none⟩ = some (.int .i64 ((rd_T34 l1 x9_2).f2))) ∧ (Kd.R k31 31 w' w.heap.size (fun k_ => some k_ ≠ (.slice Ao45 x385001_2.length co45 : Value).ownBlock) s_.1 t397) ∧ (Kd.R k31 31 w' w.heap.size (fun k_ => some k_ ≠ (s_.1 : Value).ownBlock) (.slice Ao45 x385001_2.length co45) x385001_2) ∧ (Kd.R (Kd.int .u8) 5 w' w.heap.size (fun _ => True) u7 x7_1) ∧ (w'.heap[gb384]? = some (.cells #[.string x385000_2, .slice Ao45 x385001_2.length co45] 25 (0, 0))) ∧ (w'.heap[s_.2]? = some (.cells #[.string (⟨#[]⟩ : ByteArray), .slice none 0 0] 25 (0, 0))) ∧ (w.heap.size ≤ s_.2) ∧ (w.heap.size ≤ s_.2) ∧ (gb384 ≠ s_.2) ∧ (s_.2 ≠ gb384) ∧ (Below w.heap.size w w')) ?_ ?_
       rotate_left
       ·intro hCont
        refine two_ (i := 16) (j := 20) (Ni := some 81) (Nj := some 10) #[true, true, true, true, true, true, true, true, true, true, true, true, true, true, true, true, true, false, false, false, false, false, false] #[true, true, true, true, true, true, true, true, true, true, true, true, true, true, true, true, false, false, false, false, true, false, false] rfl rfl rfl rfl (Go.Proofs.YtffldajbnhbkkaaDoorW.PrintLast.two_of HT_.out (by kernel_rfl)) (by decide) (by decide) (fun K hK => ?_) (fun K hK => ?_)
        ·skip
         refine goes_ Tryd.func13 (by kernel_rfl) rfl #[.agg #[.string x385000_2, .slice Ao45 x385001_2.length co45], .int .i64 ((rd_T34 l1 x9_2).f0), .int .i64 ((rd_T34 l1 x9_2).f1), .int .i64 ((rd_T34 l1 x9_2).f2)] (by rfl) rfl rfl (by (try simp only [List.map_toArray, List.map_cons, List.map_nil]); first | done | rfl | (simp only [List.length_drop, List.length_take]; rfl)) ?_
         with_reducible refine (fields_Wrap.calls x385000_2 _ _ x385001_2 ((rd_T34 l1 x9_2).f0) ((rd_T34 l1 x9_2).f1) ((rd_T34 l1 x9_2).f2) t396 t397 t400 _ (Gd.below HG.out (by repeat (first | (with_reducible first | exact HB.out | apply below_alloc | apply pw_below_drewN | apply below_drew1 | refine below_set ?_ GE384.out) | exact HB.out))) ?side1 ?side2 A20.out).mono ?_
         (case side1 => repeat (first | exact (Kd.R_reads' HO_385001.out).2.2 | (with_reducible refine Kd.C_alloc ?_ _) | (with_reducible refine Kd.C_drewN ?_ _) | (with_reducible refine Kd.C_drew ?_)))
         (case side2 => exact (Kd.R_reads' HO_385001.out).2.1)
         rintro e w47 ⟨v398, rfl, ho0, hb⟩
         refine ⟨_, rfl, ?_⟩
         have n0_ := Aside0.mk (Kd.R_below (by (with_reducible repeat (first | apply Kd.R_alloc | apply Kd.R_drewN | apply Kd.R_drew)); exact HO_7.out) hb)
         have n1_ := Aside0.mk (Kd.R_elder' (by (with_reducible repeat (first | apply Kd.R_alloc | apply Kd.R_drewN | apply Kd.R_drew)); exact HO_385001.out) (Kd.R_base ho0) hb)
         have n2_ := Aside0.mk (Kd.R_lower (Kd.R_new' ho0 (Kd.R_lt (by (with_reducible repeat (first | apply Kd.R_alloc | apply Kd.R_drewN | apply Kd.R_drew)); exact HO_385001.out))) (below_size (by repeat (first | (with_reducible first | exact HB.out | apply below_alloc | apply pw_below_drewN | apply below_drew1 | refine below_set ?_ GE384.out) | exact HB.out))))
         have n3_ := Aside0.mk (blk_below (g := gb384) (o := .cells #[.string x385000_2, .slice Ao45 x385001_2.length co45] 25 (0, 0)) (by (with_reducible repeat (first | refine blk_drewN ?_ _ | refine blk_drew ?_ | refine blk_alloc ?_ _)); exact BK384.out) hb)
         have n4_ := Aside0.mk (below_step (by repeat (first | (with_reducible first | exact HB.out | apply below_alloc | apply pw_below_drewN | apply below_drew1 | refine below_set ?_ GE384.out) | exact HB.out)) hb)
         clear HO_7
         clear HO_385001
         clear BK384
         clear HB
         have HO_7 := n0_
         have HO_385001 := n1_
         have HO399 := n2_
         have BK384 := n3_
         have HB := n4_
         clear n0_ n1_ n2_ n3_ n4_
         (try clear hb)
         (try clear hb2)
         (try clear hk)
         (try clear hi)
         (try clear ho0)
         refine hK.out _ _ ⟨(blk_cell BK384.out 0).trans rfl, (blk_cell BK384.out 1).trans rfl, (bce HB.out hw393_0), (bce HB.out hw393_1), (bce HB.out hw393_2), (bce HB.out hw394_0), (bce HB.out hw394_1), (bce HB.out hw394_2), (bce HB.out hw395_0), (bce HB.out hw395_1), (bce HB.out hw395_2)⟩ (fun hHeld => ?_)
         clear hK K
         refine norm_ (a' := ?_) ?_ ?_
         rotate_left
         ·show Act.put _ (some 81) _ = _
          simp only [Act.put, List.setIfInBounds_toArray, List.set_cons_zero, List.set_cons_succ, i64_w, i32_w]
          rfl
         refine pure_ (i := 17) (N := some 64) (v := ?_) (a' := ?_) (bN 23 262143) rfl rfl (any_of HT_.out (by kernel_rfl)) (fun _ _ _ h => h) (Or.inl ⟨by rfl, ?_⟩) ?_ ?_
         rotate_left
         ·intro w'
          go_simp
          with_reducible rfl
         rotate_left
         ·simp only [Act.put, List.setIfInBounds_toArray, List.set_cons_zero, List.set_cons_succ, i64_w, i32_w]
          rfl
         refine pure_ (i := 18) (N := some 82) (v := ?_) (a' := ?_) (bN 23 524287) rfl rfl (any_of HT_.out (by kernel_rfl)) (fun _ _ _ h => h) (Or.inl ⟨by rfl, ?_⟩) ?_ ?_
         rotate_left
         ·intro w'
          go_simp
          with_reducible rfl
         rotate_left
         ·simp only [Act.put, List.setIfInBounds_toArray, List.set_cons_zero, List.set_cons_succ, i64_w, i32_w]
          rfl
         refine pure_ (i := 19) (N := some 83) (v := ?_) (a' := ?_) (bN 23 1048575) rfl rfl (any_of HT_.out (by kernel_rfl)) (fun _ _ _ h => h) (Or.inl ⟨by rfl, ?_⟩) ?_ ?_
         rotate_left
         ·intro w'
          go_simp
          with_reducible rfl
         rotate_left
         ·simp only [Act.put, List.setIfInBounds_toArray, List.set_cons_zero, List.set_cons_succ, i64_w, i32_w]
          rfl
         refine one_ (i := 20) (N := some 10) #[true, true, true, true, true, true, true, true, true, true, true, true, true, true, true, true, true, true, true, true, true, false, false] rfl rfl (Go.Proofs.YtffldajbnhbkkaaDoorW.PrintLast.one_of HT_.out (by kernel_rfl)) (by decide) (fun K hK => ?_)
         refine box_step ?hg (N := 10) ?hd (cs := #[.string (⟨#[]⟩ : ByteArray), .slice none 0 0]) (t := 25) ?hr ?_; (case hd => rfl); (case hg => rfl); (case hr => first | (go_simp; done) | (go_simp; rfl))
         intro gb401 hg w48 hbox hb
         have n0_ := Aside0.mk (Kd.R_below (by (with_reducible repeat (first | apply Kd.R_alloc | apply Kd.R_drewN | apply Kd.R_drew)); exact HO_7.out) hb)
         have n1_ := Aside0.mk (Kd.R_below (by (with_reducible repeat (first | apply Kd.R_alloc | apply Kd.R_drewN | apply Kd.R_drew)); exact HO_385001.out) hb)
         have n2_ := Aside0.mk (Kd.R_below (by (with_reducible repeat (first | apply Kd.R_alloc | apply Kd.R_drewN | apply Kd.R_drew)); exact HO399.out) hb)
         have n3_ := Aside0.mk (blk_below (g := gb384) (o := .cells #[.string x385000_2, .slice Ao45 x385001_2.length co45] 25 (0, 0)) (by (with_reducible repeat (first | refine blk_drewN ?_ _ | refine blk_drew ?_ | refine blk_alloc ?_ _)); exact BK384.out) hb)
         have n4_ := Aside0.mk (below_step (by repeat (first | (with_reducible first | exact HB.out | apply below_alloc | apply pw_below_drewN | apply below_drew1 | refine below_set ?_ GE384.out) | exact HB.out)) hb)
         have n5_ := Aside0.mk (hbox)
         have n6_ := Aside0.mk ((by rw [hg]; exact (below_size (by repeat (first | (with_reducible first | exact HB.out | apply below_alloc | apply pw_below_drewN | apply below_drew1 | refine below_set ?_ GE384.out) | exact HB.out))) : w.heap.size ≤ gb401))
         have n7_ := Aside0.mk ((by rw [hg]; exact (below_size (by repeat (first | (with_reducible first | exact HB.out | apply below_alloc | apply pw_below_drewN | apply below_drew1 | refine below_set ?_ GE384.out) | exact HB.out))) : w.heap.size ≤ gb401))
         have n8_ := Aside0.mk ((by rw [hg]; exact Nat.ne_of_lt (blk_lt (g := gb384) (o := .cells #[.string x385000_2, .slice Ao45 x385001_2.length co45] 25 (0, 0)) (by (with_reducible repeat (first | refine blk_drewN ?_ _ | refine blk_drew ?_ | refine blk_alloc ?_ _)); exact BK384.out)) : gb384 ≠ gb401))
         have n9_ := Aside0.mk ((by rw [hg]; exact Nat.ne_of_gt (blk_lt (g := gb384) (o := .cells #[.string x385000_2, .slice Ao45 x385001_2.length co45] 25 (0, 0)) (by (with_reducible repeat (first | refine blk_drewN ?_ _ | refine blk_drew ?_ | refine blk_alloc ?_ _)); exact BK384.out)) : gb401 ≠ gb384))
         clear HO_7
         clear HO_385001
         clear HO399
         clear BK384
         clear HB
         have HO_7 := n0_
         have HO_385001 := n1_
         have HO399 := n2_
         have BK384 := n3_
         have HB := n4_
         have BK401 := n5_
         have GW401 := n6_
         have GE401 := n7_
         have NB384_401 := n8_
         have NB401_384 := n9_
         clear n0_ n1_ n2_ n3_ n4_ n5_ n6_ n7_ n8_ n9_
         clear hb hbox hg
         refine hK.out _ _ ⟨(blk_cell BK384.out 0).trans rfl, (blk_cell BK384.out 1).trans rfl, (bce HB.out hw393_0), (bce HB.out hw393_1), (bce HB.out hw393_2), (bce HB.out hw394_0), (bce HB.out hw394_1), (bce HB.out hw394_2), (bce HB.out hw395_0), (bce HB.out hw395_1), (bce HB.out hw395_2)⟩ (fun hHeld => ?_)
         clear hK K
         refine norm_ (a' := ?_) ?_ ?_
         rotate_left
         ·show Act.put _ (some 10) _ = _
          simp only [Act.put, List.setIfInBounds_toArray, List.set_cons_zero, List.set_cons_succ, i64_w, i32_w]
          rfl
         exact norm_ (by simp only [putAll, Act.put, List.setIfInBounds_toArray, List.set_cons_zero, List.set_cons_succ]) (hCont (v398, gb401) _ ⟨hHeld, (by (with_reducible repeat (first | apply Kd.R_alloc | apply Kd.R_drewN | apply Kd.R_drew)); exact Kd.R_mono HO399.out (fun _ hk => hk.2)), (by (with_reducible repeat (first | apply Kd.R_alloc | apply Kd.R_drewN | apply Kd.R_drew)); exact Kd.R_mono HO_385001.out (fun _ hk => hk.2)), (by (with_reducible repeat (first | apply Kd.R_alloc | apply Kd.R_drewN | apply Kd.R_drew)); exact HO_7.out), (by (with_reducible repeat (first | refine blk_drewN ?_ _ | refine blk_drew ?_ | refine blk_alloc ?_ _)); exact BK384.out), (by (with_reducible repeat (first | refine blk_drewN ?_ _ | refine blk_drew ?_ | refine blk_alloc ?_ _)); exact BK401.out), GW401.out, GE401.out, NB384_401.out, NB401_384.out, (by repeat (first | (with_reducible first | exact HB.out | apply below_alloc | apply pw_below_drewN | apply below_drew1 | refine below_set ?_ GE384.out | refine below_set ?_ GE401.out) | exact HB.out))⟩)
        ·skip
         refine box_step ?hg (N := 10) ?hd (cs := #[.string (⟨#[]⟩ : ByteArray), .slice none 0 0]) (t := 25) ?hr ?_; (case hd => rfl); (case hg => rfl); (case hr => first | (go_simp; done) | (go_simp; rfl))
         intro gb401 hg w47 hbox hb
         have n0_ := Aside0.mk (Kd.R_below (by (with_reducible repeat (first | apply Kd.R_alloc | apply Kd.R_drewN | apply Kd.R_drew)); exact HO_7.out) hb)
         have n1_ := Aside0.mk (Kd.R_below (by (with_reducible repeat (first | apply Kd.R_alloc | apply Kd.R_drewN | apply Kd.R_drew)); exact HO_385001.out) hb)
         have n2_ := Aside0.mk (blk_below (g := gb384) (o := .cells #[.string x385000_2, .slice Ao45 x385001_2.length co45] 25 (0, 0)) (by (with_reducible repeat (first | refine blk_drewN ?_ _ | refine blk_drew ?_ | refine blk_alloc ?_ _)); exact BK384.out) hb)
         have n3_ := Aside0.mk (below_step (by repeat (first | (with_reducible first | exact HB.out | apply below_alloc | apply pw_below_drewN | apply below_drew1 | refine below_set ?_ GE384.out) | exact HB.out)) hb)
         have n4_ := Aside0.mk (hbox)
         have n5_ := Aside0.mk ((by rw [hg]; exact (below_size (by repeat (first | (with_reducible first | exact HB.out | apply below_alloc | apply pw_below_drewN | apply below_drew1 | refine below_set ?_ GE384.out) | exact HB.out))) : w.heap.size ≤ gb401))
         have n6_ := Aside0.mk ((by rw [hg]; exact (below_size (by repeat (first | (with_reducible first | exact HB.out | apply below_alloc | apply pw_below_drewN | apply below_drew1 | refine below_set ?_ GE384.out) | exact HB.out))) : w.heap.size ≤ gb401))
         have n7_ := Aside0.mk ((by rw [hg]; exact Nat.ne_of_lt (blk_lt (g := gb384) (o := .cells #[.string x385000_2, .slice Ao45 x385001_2.length co45] 25 (0, 0)) (by (with_reducible repeat (first | refine blk_drewN ?_ _ | refine blk_drew ?_ | refine blk_alloc ?_ _)); exact BK384.out)) : gb384 ≠ gb401))
         have n8_ := Aside0.mk ((by rw [hg]; exact Nat.ne_of_gt (blk_lt (g := gb384) (o := .cells #[.string x385000_2, .slice Ao45 x385001_2.length co45] 25 (0, 0)) (by (with_reducible repeat (first | refine blk_drewN ?_ _ | refine blk_drew ?_ | refine blk_alloc ?_ _)); exact BK384.out)) : gb401 ≠ gb384))
         clear HO_7
         clear HO_385001
         clear BK384
         clear HB
         have HO_7 := n0_
         have HO_385001 := n1_
         have BK384 := n2_
         have HB := n3_
         have BK401 := n4_
         have GW401 := n5_
         have GE401 := n6_
         have NB384_401 := n7_
         have NB401_384 := n8_
         clear n0_ n1_ n2_ n3_ n4_ n5_ n6_ n7_ n8_
         clear hb hbox hg
         refine hK.out _ _ ⟨(blk_cell BK384.out 0).trans rfl, (blk_cell BK384.out 1).trans rfl, (bce HB.out hw393_0), (bce HB.out hw393_1), (bce HB.out hw393_2), (bce HB.out hw394_0), (bce HB.out hw394_1), (bce HB.out hw394_2), (bce HB.out hw395_0), (bce HB.out hw395_1), (bce HB.out hw395_2)⟩ (fun hHeld => ?_)
         clear hK K
         refine norm_ (a' := ?_) ?_ ?_
         rotate_left
         ·show Act.put _ (some 10) _ = _
          simp only [Act.put, List.setIfInBounds_toArray, List.set_cons_zero, List.set_cons_succ, i64_w, i32_w]
          rfl
         refine one_ (i := 16) (N := some 81) #[true, true, true, true, true, true, true, true, true, true, true, true, true, true, true, true, true, false, false, false, true, false, false] rfl rfl (Go.Proofs.YtffldajbnhbkkaaDoorW.PrintLast.one_of HT_.out (by kernel_rfl)) (by decide) (fun K hK => ?_)
         refine goes_ Tryd.func13 (by kernel_rfl) rfl #[.agg #[.string x385000_2, .slice Ao45 x385001_2.length co45], .int .i64 ((rd_T34 l1 x9_2).f0), .int .i64 ((rd_T34 l1 x9_2).f1), .int .i64 ((rd_T34 l1 x9_2).f2)] (by rfl) rfl rfl (by (try simp only [List.map_toArray, List.map_cons, List.map_nil]); first | done | rfl | (simp only [List.length_drop, List.length_take]; rfl)) ?_
         with_reducible refine (fields_Wrap.calls x385000_2 _ _ x385001_2 ((rd_T34 l1 x9_2).f0) ((rd_T34 l1 x9_2).f1) ((rd_T34 l1 x9_2).f2) t396 t397 t400 _ (Gd.below HG.out (by repeat (first | (with_reducible first | exact HB.out | apply below_alloc | apply pw_below_drewN | apply below_drew1 | refine below_set ?_ GE384.out | refine below_set ?_ GE401.out) | exact HB.out))) ?side1 ?side2 A20.out).mono ?_
         (case side1 => repeat (first | exact (Kd.R_reads' HO_385001.out).2.2 | (with_reducible refine Kd.C_alloc ?_ _) | (with_reducible refine Kd.C_drewN ?_ _) | (with_reducible refine Kd.C_drew ?_)))
         (case side2 => exact (Kd.R_reads' HO_385001.out).2.1)
         rintro e w48 ⟨v398, rfl, ho0, hb⟩
         refine ⟨_, rfl, ?_⟩
         have n0_ := Aside0.mk (Kd.R_below (by (with_reducible repeat (first | apply Kd.R_alloc | apply Kd.R_drewN | apply Kd.R_drew)); exact HO_7.out) hb)
         have n1_ := Aside0.mk (Kd.R_elder' (by (with_reducible repeat (first | apply Kd.R_alloc | apply Kd.R_drewN | apply Kd.R_drew)); exact HO_385001.out) (Kd.R_base ho0) hb)
         have n2_ := Aside0.mk (Kd.R_lower (Kd.R_new' ho0 (Kd.R_lt (by (with_reducible repeat (first | apply Kd.R_alloc | apply Kd.R_drewN | apply Kd.R_drew)); exact HO_385001.out))) (below_size (by repeat (first | (with_reducible first | exact HB.out | apply below_alloc | apply pw_below_drewN | apply below_drew1 | refine below_set ?_ GE384.out | refine below_set ?_ GE401.out) | exact HB.out))))
         have n3_ := Aside0.mk (blk_below (g := gb384) (o := .cells #[.string x385000_2, .slice Ao45 x385001_2.length co45] 25 (0, 0)) (by (with_reducible repeat (first | refine blk_drewN ?_ _ | refine blk_drew ?_ | refine blk_alloc ?_ _)); exact BK384.out) hb)
         have n4_ := Aside0.mk (blk_below (g := gb401) (o := .cells #[.string (⟨#[]⟩ : ByteArray), .slice none 0 0] 25 (0, 0)) (by (with_reducible repeat (first | refine blk_drewN ?_ _ | refine blk_drew ?_ | refine blk_alloc ?_ _)); exact BK401.out) hb)
         have n5_ := Aside0.mk (below_step (by repeat (first | (with_reducible first | exact HB.out | apply below_alloc | apply pw_below_drewN | apply below_drew1 | refine below_set ?_ GE384.out | refine below_set ?_ GE401.out) | exact HB.out)) hb)
         clear HO_7
         clear HO_385001
         clear BK384
         clear BK401
         clear HB
         have HO_7 := n0_
         have HO_385001 := n1_
         have HO399 := n2_
         have BK384 := n3_
         have BK401 := n4_
         have HB := n5_
         clear n0_ n1_ n2_ n3_ n4_ n5_
         (try clear hb)
         (try clear hb2)
         (try clear hk)
         (try clear hi)
         (try clear ho0)
         refine hK.out _ _ ⟨(blk_cell BK384.out 0).trans rfl, (blk_cell BK384.out 1).trans rfl, (bce HB.out hw393_0), (bce HB.out hw393_1), (bce HB.out hw393_2), (bce HB.out hw394_0), (bce HB.out hw394_1), (bce HB.out hw394_2), (bce HB.out hw395_0), (bce HB.out hw395_1), (bce HB.out hw395_2)⟩ (fun hHeld => ?_)
         clear hK K
         refine norm_ (a' := ?_) ?_ ?_
         rotate_left
         ·show Act.put _ (some 81) _ = _
          simp only [Act.put, List.setIfInBounds_toArray, List.set_cons_zero, List.set_cons_succ, i64_w, i32_w]
          rfl
         refine pure_ (i := 17) (N := some 64) (v := ?_) (a' := ?_) (bN 23 1310719) rfl rfl (any_of HT_.out (by kernel_rfl)) (fun _ _ _ h => h) (Or.inl ⟨by rfl, ?_⟩) ?_ ?_
         rotate_left
         ·intro w'
          go_simp
          with_reducible rfl
         rotate_left
         ·simp only [Act.put, List.setIfInBounds_toArray, List.set_cons_zero, List.set_cons_succ, i64_w, i32_w]
          rfl
         refine pure_ (i := 18) (N := some 82) (v := ?_) (a' := ?_) (bN 23 1572863) rfl rfl (any_of HT_.out (by kernel_rfl)) (fun _ _ _ h => h) (Or.inl ⟨by rfl, ?_⟩) ?_ ?_
         rotate_left
         ·intro w'
          go_simp
          with_reducible rfl
         rotate_left
         ·simp only [Act.put, List.setIfInBounds_toArray, List.set_cons_zero, List.set_cons_succ, i64_w, i32_w]
          rfl
         refine pure_ (i := 19) (N := some 83) (v := ?_) (a' := ?_) (bN 23 2097151) rfl rfl (any_of HT_.out (by kernel_rfl)) (fun _ _ _ h => h) (Or.inl ⟨by rfl, ?_⟩) ?_ ?_
         rotate_left
         ·intro w'
          go_simp
          with_reducible rfl
         rotate_left
         ·simp only [Act.put, List.setIfInBounds_toArray, List.set_cons_zero, List.set_cons_succ, i64_w, i32_w]
          rfl
         exact norm_ (by simp only [putAll, Act.put, List.setIfInBounds_toArray, List.set_cons_zero, List.set_cons_succ]) (hCont (v398, gb401) _ ⟨hHeld, (by (with_reducible repeat (first | apply Kd.R_alloc | apply Kd.R_drewN | apply Kd.R_drew)); exact Kd.R_mono HO399.out (fun _ hk => hk.2)), (by (with_reducible repeat (first | apply Kd.R_alloc | apply Kd.R_drewN | apply Kd.R_drew)); exact Kd.R_mono HO_385001.out (fun _ hk => hk.2)), (by (with_reducible repeat (first | apply Kd.R_alloc | apply Kd.R_drewN | apply Kd.R_drew)); exact HO_7.out), (by (with_reducible repeat (first | refine blk_drewN ?_ _ | refine blk_drew ?_ | refine blk_alloc ?_ _)); exact BK384.out), (by (with_reducible repeat (first | refine blk_drewN ?_ _ | refine blk_drew ?_ | refine blk_alloc ?_ _)); exact BK401.out), GW401.out, GE401.out, NB384_401.out, NB401_384.out, (by repeat (first | (with_reducible first | exact HB.out | apply below_alloc | apply pw_below_drewN | apply below_drew1 | refine below_set ?_ GE384.out | refine below_set ?_ GE401.out) | exact HB.out))⟩)
       rintro ⟨v398, gb401⟩ w49 ⟨hS_, h0_, h1_, h2_, h3_, h4_, h5_, h6_, h7_, h8_, h9_⟩
       have n0_ : Aside0 (Kd.R k31 31 w49 w.heap.size (fun k_ => some k_ ≠ (.slice Ao45 x385001_2.length co45 : Value).ownBlock) v398 t397) := ⟨h0_⟩
       have n1_ : Aside0 (Kd.R k31 31 w49 w.heap.size (fun k_ => some k_ ≠ (v398 : Value).ownBlock) (.slice Ao45 x385001_2.length co45) x385001_2) := ⟨h1_⟩
       have n2_ : Aside0 (Kd.R (Kd.int .u8) 5 w49 w.heap.size (fun _ => True) u7 x7_1) := ⟨h2_⟩
       have n3_ : Aside0 (w49.heap[gb384]? = some (.cells #[.string x385000_2, .slice Ao45 x385001_2.length co45] 25 (0, 0))) := ⟨h3_⟩
       have n4_ : Aside0 (w49.heap[gb401]? = some (.cells #[.string (⟨#[]⟩ : ByteArray), .slice none 0 0] 25 (0, 0))) := ⟨h4_⟩
       have n5_ : Aside0 (w.heap.size ≤ gb401) := ⟨h5_⟩
       have n6_ : Aside0 (w.heap.size ≤ gb401) := ⟨h6_⟩
       have n7_ : Aside0 (gb384 ≠ gb401) := ⟨h7_⟩
       have n8_ : Aside0 (gb401 ≠ gb384) := ⟨h8_⟩
       have n9_ : Aside0 (Below w.heap.size w w49) := ⟨h9_⟩
       clear HO_7
       clear HO_385001
       clear BK384
       clear HB
       clear h0_ h1_ h2_ h3_ h4_ h5_ h6_ h7_ h8_ h9_
       have HO399 := n0_
       have HO_385001 := n1_
       have HO_7 := n2_
       have BK384 := n3_
       have BK401 := n4_
       have GW401 := n5_
       have GE401 := n6_
       have NB384_401 := n7_
       have NB401_384 := n8_
       have HB := n9_
       clear n0_ n1_ n2_ n3_ n4_ n5_ n6_ n7_ n8_ n9_
       have hHeld : w49.cell? ⟨gb384, 0, none⟩ = some (.string x385000_2) ∧ w49.cell? ⟨gb384, 1, none⟩ = some (.slice Ao45 x385001_2.length co45) ∧ w49.cell? (ad393.add ((x9_2).toNat * 3)) = some (.int .i64 ((rd_T34 l1 x9_2).f0)) ∧ w49.cell? ⟨(ad393.add ((x9_2).toNat * 3)).block, (ad393.add ((x9_2).toNat * 3)).off + 1, none⟩ = some (.int .i64 ((rd_T34 l1 x9_2).f1)) ∧ w49.cell? ⟨(ad393.add ((x9_2).toNat * 3)).block, (ad393.add ((x9_2).toNat * 3)).off + 2, none⟩ = some (.int .i64 ((rd_T34 l1 x9_2).f2)) ∧ w49.cell? (ad393.add ((x9_2).toNat * 3)) = some (.int .i64 ((rd_T34 l1 x9_2).f0)) ∧ w49.cell? ⟨(ad393.add ((x9_2).toNat * 3)).block, (ad393.add ((x9_2).toNat * 3)).off + 1, none⟩ = some (.int .i64 ((rd_T34 l1 x9_2).f1)) ∧ w49.cell? ⟨(ad393.add ((x9_2).toNat * 3)).block, (ad393.add ((x9_2).toNat * 3)).off + 2, none⟩ = some (.int .i64 ((rd_T34 l1 x9_2).f2)) ∧ w49.cell? (ad393.add ((x9_2).toNat * 3)) = some (.int .i64 ((rd_T34 l1 x9_2).f0)) ∧ w49.cell? ⟨(ad393.add ((x9_2).toNat * 3)).block, (ad393.add ((x9_2).toNat * 3)).off + 1, none⟩ = some (.int .i64 ((rd_T34 l1 x9_2).f1)) ∧ w49.cell? ⟨(ad393.add ((x9_2).toNat * 3)).block, (ad393.add ((x9_2).toNat * 3)).off + 2, none⟩ = some (.int .i64 ((rd_T34 l1 x9_2).f2)) := hS_
       obtain ⟨Ao51, co51, eo51⟩ := Kd.R_slice HO399.out
       (first | subst eo51 | (injection eo51 with f1_ f2_ f3_; have f4_ := f1_.symm; have f5_ := f3_.symm; clear f1_ f2_ f3_; subst f4_; subst f5_))
       refine norm_ (a' := ?_) ?_ ?_
       rotate_left
       ·simp only [putAll, Act.put, List.setIfInBounds_toArray, List.set_cons_zero, List.set_cons_succ]
        rfl
       refine one_ (i := 21) (N := none) #[true, true, true, true, true, true, true, true, true, true, true, true, true, true, true, true, true, true, true, true, true, true, false] rfl rfl (Go.Proofs.YtffldajbnhbkkaaDoorW.PrintLast.one_of HT_.out (by kernel_rfl)) (by decide) (fun K hK => ?_)
       have hs50 : w49.cell? ⟨gb401, 0, none⟩ = some (.string (⟨#[]⟩ : ByteArray)) := (blk_cell BK401.out 0).trans rfl
       have hfs50 := blk_frozen BK401.out 0
       have hns50_0 := NB384_401.out
       have hms50_0 := NB401_384.out
       have hs52 : w49.cell? ⟨gb401, 1, none⟩ = some (.slice none 0 0) := (blk_cell BK401.out 1).trans rfl
       have hfs52 := blk_frozen BK401.out 1
       have hns52_0 := NB384_401.out
       have hms52_0 := NB401_384.out
       refine skip_ (w1 := ?_) (by rfl) rfl ?_ ?_
       rotate_left
       ·go_simp
        rfl
       refine hK.out _ _ ⟨((cell_far (p := ⟨gb401, _, none⟩) NB384_401.out _).trans (((cell_far (p := ⟨gb401, _, none⟩) NB384_401.out _).trans (hHeld.1)))), ((cell_far (p := ⟨gb401, _, none⟩) NB384_401.out _).trans (((cell_far (p := ⟨gb401, _, none⟩) NB384_401.out _).trans (hHeld.2.1)))), ((cell_far (p := ⟨gb401, _, none⟩) (by first | exact Nat.ne_of_lt (Nat.lt_of_lt_of_le (by have := World.block_lt_of_cell? _ _ hw393_0; first | rwa [add_block] at this | exact this) GW401.out) | (rw [add_block]; exact Nat.ne_of_lt (Nat.lt_of_lt_of_le (by have := World.block_lt_of_cell? _ _ hw393_0; first | rwa [add_block] at this | exact this) GW401.out)) | (show (Addr.add _ _).block ≠ _; rw [add_block]; exact Nat.ne_of_lt (Nat.lt_of_lt_of_le (by have := World.block_lt_of_cell? _ _ hw393_0; first | rwa [add_block] at this | exact this) GW401.out)) | (dsimp only; exact Nat.ne_of_lt (Nat.lt_of_lt_of_le (by have := World.block_lt_of_cell? _ _ hw393_0; first | rwa [add_block] at this | exact this) GW401.out))) _).trans (((cell_far (p := ⟨gb401, _, none⟩) (by first | exact Nat.ne_of_lt (Nat.lt_of_lt_of_le (by have := World.block_lt_of_cell? _ _ hw393_0; first | rwa [add_block] at this | exact this) GW401.out) | (rw [add_block]; exact Nat.ne_of_lt (Nat.lt_of_lt_of_le (by have := World.block_lt_of_cell? _ _ hw393_0; first | rwa [add_block] at this | exact this) GW401.out)) | (show (Addr.add _ _).block ≠ _; rw [add_block]; exact Nat.ne_of_lt (Nat.lt_of_lt_of_le (by have := World.block_lt_of_cell? _ _ hw393_0; first | rwa [add_block] at this | exact this) GW401.out)) | (dsimp only; exact Nat.ne_of_lt (Nat.lt_of_lt_of_le (by have := World.block_lt_of_cell? _ _ hw393_0; first | rwa [add_block] at this | exact this) GW401.out))) _).trans (hHeld.2.2.1)))), ((cell_far (p := ⟨gb401, _, none⟩) (by first | exact Nat.ne_of_lt (Nat.lt_of_lt_of_le (by have := World.block_lt_of_cell? _ _ hw393_1; first | rwa [add_block] at this | exact this) GW401.out) | (rw [add_block]; exact Nat.ne_of_lt (Nat.lt_of_lt_of_le (by have := World.block_lt_of_cell? _ _ hw393_1; first | rwa [add_block] at this | exact this) GW401.out)) | (show (Addr.add _ _).block ≠ _; rw [add_block]; exact Nat.ne_of_lt (Nat.lt_of_lt_of_le (by have := World.block_lt_of_cell? _ _ hw393_1; first | rwa [add_block] at this | exact this) GW401.out)) | (dsimp only; exact Nat.ne_of_lt (Nat.lt_of_lt_of_le (by have := World.block_lt_of_cell? _ _ hw393_1; first | rwa [add_block] at this | exact this) GW401.out))) _).trans (((cell_far (p := ⟨gb401, _, none⟩) (by first | exact Nat.ne_of_lt (Nat.lt_of_lt_of_le (by have := World.block_lt_of_cell? _ _ hw393_1; first | rwa [add_block] at this | exact this) GW401.out) | (rw [add_block]; exact Nat.ne_of_lt (Nat.lt_of_lt_of_le (by have := World.block_lt_of_cell? _ _ hw393_1; first | rwa [add_block] at this | exact this) GW401.out)) | (show (Addr.add _ _).block ≠ _; rw [add_block]; exact Nat.ne_of_lt (Nat.lt_of_lt_of_le (by have := World.block_lt_of_cell? _ _ hw393_1; first | rwa [add_block] at this | exact this) GW401.out)) | (dsimp only; exact Nat.ne_of_lt (Nat.lt_of_lt_of_le (by have := World.block_lt_of_cell? _ _ hw393_1; first | rwa [add_block] at this | exact this) GW401.out))) _).trans (hHeld.2.2.2.1)))), ((cell_far (p := ⟨gb401, _, none⟩) (by first | exact Nat.ne_of_lt (Nat.lt_of_lt_of_le (by have := World.block_lt_of_cell? _ _ hw393_2; first | rwa [add_block] at this | exact this) GW401.out) | (rw [add_block]; exact Nat.ne_of_lt (Nat.lt_of_lt_of_le (by have := World.block_lt_of_cell? _ _ hw393_2; first | rwa [add_block] at this | exact this) GW401.out)) | (show (Addr.add _ _).block ≠ _; rw [add_block]; exact Nat.ne_of_lt (Nat.lt_of_lt_of_le (by have := World.block_lt_of_cell? _ _ hw393_2; first | rwa [add_block] at this | exact this) GW401.out)) | (dsimp only; exact Nat.ne_of_lt (Nat.lt_of_lt_of_le (by have := World.block_lt_of_cell? _ _ hw393_2; first | rwa [add_block] at this | exact this) GW401.out))) _).trans (((cell_far (p := ⟨gb401, _, none⟩) (by first | exact Nat.ne_of_lt (Nat.lt_of_lt_of_le (by have := World.block_lt_of_cell? _ _ hw393_2; first | rwa [add_block] at this | exact this) GW401.out) | (rw [add_block]; exact Nat.ne_of_lt (Nat.lt_of_lt_of_le (by have := World.block_lt_of_cell? _ _ hw393_2; first | rwa [add_block] at this | exact this) GW401.out)) | (show (Addr.add _ _).block ≠ _; rw [add_block]; exact Nat.ne_of_lt (Nat.lt_of_lt_of_le (by have := World.block_lt_of_cell? _ _ hw393_2; first | rwa [add_block] at this | exact this) GW401.out)) | (dsimp only; exact Nat.ne_of_lt (Nat.lt_of_lt_of_le (by have := World.block_lt_of_cell? _ _ hw393_2; first | rwa [add_block] at this | exact this) GW401.out))) _).trans (hHeld.2.2.2.2.1)))), ((cell_far (p := ⟨gb401, _, none⟩) (by first | exact Nat.ne_of_lt (Nat.lt_of_lt_of_le (by have := World.block_lt_of_cell? _ _ hw394_0; first | rwa [add_block] at this | exact this) GW401.out) | (rw [add_block]; exact Nat.ne_of_lt (Nat.lt_of_lt_of_le (by have := World.block_lt_of_cell? _ _ hw394_0; first | rwa [add_block] at this | exact this) GW401.out)) | (show (Addr.add _ _).block ≠ _; rw [add_block]; exact Nat.ne_of_lt (Nat.lt_of_lt_of_le (by have := World.block_lt_of_cell? _ _ hw394_0; first | rwa [add_block] at this | exact this) GW401.out)) | (dsimp only; exact Nat.ne_of_lt (Nat.lt_of_lt_of_le (by have := World.block_lt_of_cell? _ _ hw394_0; first | rwa [add_block] at this | exact this) GW401.out))) _).trans (((cell_far (p := ⟨gb401, _, none⟩) (by first | exact Nat.ne_of_lt (Nat.lt_of_lt_of_le (by have := World.block_lt_of_cell? _ _ hw394_0; first | rwa [add_block] at this | exact this) GW401.out) | (rw [add_block]; exact Nat.ne_of_lt (Nat.lt_of_lt_of_le (by have := World.block_lt_of_cell? _ _ hw394_0; first | rwa [add_block] at this | exact this) GW401.out)) | (show (Addr.add _ _).block ≠ _; rw [add_block]; exact Nat.ne_of_lt (Nat.lt_of_lt_of_le (by have := World.block_lt_of_cell? _ _ hw394_0; first | rwa [add_block] at this | exact this) GW401.out)) | (dsimp only; exact Nat.ne_of_lt (Nat.lt_of_lt_of_le (by have := World.block_lt_of_cell? _ _ hw394_0; first | rwa [add_block] at this | exact this) GW401.out))) _).trans (hHeld.2.2.2.2.2.1)))), ((cell_far (p := ⟨gb401, _, none⟩) (by first | exact Nat.ne_of_lt (Nat.lt_of_lt_of_le (by have := World.block_lt_of_cell? _ _ hw394_1; first | rwa [add_block] at this | exact this) GW401.out) | (rw [add_block]; exact Nat.ne_of_lt (Nat.lt_of_lt_of_le (by have := World.block_lt_of_cell? _ _ hw394_1; first | rwa [add_block] at this | exact this) GW401.out)) | (show (Addr.add _ _).block ≠ _; rw [add_block]; exact Nat.ne_of_lt (Nat.lt_of_lt_of_le (by have := World.block_lt_of_cell? _ _ hw394_1; first | rwa [add_block] at this | exact this) GW401.out)) | (dsimp only; exact Nat.ne_of_lt (Nat.lt_of_lt_of_le (by have := World.block_lt_of_cell? _ _ hw394_1; first | rwa [add_block] at this | exact this) GW401.out))) _).trans (((cell_far (p := ⟨gb401, _, none⟩) (by first | exact Nat.ne_of_lt (Nat.lt_of_lt_of_le (by have := World.block_lt_of_cell? _ _ hw394_1; first | rwa [add_block] at this | exact this) GW401.out) | (rw [add_block]; exact Nat.ne_of_lt (Nat.lt_of_lt_of_le (by have := World.block_lt_of_cell? _ _ hw394_1; first | rwa [add_block] at this | exact this) GW401.out)) | (show (Addr.add _ _).block ≠ _; rw [add_block]; exact Nat.ne_of_lt (Nat.lt_of_lt_of_le (by have := World.block_lt_of_cell? _ _ hw394_1; first | rwa [add_block] at this | exact this) GW401.out)) | (dsimp only; exact Nat.ne_of_lt (Nat.lt_of_lt_of_le (by have := World.block_lt_of_cell? _ _ hw394_1; first | rwa [add_block] at this | exact this) GW401.out))) _).trans (hHeld.2.2.2.2.2.2.1)))), ((cell_far (p := ⟨gb401, _, none⟩) (by first | exact Nat.ne_of_lt (Nat.lt_of_lt_of_le (by have := World.block_lt_of_cell? _ _ hw394_2; first | rwa [add_block] at this | exact this) GW401.out) | (rw [add_block]; exact Nat.ne_of_lt (Nat.lt_of_lt_of_le (by have := World.block_lt_of_cell? _ _ hw394_2; first | rwa [add_block] at this | exact this) GW401.out)) | (show (Addr.add _ _).block ≠ _; rw [add_block]; exact Nat.ne_of_lt (Nat.lt_of_lt_of_le (by have := World.block_lt_of_cell? _ _ hw394_2; first | rwa [add_block] at this | exact this) GW401.out)) | (dsimp only; exact Nat.ne_of_lt (Nat.lt_of_lt_of_le (by have := World.block_lt_of_cell? _ _ hw394_2; first | rwa [add_block] at this | exact this) GW401.out))) _).trans (((cell_far (p := ⟨gb401, _, none⟩) (by first | exact Nat.ne_of_lt (Nat.lt_of_lt_of_le (by have := World.block_lt_of_cell? _ _ hw394_2; first | rwa [add_block] at this | exact this) GW401.out) | (rw [add_block]; exact Nat.ne_of_lt (Nat.lt_of_lt_of_le (by have := World.block_lt_of_cell? _ _ hw394_2; first | rwa [add_block] at this | exact this) GW401.out)) | (show (Addr.add _ _).block ≠ _; rw [add_block]; exact Nat.ne_of_lt (Nat.lt_of_lt_of_le (by have := World.block_lt_of_cell? _ _ hw394_2; first | rwa [add_block] at this | exact this) GW401.out)) | (dsimp only; exact Nat.ne_of_lt (Nat.lt_of_lt_of_le (by have := World.block_lt_of_cell? _ _ hw394_2; first | rwa [add_block] at this | exact this) GW401.out))) _).trans (hHeld.2.2.2.2.2.2.2.1)))), ((cell_far (p := ⟨gb401, _, none⟩) (by first | exact Nat.ne_of_lt (Nat.lt_of_lt_of_le (by have := World.block_lt_of_cell? _ _ hw395_0; first | rwa [add_block] at this | exact this) GW401.out) | (rw [add_block]; exact Nat.ne_of_lt (Nat.lt_of_lt_of_le (by have := World.block_lt_of_cell? _ _ hw395_0; first | rwa [add_block] at this | exact this) GW401.out)) | (show (Addr.add _ _).block ≠ _; rw [add_block]; exact Nat.ne_of_lt (Nat.lt_of_lt_of_le (by have := World.block_lt_of_cell? _ _ hw395_0; first | rwa [add_block] at this | exact this) GW401.out)) | (dsimp only; exact Nat.ne_of_lt (Nat.lt_of_lt_of_le (by have := World.block_lt_of_cell? _ _ hw395_0; first | rwa [add_block] at this | exact this) GW401.out))) _).trans (((cell_far (p := ⟨gb401, _, none⟩) (by first | exact Nat.ne_of_lt (Nat.lt_of_lt_of_le (by have := World.block_lt_of_cell? _ _ hw395_0; first | rwa [add_block] at this | exact this) GW401.out) | (rw [add_block]; exact Nat.ne_of_lt (Nat.lt_of_lt_of_le (by have := World.block_lt_of_cell? _ _ hw395_0; first | rwa [add_block] at this | exact this) GW401.out)) | (show (Addr.add _ _).block ≠ _; rw [add_block]; exact Nat.ne_of_lt (Nat.lt_of_lt_of_le (by have := World.block_lt_of_cell? _ _ hw395_0; first | rwa [add_block] at this | exact this) GW401.out)) | (dsimp only; exact Nat.ne_of_lt (Nat.lt_of_lt_of_le (by have := World.block_lt_of_cell? _ _ hw395_0; first | rwa [add_block] at this | exact this) GW401.out))) _).trans (hHeld.2.2.2.2.2.2.2.2.1)))), ((cell_far (p := ⟨gb401, _, none⟩) (by first | exact Nat.ne_of_lt (Nat.lt_of_lt_of_le (by have := World.block_lt_of_cell? _ _ hw395_1; first | rwa [add_block] at this | exact this) GW401.out) | (rw [add_block]; exact Nat.ne_of_lt (Nat.lt_of_lt_of_le (by have := World.block_lt_of_cell? _ _ hw395_1; first | rwa [add_block] at this | exact this) GW401.out)) | (show (Addr.add _ _).block ≠ _; rw [add_block]; exact Nat.ne_of_lt (Nat.lt_of_lt_of_le (by have := World.block_lt_of_cell? _ _ hw395_1; first | rwa [add_block] at this | exact this) GW401.out)) | (dsimp only; exact Nat.ne_of_lt (Nat.lt_of_lt_of_le (by have := World.block_lt_of_cell? _ _ hw395_1; first | rwa [add_block] at this | exact this) GW401.out))) _).trans (((cell_far (p := ⟨gb401, _, none⟩) (by first | exact Nat.ne_of_lt (Nat.lt_of_lt_of_le (by have := World.block_lt_of_cell? _ _ hw395_1; first | rwa [add_block] at this | exact this) GW401.out) | (rw [add_block]; exact Nat.ne_of_lt (Nat.lt_of_lt_of_le (by have := World.block_lt_of_cell? _ _ hw395_1; first | rwa [add_block] at this | exact this) GW401.out)) | (show (Addr.add _ _).block ≠ _; rw [add_block]; exact Nat.ne_of_lt (Nat.lt_of_lt_of_le (by have := World.block_lt_of_cell? _ _ hw395_1; first | rwa [add_block] at this | exact this) GW401.out)) | (dsimp only; exact Nat.ne_of_lt (Nat.lt_of_lt_of_le (by have := World.block_lt_of_cell? _ _ hw395_1; first | rwa [add_block] at this | exact this) GW401.out))) _).trans (hHeld.2.2.2.2.2.2.2.2.2.1)))), ((cell_far (p := ⟨gb401, _, none⟩) (by first | exact Nat.ne_of_lt (Nat.lt_of_lt_of_le (by have := World.block_lt_of_cell? _ _ hw395_2; first | rwa [add_block] at this | exact this) GW401.out) | (rw [add_block]; exact Nat.ne_of_lt (Nat.lt_of_lt_of_le (by have := World.block_lt_of_cell? _ _ hw395_2; first | rwa [add_block] at this | exact this) GW401.out)) | (show (Addr.add _ _).block ≠ _; rw [add_block]; exact Nat.ne_of_lt (Nat.lt_of_lt_of_le (by have := World.block_lt_of_cell? _ _ hw395_2; first | rwa [add_block] at this | exact this) GW401.out)) | (dsimp only; exact Nat.ne_of_lt (Nat.lt_of_lt_of_le (by have := World.block_lt_of_cell? _ _ hw395_2; first | rwa [add_block] at this | exact this) GW401.out))) _).trans (((cell_far (p := ⟨gb401, _, none⟩) (by first | exact Nat.ne_of_lt (Nat.lt_of_lt_of_le (by have := World.block_lt_of_cell? _ _ hw395_2; first | rwa [add_block] at this | exact this) GW401.out) | (rw [add_block]; exact Nat.ne_of_lt (Nat.lt_of_lt_of_le (by have := World.block_lt_of_cell? _ _ hw395_2; first | rwa [add_block] at this | exact this) GW401.out)) | (show (Addr.add _ _).block ≠ _; rw [add_block]; exact Nat.ne_of_lt (Nat.lt_of_lt_of_le (by have := World.block_lt_of_cell? _ _ hw395_2; first | rwa [add_block] at this | exact this) GW401.out)) | (dsimp only; exact Nat.ne_of_lt (Nat.lt_of_lt_of_le (by have := World.block_lt_of_cell? _ _ hw395_2; first | rwa [add_block] at this | exact this) GW401.out))) _).trans (hHeld.2.2.2.2.2.2.2.2.2.2))))⟩ (fun hHeld => ?_)
       clear hK K
       refine pure_ (i := 22) (N := some 11) (v := ?_) (a' := ?_) (bN 23 8388607) rfl rfl (any_of HT_.out (by kernel_rfl)) (fun _ _ _ h => h) (Or.inl ⟨by rfl, ?_⟩) ?_ ?_
       rotate_left
       ·intro w'
        go_simp
        with_reducible rfl
       rotate_left
       ·simp only [Act.put, List.setIfInBounds_toArray, List.set_cons_zero, List.set_cons_succ, i64_w, i32_w]
        rfl
       refine done_ (done_of HT_.out (by kernel_rfl)) ?_
       try go_wp2
       go_roundg k2
       case measure => have := HK1.out; have := HK2.out; omega
       case rel => exact ⟨(wrap64 (x9_2 + 1)), (x385000_2), (x385001_2), (.slice Ao45 x385001_2.length co45), (by first | rfl | (simp; done) | (simp [*]; done)), H', ⟨by have := HK1.out; have := HK2.out; omega⟩, ⟨by (with_reducible repeat (first | apply Kd.R_alloc | apply Kd.R_drewN | apply Kd.R_drew)); exact Kd.R_mono (Kd.R_far (p := ⟨gb401, 1, none⟩) (Kd.R_far (p := ⟨gb401, 0, none⟩) (Kd.R_types HO_7.out BK401.out (by decide)) (fun _ hk => hk.2) (.string t396)) (fun _ hk => hk.2) (.slice Ao51 t397.length co51)) (fun _ hk => trivial)⟩, ⟨by (with_reducible repeat (first | apply Kd.R_alloc | apply Kd.R_drewN | apply Kd.R_drew)); exact Kd.R_mono (Kd.R_far (p := ⟨gb401, 1, none⟩) (Kd.R_far (p := ⟨gb401, 0, none⟩) (Kd.R_types HO_385001.out BK401.out (by decide)) (fun _ hk => hk.2) (.string t396)) (fun _ hk => hk.2) (.slice Ao51 t397.length co51)) (fun _ hk => trivial)⟩, ⟨by (with_reducible repeat (first | refine blk_drewN ?_ _ | refine blk_drew ?_ | refine blk_alloc ?_ _)); refine blk_far ?_ NB384_401.out _; (with_reducible repeat (first | refine blk_drewN ?_ _ | refine blk_drew ?_ | refine blk_alloc ?_ _)); refine blk_far ?_ NB384_401.out _; (with_reducible repeat (first | refine blk_drewN ?_ _ | refine blk_drew ?_ | refine blk_alloc ?_ _)); exact BK384.out⟩, ⟨by repeat (first | (with_reducible first | exact HB.out | apply below_alloc | apply pw_below_drewN | apply below_drew1 | refine below_set ?_ GE384.out | refine below_set ?_ GE401.out) | exact HB.out)⟩⟩
      rw [if_pos c21] at H
      have c21b0 : (t400 == 0) = true := beq_iff_eq.mpr c21
      have c21b1 : (t400 != 0) = false := bne_eq_false_iff_eq.mpr c21
      clear c21
      by_cases c22 : (t397.length : Int) = (wrap64 ((x385001_2.length : Int) + 1))
      rotate_left
      ·rw [if_neg c22] at H
       exact absurd H (by simp)
      rw [if_pos c22] at H
      have c22b0 : ((t397.length : Int) == (wrap64 ((x385001_2.length : Int) + 1))) = true := beq_iff_eq.mpr c22
      have c22b1 : ((t397.length : Int) != (wrap64 ((x385001_2.length : Int) + 1))) = false := bne_eq_false_iff_eq.mpr c22
      clear c22
      have H' := Aside0.mk H
      clear H
      obtain ⟨Ao23, co23, eo23⟩ := Kd.R_slice HO_385001.out
      subst eo23
      try go_wp2
      have n0_ := Aside0.mk (Kd.R_drew HO_7.out)
      have n1_ := Aside0.mk (Kd.R_drew HO_385001.out)
      have n2_ := Aside0.mk (blk_drew BK384.out)
      have n3_ := Aside0.mk (below_drew1 HB.out)
      clear HO_7
      clear HO_385001
      clear BK384
      clear HB
      have HO_7 := n0_
      have HO_385001 := n1_
      have BK384 := n2_
      have HB := n3_
      clear n0_ n1_ n2_ n3_
      have p393 : 0 ≤ (x9_2 : Int) := of_decide_eq_true (by first | (with_reducible assumption) | assumption)
      have q393 : x9_2 < (l1.length : Int) := of_decide_eq_true (by first | (with_reducible assumption) | assumption)
      obtain ⟨ad393, e393, hx393_0, hx393_1, hx393_2⟩ := at_T34 HR1.out x9_2 p393 q393
      have hw393_2 := hx393_2
      have hw393_1 := hx393_1
      have hw393_0 := hx393_0
      cases e393
      replace hx393_0 := bce HB.out hx393_0
      replace hx393_1 := bce HB.out hx393_1
      replace hx393_2 := bce HB.out hx393_2
      replace p393 := eq_true p393
      replace q393 := eq_true q393
      have p394 : 0 ≤ (x9_2 : Int) := of_decide_eq_true (by first | (with_reducible assumption) | assumption)
      have q394 : x9_2 < (l1.length : Int) := of_decide_eq_true (by first | (with_reducible assumption) | assumption)
      obtain ⟨ad394, e394, hx394_0, hx394_1, hx394_2⟩ := at_T34 HR1.out x9_2 p394 q394
      have hw394_2 := hx394_2
      have hw394_1 := hx394_1
      have hw394_0 := hx394_0
      obtain rfl : ad393 = ad394 := (by injection e394)
      replace hx394_0 := bce HB.out hx394_0
      replace hx394_1 := bce HB.out hx394_1
      replace hx394_2 := bce HB.out hx394_2
      replace p394 := eq_true p394
      replace q394 := eq_true q394
      have p395 : 0 ≤ (x9_2 : Int) := of_decide_eq_true (by first | (with_reducible assumption) | assumption)
      have q395 : x9_2 < (l1.length : Int) := of_decide_eq_true (by first | (with_reducible assumption) | assumption)
      obtain ⟨ad395, e395, hx395_0, hx395_1, hx395_2⟩ := at_T34 HR1.out x9_2 p395 q395
      have hw395_2 := hx395_2
      have hw395_1 := hx395_1
      have hw395_0 := hx395_0
      obtain rfl : ad393 = ad395 := (by injection e395)
      replace hx395_0 := bce HB.out hx395_0
      replace hx395_1 := bce HB.out hx395_1
      replace hx395_2 := bce HB.out hx395_2
      replace p395 := eq_true p395
      replace q395 := eq_true q395
      refine start_ (n := 23) (S := fun w' => w'.cell? ⟨gb384, 0, none⟩ = some (.string x385000_2) ∧ w'.cell? ⟨gb384, 1, none⟩ = some (.slice Ao23 x385001_2.length co23) ∧ w'.cell? (ad393.add ((x9_2).toNat * 3)) = some (.int .i64 ((rd_T34 l1 x9_2).f0)) ∧ w'.cell? ⟨(ad393.add ((x9_2).toNat * 3)).block, (ad393.add ((x9_2).toNat * 3)).off + 1, none⟩ = some (.int .i64 ((rd_T34 l1 x9_2).f1)) ∧ w'.cell? ⟨(ad393.add ((x9_2).toNat * 3)).block, (ad393.add ((x9_2).toNat * 3)).off + 2, none⟩ = some (.int .i64 ((rd_T34 l1 x9_2).f2)) ∧ w'.cell? (ad393.add ((x9_2).toNat * 3)) = some (.int .i64 ((rd_T34 l1 x9_2).f0)) ∧ w'.cell? ⟨(ad393.add ((x9_2).toNat * 3)).block, (ad393.add ((x9_2).toNat * 3)).off + 1, none⟩ = some (.int .i64 ((rd_T34 l1 x9_2).f1)) ∧ w'.cell? ⟨(ad393.add ((x9_2).toNat * 3)).block, (ad393.add ((x9_2).toNat * 3)).off + 2, none⟩ = some (.int .i64 ((rd_T34 l1 x9_2).f2)) ∧ w'.cell? (ad393.add ((x9_2).toNat * 3)) = some (.int .i64 ((rd_T34 l1 x9_2).f0)) ∧ w'.cell? ⟨(ad393.add ((x9_2).toNat * 3)).block, (ad393.add ((x9_2).toNat * 3)).off + 1, none⟩ = some (.int .i64 ((rd_T34 l1 x9_2).f1)) ∧ w'.cell? ⟨(ad393.add ((x9_2).toNat * 3)).block, (ad393.add ((x9_2).toNat * 3)).off + 2, none⟩ = some (.int .i64 ((rd_T34 l1 x9_2).f2))) (ds := []) #[false, false, false, false, false, false, false, false, false, false, false, false, false, false, false, false, false, false, false, false, false, false, false] (by kernel_rfl) rfl rfl ⟨(blk_cell BK384.out 0).trans rfl, (blk_cell BK384.out 1).trans rfl, (bce HB.out hw393_0), (bce HB.out hw393_1), (bce HB.out hw393_2), (bce HB.out hw394_0), (bce HB.out hw394_1), (bce HB.out hw394_2), (bce HB.out hw395_0), (bce HB.out hw395_1), (bce HB.out hw395_2)⟩ (fun hHeld => ?_); refine with_tabW fCover.tab14 fCover.bits14 (fun HT_ HW_ => ?_)
      generalize wr.drew = w24 at HO_7 HO_385001 BK384 HB hx393_0 hx393_1 hx393_2 hx394_0 hx394_1 hx394_2 hx395_0 hx395_1 hx395_2 hHeld ⊢
      refine pure_ (i := 1) (N := some 66) (v := ?_) (a' := ?_) (bN 23 2) rfl rfl (any_of HT_.out (by kernel_rfl)) (fun _ _ _ h => h) (Or.inl ⟨by rfl, ?_⟩) ?_ ?_
      rotate_left
      ·intro w'
       go_simp
       with_reducible rfl
      rotate_left
      ·simp only [Act.put, List.setIfInBounds_toArray, List.set_cons_zero, List.set_cons_succ, i64_w, i32_w]
       rfl
      refine pure_ (i := 2) (N := some 67) (v := ?_) (a' := ?_) (bN 23 6) rfl rfl (any_of HT_.out (by kernel_rfl)) (fun _ _ _ h => h) (Or.inl ⟨by rfl, ?_⟩) ?_ ?_
      rotate_left
      ·intro w'
       go_simp
       with_reducible rfl
      rotate_left
      ·simp only [Act.put, List.setIfInBounds_toArray, List.set_cons_zero, List.set_cons_succ, i64_w, i32_w]
       rfl
      refine pure_ (i := 3) (N := some 68) (v := ?_) (a' := ?_) (bN 23 14) rfl rfl (any_of HT_.out (by kernel_rfl)) (fun _ _ _ h => h) (Or.inl ⟨by rfl, ?_⟩) ?_ ?_
      rotate_left
      ·intro w'
       go_simp
       with_reducible rfl
      rotate_left
      ·simp only [Act.put, List.setIfInBounds_toArray, List.set_cons_zero, List.set_cons_succ, i64_w, i32_w]
       rfl
      refine pure_ (i := 4) (N := some 69) (v := ?_) (a' := ?_) (bN 23 30) rfl rfl (any_of HT_.out (by kernel_rfl)) (fun _ _ _ h => h) (Or.inl ⟨by rfl, ?_⟩) ?_ ?_
      rotate_left
      ·intro w'
       go_simp
       with_reducible rfl
      rotate_left
      ·simp only [Act.put, List.setIfInBounds_toArray, List.set_cons_zero, List.set_cons_succ, i64_w, i32_w]
       rfl
      refine pure_ (i := 6) (N := some 71) (v := ?_) (a' := ?_) (bN 23 94) rfl rfl (any_of HT_.out (by kernel_rfl)) (fun _ _ _ h => h) (Or.inl ⟨by rfl, ?_⟩) ?_ ?_
      rotate_left
      ·intro w'
       go_simp
       with_reducible rfl
      rotate_left
      ·simp only [Act.put, List.setIfInBounds_toArray, List.set_cons_zero, List.set_cons_succ, i64_w, i32_w]
       rfl
      refine pure_ (i := 7) (N := some 72) (v := ?_) (a' := ?_) (bN 23 222) rfl rfl (any_of HT_.out (by kernel_rfl)) (fun _ _ _ h => h) (Or.inl ⟨by rfl, ?_⟩) ?_ ?_
      rotate_left
      ·intro w'
       go_simp
       with_reducible rfl
      rotate_left
      ·simp only [Act.put, List.setIfInBounds_toArray, List.set_cons_zero, List.set_cons_succ, i64_w, i32_w]
       rfl
      refine pure_ (i := 8) (N := some 73) (v := ?_) (a' := ?_) (bN 23 478) rfl rfl (any_of HT_.out (by kernel_rfl)) (fun _ _ _ h => h) (Or.inl ⟨by rfl, ?_⟩) ?_ ?_
      rotate_left
      ·intro w'
       go_simp
       with_reducible rfl
      rotate_left
      ·simp only [Act.put, List.setIfInBounds_toArray, List.set_cons_zero, List.set_cons_succ, i64_w, i32_w]
       rfl
      refine pure_ (i := 9) (N := some 74) (v := ?_) (a' := ?_) (bN 23 990) rfl rfl (any_of HT_.out (by kernel_rfl)) (fun _ _ _ h => h) (Or.inl ⟨by rfl, ?_⟩) ?_ ?_
      rotate_left
      ·intro w'
       go_simp
       with_reducible rfl
      rotate_left
      ·simp only [Act.put, List.setIfInBounds_toArray, List.set_cons_zero, List.set_cons_succ, i64_w, i32_w]
       rfl
      refine pure_ (i := 11) (N := some 76) (v := ?_) (a' := ?_) (bN 23 3038) rfl rfl (any_of HT_.out (by kernel_rfl)) (fun _ _ _ h => h) (Or.inl ⟨by rfl, ?_⟩) ?_ ?_
      rotate_left
      ·intro w'
       go_simp
       with_reducible rfl
      rotate_left
      ·simp only [Act.put, List.setIfInBounds_toArray, List.set_cons_zero, List.set_cons_succ, i64_w, i32_w]
       rfl
      refine pure_ (i := 12) (N := some 77) (v := ?_) (a' := ?_) (bN 23 7134) rfl rfl (any_of HT_.out (by kernel_rfl)) (fun _ _ _ h => h) (Or.inl ⟨by rfl, ?_⟩) ?_ ?_
      rotate_left
      ·intro w'
       go_simp
       with_reducible rfl
      rotate_left
      ·simp only [Act.put, List.setIfInBounds_toArray, List.set_cons_zero, List.set_cons_succ, i64_w, i32_w]
       rfl
      refine pure_ (i := 13) (N := some 78) (v := ?_) (a' := ?_) (bN 23 15326) rfl rfl (any_of HT_.out (by kernel_rfl)) (fun _ _ _ h => h) (Or.inl ⟨by rfl, ?_⟩) ?_ ?_
      rotate_left
      ·intro w'
       go_simp
       with_reducible rfl
      rotate_left
      ·simp only [Act.put, List.setIfInBounds_toArray, List.set_cons_zero, List.set_cons_succ, i64_w, i32_w]
       rfl
      refine pure_ (i := 14) (N := some 79) (v := ?_) (a' := ?_) (bN 23 31710) rfl rfl (any_of HT_.out (by kernel_rfl)) (fun _ _ _ h => h) (Or.inl ⟨by rfl, ?_⟩) ?_ ?_
      rotate_left
      ·intro w'
       go_simp
       with_reducible rfl
      rotate_left
      ·simp only [Act.put, List.setIfInBounds_toArray, List.set_cons_zero, List.set_cons_succ, i64_w, i32_w]
       rfl
      refine take_ (i := 0) (N := some 65) (v := ?_) (a' := ?_) #[true, true, true, true, true, false, true, true, true, true, false, true, true, true, true, false, false, false, false, false, false, false, false] rfl rfl (take_ofW HT_.out HW_.out (by kernel_rfl)) (fun _ _ _ h => h) (Or.inl ⟨by rfl, ?_⟩) hHeld ?_ ?_
      rotate_left
      ·rintro w' ⟨s0, s1, s2, s3, s4, s5, s6, s7, s8, s9, s10⟩
       go_simp
       with_reducible rfl
      rotate_left
      ·simp only [Act.put, List.setIfInBounds_toArray, List.set_cons_zero, List.set_cons_succ, i64_w, i32_w]
       rfl
      refine take_ (i := 5) (N := some 70) (v := ?_) (a' := ?_) #[true, true, true, true, true, true, true, true, true, true, false, true, true, true, true, false, false, false, false, false, false, false, false] rfl rfl (take_ofW HT_.out HW_.out (by kernel_rfl)) (fun _ _ _ h => h) (Or.inl ⟨by rfl, ?_⟩) hHeld ?_ ?_
      rotate_left
      ·rintro w' ⟨s0, s1, s2, s3, s4, s5, s6, s7, s8, s9, s10⟩
       go_simp
       with_reducible rfl
      rotate_left
      ·simp only [Act.put, List.setIfInBounds_toArray, List.set_cons_zero, List.set_cons_succ, i64_w, i32_w]
       rfl
      refine take_ (i := 10) (N := some 75) (v := ?_) (a' := ?_) #[true, true, true, true, true, true, true, true, true, true, true, true, true, true, true, false, false, false, false, false, false, false, false] rfl rfl (take_ofW HT_.out HW_.out (by kernel_rfl)) (fun _ _ _ h => h) (Or.inl ⟨by rfl, ?_⟩) hHeld ?_ ?_
      rotate_left
      ·rintro w' ⟨s0, s1, s2, s3, s4, s5, s6, s7, s8, s9, s10⟩
       go_simp
       with_reducible rfl
      rotate_left
      ·simp only [Act.put, List.setIfInBounds_toArray, List.set_cons_zero, List.set_cons_succ, i64_w, i32_w]
       rfl
      refine take_ (i := 15) (N := some 80) (v := ?_) (a' := ?_) #[true, true, true, true, true, true, true, true, true, true, true, true, true, true, true, true, false, false, false, false, false, false, false] rfl rfl (take_ofW HT_.out HW_.out (by kernel_rfl)) (fun _ _ _ h => h) (Or.inl ⟨by rfl, ?_⟩) hHeld ?_ ?_
      rotate_left
      ·rintro w' ⟨s0, s1, s2, s3, s4, s5, s6, s7, s8, s9, s10⟩
       go_simp
       with_reducible rfl
      rotate_left
      ·simp only [Act.put, List.setIfInBounds_toArray, List.set_cons_zero, List.set_cons_succ, i64_w, i32_w]
       rfl
      refine join_ (σ := Value × Nat) 2 #[true, true, true, true, true, true, true, true, true, true, true, true, true, true, true, true, true, true, true, true, true, false, false] (fun s_ => [(81, .tuple #[.agg #[.string t396, s_.1], .int .i64 t400]), (10, .pointer (some ⟨s_.2, 0, none⟩)), (64, .tuple #[.agg #[.string t396, s_.1], .int .i64 t400]), (82, .agg #[.string t396, s_.1]), (83, .int .i64 t400)]) (fun s_ w' => (w'.cell? ⟨gb384, 0, none⟩ = some (.string x385000_2) ∧ w'.cell? ⟨gb384, 1, none⟩ = some (.slice Ao23 x385001_2.length co23) ∧ w'.cell? (ad393.add ((x9_2).toNat * 3)) = some (.int .i64 ((rd_T34 l1 x9_2).f0)) ∧ w'.cell? ⟨(ad393.add ((x9_2).toNat * 3)).block, (ad393.add ((x9_2).toNat * 3)).off + 1, none⟩ = some (.int .i64 ((rd_T34 l1 x9_2).f1)) ∧ w'.cell? ⟨(ad393.add ((x9_2).toNat * 3)).block, (ad393.add ((x9_2).toNat * 3)).off + 2, none⟩ = some (.int .i64 ((rd_T34 l1 x9_2).f2)) ∧ w'.cell? (ad393.add ((x9_2).toNat * 3)) = some (.int .i64 ((rd_T34 l1 x9_2).f0)) ∧ w'.cell? ⟨(ad393.add ((x9_2).toNat * 3)).block, (ad393.add ((x9_2).toNat * 3)).off + 1, none⟩ = some (.int .i64 ((rd_T34 l1 x9_2).f1)) ∧ w'.cell? ⟨(ad393.add ((x9_2).toNat * 3)).block, (ad393.add ((x9_2).toNat * 3)).off + 2, none⟩ = some (.int .i64 ((rd_T34 l1 x9_2).f2)) ∧ w'.cell? (ad393.add ((x9_2).toNat * 3)) = some (.int .i64 ((rd_T34 l1 x9_2).f0)) ∧ w'.cell? ⟨(ad393.add ((x9_2).toNat * 3)).block, (ad393.add ((x9_2).toNat * 3)).off + 1, none⟩ = some (.int .i64 ((rd_T34 l1 x9_2).f1)) ∧ w'.cell? ⟨(ad393.add ((x9_2).toNat * 3)).block, (ad393.add ((x9_2).toNat * 3)).off + 2, none⟩ = some (.int .i64 ((rd_T34 l1 x9_2).f2))) ∧ (Kd.R k31 31 w' w.heap.size (fun k_ => some k_ ≠ (.slice Ao23 x385001_2.length co23 : Value).ownBlock) s_.1 t397) ∧ (Kd.R k31 31 w' w.heap.size (fun k_ => some k_ ≠ (s_.1 : Value).ownBlock) (.slice Ao23 x385001_2.length co23) x385001_2) ∧ (Kd.R (Kd.int .u8) 5 w' w.heap.size (fun _ => True) u7 x7_1) ∧ (w'.heap[gb384]? = some (.cells #[.string x385000_2, .slice Ao23 x385001_2.length co23] 25 (0, 0))) ∧ (w'.heap[s_.2]? = some (.cells #[.string (⟨#[]⟩ : ByteArray), .slice none 0 0] 25 (0, 0))) ∧ (w.heap.size ≤ s_.2) ∧ (w.heap.size ≤ s_.2) ∧ (gb384 ≠ s_.2) ∧ (s_.2 ≠ gb384) ∧ (Below w.heap.size w w')) ?_ ?_
      rotate_left
      ·intro hCont
       refine two_ (i := 16) (j := 20) (Ni := some 81) (Nj := some 10) #[true, true, true, true, true, true, true, true, true, true, true, true, true, true, true, true, true, false, false, false, false, false, false] #[true, true, true, true, true, true, true, true, true, true, true, true, true, true, true, true, false, false, false, false, true, false, false] rfl rfl rfl rfl (Go.Proofs.YtffldajbnhbkkaaDoorW.PrintLast.two_of HT_.out (by kernel_rfl)) (by decide) (by decide) (fun K hK => ?_) (fun K hK => ?_)
       ·skip
        refine goes_ Tryd.func13 (by kernel_rfl) rfl #[.agg #[.string x385000_2, .slice Ao23 x385001_2.length co23], .int .i64 ((rd_T34 l1 x9_2).f0), .int .i64 ((rd_T34 l1 x9_2).f1), .int .i64 ((rd_T34 l1 x9_2).f2)] (by rfl) rfl rfl (by (try simp only [List.map_toArray, List.map_cons, List.map_nil]); first | done | rfl | (simp only [List.length_drop, List.length_take]; rfl)) ?_
        with_reducible refine (fields_Wrap.calls x385000_2 _ _ x385001_2 ((rd_T34 l1 x9_2).f0) ((rd_T34 l1 x9_2).f1) ((rd_T34 l1 x9_2).f2) t396 t397 t400 _ (Gd.below HG.out (by repeat (first | (with_reducible first | exact HB.out | apply below_alloc | apply pw_below_drewN | apply below_drew1 | refine below_set ?_ GE384.out) | exact HB.out))) ?side1 ?side2 A20.out).mono ?_
        (case side1 => repeat (first | exact (Kd.R_reads' HO_385001.out).2.2 | (with_reducible refine Kd.C_alloc ?_ _) | (with_reducible refine Kd.C_drewN ?_ _) | (with_reducible refine Kd.C_drew ?_)))
        (case side2 => exact (Kd.R_reads' HO_385001.out).2.1)
        rintro e w25 ⟨v398, rfl, ho0, hb⟩
        refine ⟨_, rfl, ?_⟩
        have n0_ := Aside0.mk (Kd.R_below (by (with_reducible repeat (first | apply Kd.R_alloc | apply Kd.R_drewN | apply Kd.R_drew)); exact HO_7.out) hb)
        have n1_ := Aside0.mk (Kd.R_elder' (by (with_reducible repeat (first | apply Kd.R_alloc | apply Kd.R_drewN | apply Kd.R_drew)); exact HO_385001.out) (Kd.R_base ho0) hb)
        have n2_ := Aside0.mk (Kd.R_lower (Kd.R_new' ho0 (Kd.R_lt (by (with_reducible repeat (first | apply Kd.R_alloc | apply Kd.R_drewN | apply Kd.R_drew)); exact HO_385001.out))) (below_size (by repeat (first | (with_reducible first | exact HB.out | apply below_alloc | apply pw_below_drewN | apply below_drew1 | refine below_set ?_ GE384.out) | exact HB.out))))
        have n3_ := Aside0.mk (blk_below (g := gb384) (o := .cells #[.string x385000_2, .slice Ao23 x385001_2.length co23] 25 (0, 0)) (by (with_reducible repeat (first | refine blk_drewN ?_ _ | refine blk_drew ?_ | refine blk_alloc ?_ _)); exact BK384.out) hb)
        have n4_ := Aside0.mk (below_step (by repeat (first | (with_reducible first | exact HB.out | apply below_alloc | apply pw_below_drewN | apply below_drew1 | refine below_set ?_ GE384.out) | exact HB.out)) hb)
        clear HO_7
        clear HO_385001
        clear BK384
        clear HB
        have HO_7 := n0_
        have HO_385001 := n1_
        have HO399 := n2_
        have BK384 := n3_
        have HB := n4_
        clear n0_ n1_ n2_ n3_ n4_
        (try clear hb)
        (try clear hb2)
        (try clear hk)
        (try clear hi)
        (try clear ho0)
        refine hK.out _ _ ⟨(blk_cell BK384.out 0).trans rfl, (blk_cell BK384.out 1).trans rfl, (bce HB.out hw393_0), (bce HB.out hw393_1), (bce HB.out hw393_2), (bce HB.out hw394_0), (bce HB.out hw394_1), (bce HB.out hw394_2), (bce HB.out hw395_0), (bce HB.out hw395_1), (bce HB.out hw395_2)⟩ (fun hHeld => ?_)
        clear hK K
        refine norm_ (a' := ?_) ?_ ?_
        rotate_left
        ·show Act.put _ (some 81) _ = _
         simp only [Act.put, List.setIfInBounds_toArray, List.set_cons_zero, List.set_cons_succ, i64_w, i32_w]
         rfl
        refine pure_ (i := 17) (N := some 64) (v := ?_) (a' := ?_) (bN 23 262143) rfl rfl (any_of HT_.out (by kernel_rfl)) (fun _ _ _ h => h) (Or.inl ⟨by rfl, ?_⟩) ?_ ?_
        rotate_left
        ·intro w'
         go_simp
         with_reducible rfl
        rotate_left
        ·simp only [Act.put, List.setIfInBounds_toArray, List.set_cons_zero, List.set_cons_succ, i64_w, i32_w]
         rfl
        refine pure_ (i := 18) (N := some 82) (v := ?_) (a' := ?_) (bN 23 524287) rfl rfl (any_of HT_.out (by kernel_rfl)) (fun _ _ _ h => h) (Or.inl ⟨by rfl, ?_⟩) ?_ ?_
        rotate_left
        ·intro w'
         go_simp
         with_reducible rfl
        rotate_left
        ·simp only [Act.put, List.setIfInBounds_toArray, List.set_cons_zero, List.set_cons_succ, i64_w, i32_w]
         rfl
        refine pure_ (i := 19) (N := some 83) (v := ?_) (a' := ?_) (bN 23 1048575) rfl rfl (any_of HT_.out (by kernel_rfl)) (fun _ _ _ h => h) (Or.inl ⟨by rfl, ?_⟩) ?_ ?_
        rotate_left
        ·intro w'
         go_simp
         with_reducible rfl
        rotate_left
        ·simp only [Act.put, List.setIfInBounds_toArray, List.set_cons_zero, List.set_cons_succ, i64_w, i32_w]
         rfl
        refine one_ (i := 20) (N := some 10) #[true, true, true, true, true, true, true, true, true, true, true, true, true, true, true, true, true, true, true, true, true, false, false] rfl rfl (Go.Proofs.YtffldajbnhbkkaaDoorW.PrintLast.one_of HT_.out (by kernel_rfl)) (by decide) (fun K hK => ?_)
        refine box_step ?hg (N := 10) ?hd (cs := #[.string (⟨#[]⟩ : ByteArray), .slice none 0 0]) (t := 25) ?hr ?_; (case hd => rfl); (case hg => rfl); (case hr => first | (go_simp; done) | (go_simp; rfl))
        intro gb401 hg w26 hbox hb
        have n0_ := Aside0.mk (Kd.R_below (by (with_reducible repeat (first | apply Kd.R_alloc | apply Kd.R_drewN | apply Kd.R_drew)); exact HO_7.out) hb)
        have n1_ := Aside0.mk (Kd.R_below (by (with_reducible repeat (first | apply Kd.R_alloc | apply Kd.R_drewN | apply Kd.R_drew)); exact HO_385001.out) hb)
        have n2_ := Aside0.mk (Kd.R_below (by (with_reducible repeat (first | apply Kd.R_alloc | apply Kd.R_drewN | apply Kd.R_drew)); exact HO399.out) hb)
        have n3_ := Aside0.mk (blk_below (g := gb384) (o := .cells #[.string x385000_2, .slice Ao23 x385001_2.length co23] 25 (0, 0)) (by (with_reducible repeat (first | refine blk_drewN ?_ _ | refine blk_drew ?_ | refine blk_alloc ?_ _)); exact BK384.out) hb)
        have n4_ := Aside0.mk (below_step (by repeat (first | (with_reducible first | exact HB.out | apply below_alloc | apply pw_below_drewN | apply below_drew1 | refine below_set ?_ GE384.out) | exact HB.out)) hb)
        have n5_ := Aside0.mk (hbox)
        have n6_ := Aside0.mk ((by rw [hg]; exact (below_size (by repeat (first | (with_reducible first | exact HB.out | apply below_alloc | apply pw_below_drewN | apply below_drew1 | refine below_set ?_ GE384.out) | exact HB.out))) : w.heap.size ≤ gb401))
        have n7_ := Aside0.mk ((by rw [hg]; exact (below_size (by repeat (first | (with_reducible first | exact HB.out | apply below_alloc | apply pw_below_drewN | apply below_drew1 | refine below_set ?_ GE384.out) | exact HB.out))) : w.heap.size ≤ gb401))
        have n8_ := Aside0.mk ((by rw [hg]; exact Nat.ne_of_lt (blk_lt (g := gb384) (o := .cells #[.string x385000_2, .slice Ao23 x385001_2.length co23] 25 (0, 0)) (by (with_reducible repeat (first | refine blk_drewN ?_ _ | refine blk_drew ?_ | refine blk_alloc ?_ _)); exact BK384.out)) : gb384 ≠ gb401))
        have n9_ := Aside0.mk ((by rw [hg]; exact Nat.ne_of_gt (blk_lt (g := gb384) (o := .cells #[.string x385000_2, .slice Ao23 x385001_2.length co23] 25 (0, 0)) (by (with_reducible repeat (first | refine blk_drewN ?_ _ | refine blk_drew ?_ | refine blk_alloc ?_ _)); exact BK384.out)) : gb401 ≠ gb384))
        clear HO_7
        clear HO_385001
        clear HO399
        clear BK384
        clear HB
        have HO_7 := n0_
        have HO_385001 := n1_
        have HO399 := n2_
        have BK384 := n3_
        have HB := n4_
        have BK401 := n5_
        have GW401 := n6_
        have GE401 := n7_
        have NB384_401 := n8_
        have NB401_384 := n9_
        clear n0_ n1_ n2_ n3_ n4_ n5_ n6_ n7_ n8_ n9_
        clear hb hbox hg
        refine hK.out _ _ ⟨(blk_cell BK384.out 0).trans rfl, (blk_cell BK384.out 1).trans rfl, (bce HB.out hw393_0), (bce HB.out hw393_1), (bce HB.out hw393_2), (bce HB.out hw394_0), (bce HB.out hw394_1), (bce HB.out hw394_2), (bce HB.out hw395_0), (bce HB.out hw395_1), (bce HB.out hw395_2)⟩ (fun hHeld => ?_)
        clear hK K
        refine norm_ (a' := ?_) ?_ ?_
        rotate_left
        ·show Act.put _ (some 10) _ = _
         simp only [Act.put, List.setIfInBounds_toArray, List.set_cons_zero, List.set_cons_succ, i64_w, i32_w]
         rfl
        exact norm_ (by simp only [putAll, Act.put, List.setIfInBounds_toArray, List.set_cons_zero, List.set_cons_succ]) (hCont (v398, gb401) _ ⟨hHeld, (by (with_reducible repeat (first | apply Kd.R_alloc | apply Kd.R_drewN | apply Kd.R_drew)); exact Kd.R_mono HO399.out (fun _ hk => hk.2)), (by (with_reducible repeat (first | apply Kd.R_alloc | apply Kd.R_drewN | apply Kd.R_drew)); exact Kd.R_mono HO_385001.out (fun _ hk => hk.2)), (by (with_reducible repeat (first | apply Kd.R_alloc | apply Kd.R_drewN | apply Kd.R_drew)); exact HO_7.out), (by (with_reducible repeat (first | refine blk_drewN ?_ _ | refine blk_drew ?_ | refine blk_alloc ?_ _)); exact BK384.out), (by (with_reducible repeat (first | refine blk_drewN ?_ _ | refine blk_drew ?_ | refine blk_alloc ?_ _)); exact BK401.out), GW401.out, GE401.out, NB384_401.out, NB401_384.out, (by repeat (first | (with_reducible first | exact HB.out | apply below_alloc | apply pw_below_drewN | apply below_drew1 | refine below_set ?_ GE384.out | refine below_set ?_ GE401.out) | exact HB.out))⟩)
       ·skip
        refine box_step ?hg (N := 10) ?hd (cs := #[.string (⟨#[]⟩ : ByteArray), .slice none 0 0]) (t := 25) ?hr ?_; (case hd => rfl); (case hg => rfl); (case hr => first | (go_simp; done) | (go_simp; rfl))
        intro gb401 hg w25 hbox hb
        have n0_ := Aside0.mk (Kd.R_below (by (with_reducible repeat (first | apply Kd.R_alloc | apply Kd.R_drewN | apply Kd.R_drew)); exact HO_7.out) hb)
        have n1_ := Aside0.mk (Kd.R_below (by (with_reducible repeat (first | apply Kd.R_alloc | apply Kd.R_drewN | apply Kd.R_drew)); exact HO_385001.out) hb)
        have n2_ := Aside0.mk (blk_below (g := gb384) (o := .cells #[.string x385000_2, .slice Ao23 x385001_2.length co23] 25 (0, 0)) (by (with_reducible repeat (first | refine blk_drewN ?_ _ | refine blk_drew ?_ | refine blk_alloc ?_ _)); exact BK384.out) hb)
        have n3_ := Aside0.mk (below_step (by repeat (first | (with_reducible first | exact HB.out | apply below_alloc | apply pw_below_drewN | apply below_drew1 | refine below_set ?_ GE384.out) | exact HB.out)) hb)
        have n4_ := Aside0.mk (hbox)
        have n5_ := Aside0.mk ((by rw [hg]; exact (below_size (by repeat (first | (with_reducible first | exact HB.out | apply below_alloc | apply pw_below_drewN | apply below_drew1 | refine below_set ?_ GE384.out) | exact HB.out))) : w.heap.size ≤ gb401))
        have n6_ := Aside0.mk ((by rw [hg]; exact (below_size (by repeat (first | (with_reducible first | exact HB.out | apply below_alloc | apply pw_below_drewN | apply below_drew1 | refine below_set ?_ GE384.out) | exact HB.out))) : w.heap.size ≤ gb401))
        have n7_ := Aside0.mk ((by rw [hg]; exact Nat.ne_of_lt (blk_lt (g := gb384) (o := .cells #[.string x385000_2, .slice Ao23 x385001_2.length co23] 25 (0, 0)) (by (with_reducible repeat (first | refine blk_drewN ?_ _ | refine blk_drew ?_ | refine blk_alloc ?_ _)); exact BK384.out)) : gb384 ≠ gb401))
        have n8_ := Aside0.mk ((by rw [hg]; exact Nat.ne_of_gt (blk_lt (g := gb384) (o := .cells #[.string x385000_2, .slice Ao23 x385001_2.length co23] 25 (0, 0)) (by (with_reducible repeat (first | refine blk_drewN ?_ _ | refine blk_drew ?_ | refine blk_alloc ?_ _)); exact BK384.out)) : gb401 ≠ gb384))
        clear HO_7
        clear HO_385001
        clear BK384
        clear HB
        have HO_7 := n0_
        have HO_385001 := n1_
        have BK384 := n2_
        have HB := n3_
        have BK401 := n4_
        have GW401 := n5_
        have GE401 := n6_
        have NB384_401 := n7_
        have NB401_384 := n8_
        clear n0_ n1_ n2_ n3_ n4_ n5_ n6_ n7_ n8_
        clear hb hbox hg
        refine hK.out _ _ ⟨(blk_cell BK384.out 0).trans rfl, (blk_cell BK384.out 1).trans rfl, (bce HB.out hw393_0), (bce HB.out hw393_1), (bce HB.out hw393_2), (bce HB.out hw394_0), (bce HB.out hw394_1), (bce HB.out hw394_2), (bce HB.out hw395_0), (bce HB.out hw395_1), (bce HB.out hw395_2)⟩ (fun hHeld => ?_)
        clear hK K
        refine norm_ (a' := ?_) ?_ ?_
        rotate_left
        ·show Act.put _ (some 10) _ = _
         simp only [Act.put, List.setIfInBounds_toArray, List.set_cons_zero, List.set_cons_succ, i64_w, i32_w]
         rfl
        refine one_ (i := 16) (N := some 81) #[true, true, true, true, true, true, true, true, true, true, true, true, true, true, true, true, true, false, false, false, true, false, false] rfl rfl (Go.Proofs.YtffldajbnhbkkaaDoorW.PrintLast.one_of HT_.out (by kernel_rfl)) (by decide) (fun K hK => ?_)
        refine goes_ Tryd.func13 (by kernel_rfl) rfl #[.agg #[.string x385000_2, .slice Ao23 x385001_2.length co23], .int .i64 ((rd_T34 l1 x9_2).f0), .int .i64 ((rd_T34 l1 x9_2).f1), .int .i64 ((rd_T34 l1 x9_2).f2)] (by rfl) rfl rfl (by (try simp only [List.map_toArray, List.map_cons, List.map_nil]); first | done | rfl | (simp only [List.length_drop, List.length_take]; rfl)) ?_
        with_reducible refine (fields_Wrap.calls x385000_2 _ _ x385001_2 ((rd_T34 l1 x9_2).f0) ((rd_T34 l1 x9_2).f1) ((rd_T34 l1 x9_2).f2) t396 t397 t400 _ (Gd.below HG.out (by repeat (first | (with_reducible first | exact HB.out | apply below_alloc | apply pw_below_drewN | apply below_drew1 | refine below_set ?_ GE384.out | refine below_set ?_ GE401.out) | exact HB.out))) ?side1 ?side2 A20.out).mono ?_
        (case side1 => repeat (first | exact (Kd.R_reads' HO_385001.out).2.2 | (with_reducible refine Kd.C_alloc ?_ _) | (with_reducible refine Kd.C_drewN ?_ _) | (with_reducible refine Kd.C_drew ?_)))
        (case side2 => exact (Kd.R_reads' HO_385001.out).2.1)
        rintro e w26 ⟨v398, rfl, ho0, hb⟩
        refine ⟨_, rfl, ?_⟩
        have n0_ := Aside0.mk (Kd.R_below (by (with_reducible repeat (first | apply Kd.R_alloc | apply Kd.R_drewN | apply Kd.R_drew)); exact HO_7.out) hb)
        have n1_ := Aside0.mk (Kd.R_elder' (by (with_reducible repeat (first | apply Kd.R_alloc | apply Kd.R_drewN | apply Kd.R_drew)); exact HO_385001.out) (Kd.R_base ho0) hb)
        have n2_ := Aside0.mk (Kd.R_lower (Kd.R_new' ho0 (Kd.R_lt (by (with_reducible repeat (first | apply Kd.R_alloc | apply Kd.R_drewN | apply Kd.R_drew)); exact HO_385001.out))) (below_size (by repeat (first | (with_reducible first | exact HB.out | apply below_alloc | apply pw_below_drewN | apply below_drew1 | refine below_set ?_ GE384.out | refine below_set ?_ GE401.out) | exact HB.out))))
        have n3_ := Aside0.mk (blk_below (g := gb384) (o := .cells #[.string x385000_2, .slice Ao23 x385001_2.length co23] 25 (0, 0)) (by (with_reducible repeat (first | refine blk_drewN ?_ _ | refine blk_drew ?_ | refine blk_alloc ?_ _)); exact BK384.out) hb)
        have n4_ := Aside0.mk (blk_below (g := gb401) (o := .cells #[.string (⟨#[]⟩ : ByteArray), .slice none 0 0] 25 (0, 0)) (by (with_reducible repeat (first | refine blk_drewN ?_ _ | refine blk_drew ?_ | refine blk_alloc ?_ _)); exact BK401.out) hb)
        have n5_ := Aside0.mk (below_step (by repeat (first | (with_reducible first | exact HB.out | apply below_alloc | apply pw_below_drewN | apply below_drew1 | refine below_set ?_ GE384.out | refine below_set ?_ GE401.out) | exact HB.out)) hb)
        clear HO_7
        clear HO_385001
        clear BK384
        clear BK401
        clear HB
        have HO_7 := n0_
        have HO_385001 := n1_
        have HO399 := n2_
        have BK384 := n3_
        have BK401 := n4_
        have HB := n5_
        clear n0_ n1_ n2_ n3_ n4_ n5_
        (try clear hb)
        (try clear hb2)
        (try clear hk)
        (try clear hi)
        (try clear ho0)
        refine hK.out _ _ ⟨(blk_cell BK384.out 0).trans rfl, (blk_cell BK384.out 1).trans rfl, (bce HB.out hw393_0), (bce HB.out hw393_1), (bce HB.out hw393_2), (bce HB.out hw394_0), (bce HB.out hw394_1), (bce HB.out hw394_2), (bce HB.out hw395_0), (bce HB.out hw395_1), (bce HB.out hw395_2)⟩ (fun hHeld => ?_)
        clear hK K
        refine norm_ (a' := ?_) ?_ ?_
        rotate_left
        ·show Act.put _ (some 81) _ = _
         simp only [Act.put, List.setIfInBounds_toArray, List.set_cons_zero, List.set_cons_succ, i64_w, i32_w]
         rfl
        refine pure_ (i := 17) (N := some 64) (v := ?_) (a' := ?_) (bN 23 1310719) rfl rfl (any_of HT_.out (by kernel_rfl)) (fun _ _ _ h => h) (Or.inl ⟨by rfl, ?_⟩) ?_ ?_
        rotate_left
        ·intro w'
         go_simp
         with_reducible rfl
        rotate_left
        ·simp only [Act.put, List.setIfInBounds_toArray, List.set_cons_zero, List.set_cons_succ, i64_w, i32_w]
         rfl
        refine pure_ (i := 18) (N := some 82) (v := ?_) (a' := ?_) (bN 23 1572863) rfl rfl (any_of HT_.out (by kernel_rfl)) (fun _ _ _ h => h) (Or.inl ⟨by rfl, ?_⟩) ?_ ?_
        rotate_left
        ·intro w'
         go_simp
         with_reducible rfl
        rotate_left
        ·simp only [Act.put, List.setIfInBounds_toArray, List.set_cons_zero, List.set_cons_succ, i64_w, i32_w]
         rfl
        refine pure_ (i := 19) (N := some 83) (v := ?_) (a' := ?_) (bN 23 2097151) rfl rfl (any_of HT_.out (by kernel_rfl)) (fun _ _ _ h => h) (Or.inl ⟨by rfl, ?_⟩) ?_ ?_
        rotate_left
        ·intro w'
         go_simp
         with_reducible rfl
        rotate_left
        ·simp only [Act.put, List.setIfInBounds_toArray, List.set_cons_zero, List.set_cons_succ, i64_w, i32_w]
         rfl
        exact norm_ (by simp only [putAll, Act.put, List.setIfInBounds_toArray, List.set_cons_zero, List.set_cons_succ]) (hCont (v398, gb401) _ ⟨hHeld, (by (with_reducible repeat (first | apply Kd.R_alloc | apply Kd.R_drewN | apply Kd.R_drew)); exact Kd.R_mono HO399.out (fun _ hk => hk.2)), (by (with_reducible repeat (first | apply Kd.R_alloc | apply Kd.R_drewN | apply Kd.R_drew)); exact Kd.R_mono HO_385001.out (fun _ hk => hk.2)), (by (with_reducible repeat (first | apply Kd.R_alloc | apply Kd.R_drewN | apply Kd.R_drew)); exact HO_7.out), (by (with_reducible repeat (first | refine blk_drewN ?_ _ | refine blk_drew ?_ | refine blk_alloc ?_ _)); exact BK384.out), (by (with_reducible repeat (first | refine blk_drewN ?_ _ | refine blk_drew ?_ | refine blk_alloc ?_ _)); exact BK401.out), GW401.out, GE401.out, NB384_401.out, NB401_384.out, (by repeat (first | (with_reducible first | exact HB.out | apply below_alloc | apply pw_below_drewN | apply below_drew1 | refine below_set ?_ GE384.out | refine below_set ?_ GE401.out) | exact HB.out))⟩)
      rintro ⟨v398, gb401⟩ w27 ⟨hS_, h0_, h1_, h2_, h3_, h4_, h5_, h6_, h7_, h8_, h9_⟩
      have n0_ : Aside0 (Kd.R k31 31 w27 w.heap.size (fun k_ => some k_ ≠ (.slice Ao23 x385001_2.length co23 : Value).ownBlock) v398 t397) := ⟨h0_⟩
      have n1_ : Aside0 (Kd.R k31 31 w27 w.heap.size (fun k_ => some k_ ≠ (v398 : Value).ownBlock) (.slice Ao23 x385001_2.length co23) x385001_2) := ⟨h1_⟩
      have n2_ : Aside0 (Kd.R (Kd.int .u8) 5 w27 w.heap.size (fun _ => True) u7 x7_1) := ⟨h2_⟩
      have n3_ : Aside0 (w27.heap[gb384]? = some (.cells #[.string x385000_2, .slice Ao23 x385001_2.length co23] 25 (0, 0))) := ⟨h3_⟩
      have n4_ : Aside0 (w27.heap[gb401]? = some (.cells #[.string (⟨#[]⟩ : ByteArray), .slice none 0 0] 25 (0, 0))) := ⟨h4_⟩
      have n5_ : Aside0 (w.heap.size ≤ gb401) := ⟨h5_⟩
      have n6_ : Aside0 (w.heap.size ≤ gb401) := ⟨h6_⟩
      have n7_ : Aside0 (gb384 ≠ gb401) := ⟨h7_⟩
      have n8_ : Aside0 (gb401 ≠ gb384) := ⟨h8_⟩
      have n9_ : Aside0 (Below w.heap.size w w27) := ⟨h9_⟩
      clear HO_7
      clear HO_385001
      clear BK384
      clear HB
      clear h0_ h1_ h2_ h3_ h4_ h5_ h6_ h7_ h8_ h9_
      have HO399 := n0_
      have HO_385001 := n1_
      have HO_7 := n2_
      have BK384 := n3_
      have BK401 := n4_
      have GW401 := n5_
      have GE401 := n6_
      have NB384_401 := n7_
      have NB401_384 := n8_
      have HB := n9_
      clear n0_ n1_ n2_ n3_ n4_ n5_ n6_ n7_ n8_ n9_
      have hHeld : w27.cell? ⟨gb384, 0, none⟩ = some (.string x385000_2) ∧ w27.cell? ⟨gb384, 1, none⟩ = some (.slice Ao23 x385001_2.length co23) ∧ w27.cell? (ad393.add ((x9_2).toNat * 3)) = some (.int .i64 ((rd_T34 l1 x9_2).f0)) ∧ w27.cell? ⟨(ad393.add ((x9_2).toNat * 3)).block, (ad393.add ((x9_2).toNat * 3)).off + 1, none⟩ = some (.int .i64 ((rd_T34 l1 x9_2).f1)) ∧ w27.cell? ⟨(ad393.add ((x9_2).toNat * 3)).block, (ad393.add ((x9_2).toNat * 3)).off + 2, none⟩ = some (.int .i64 ((rd_T34 l1 x9_2).f2)) ∧ w27.cell? (ad393.add ((x9_2).toNat * 3)) = some (.int .i64 ((rd_T34 l1 x9_2).f0)) ∧ w27.cell? ⟨(ad393.add ((x9_2).toNat * 3)).block, (ad393.add ((x9_2).toNat * 3)).off + 1, none⟩ = some (.int .i64 ((rd_T34 l1 x9_2).f1)) ∧ w27.cell? ⟨(ad393.add ((x9_2).toNat * 3)).block, (ad393.add ((x9_2).toNat * 3)).off + 2, none⟩ = some (.int .i64 ((rd_T34 l1 x9_2).f2)) ∧ w27.cell? (ad393.add ((x9_2).toNat * 3)) = some (.int .i64 ((rd_T34 l1 x9_2).f0)) ∧ w27.cell? ⟨(ad393.add ((x9_2).toNat * 3)).block, (ad393.add ((x9_2).toNat * 3)).off + 1, none⟩ = some (.int .i64 ((rd_T34 l1 x9_2).f1)) ∧ w27.cell? ⟨(ad393.add ((x9_2).toNat * 3)).block, (ad393.add ((x9_2).toNat * 3)).off + 2, none⟩ = some (.int .i64 ((rd_T34 l1 x9_2).f2)) := hS_
      obtain ⟨Ao29, co29, eo29⟩ := Kd.R_slice HO399.out
      (first | subst eo29 | (injection eo29 with f1_ f2_ f3_; have f4_ := f1_.symm; have f5_ := f3_.symm; clear f1_ f2_ f3_; subst f4_; subst f5_))
      refine norm_ (a' := ?_) ?_ ?_
      rotate_left
      ·simp only [putAll, Act.put, List.setIfInBounds_toArray, List.set_cons_zero, List.set_cons_succ]
       rfl
      refine one_ (i := 21) (N := none) #[true, true, true, true, true, true, true, true, true, true, true, true, true, true, true, true, true, true, true, true, true, true, false] rfl rfl (Go.Proofs.YtffldajbnhbkkaaDoorW.PrintLast.one_of HT_.out (by kernel_rfl)) (by decide) (fun K hK => ?_)
      have hs28 : w27.cell? ⟨gb401, 0, none⟩ = some (.string (⟨#[]⟩ : ByteArray)) := (blk_cell BK401.out 0).trans rfl
      have hfs28 := blk_frozen BK401.out 0
      have hns28_0 := NB384_401.out
      have hms28_0 := NB401_384.out
      have hs30 : w27.cell? ⟨gb401, 1, none⟩ = some (.slice none 0 0) := (blk_cell BK401.out 1).trans rfl
      have hfs30 := blk_frozen BK401.out 1
      have hns30_0 := NB384_401.out
      have hms30_0 := NB401_384.out
      refine skip_ (w1 := ?_) (by rfl) rfl ?_ ?_
      rotate_left
      ·go_simp
       rfl
      refine hK.out _ _ ⟨((cell_far (p := ⟨gb401, _, none⟩) NB384_401.out _).trans (((cell_far (p := ⟨gb401, _, none⟩) NB384_401.out _).trans (hHeld.1)))), ((cell_far (p := ⟨gb401, _, none⟩) NB384_401.out _).trans (((cell_far (p := ⟨gb401, _, none⟩) NB384_401.out _).trans (hHeld.2.1)))), ((cell_far (p := ⟨gb401, _, none⟩) (by first | exact Nat.ne_of_lt (Nat.lt_of_lt_of_le (by have := World.block_lt_of_cell? _ _ hw393_0; first | rwa [add_block] at this | exact this) GW401.out) | (rw [add_block]; exact Nat.ne_of_lt (Nat.lt_of_lt_of_le (by have := World.block_lt_of_cell? _ _ hw393_0; first | rwa [add_block] at this | exact this) GW401.out)) | (show (Addr.add _ _).block ≠ _; rw [add_block]; exact Nat.ne_of_lt (Nat.lt_of_lt_of_le (by have := World.block_lt_of_cell? _ _ hw393_0; first | rwa [add_block] at this | exact this) GW401.out)) | (dsimp only; exact Nat.ne_of_lt (Nat.lt_of_lt_of_le (by have := World.block_lt_of_cell? _ _ hw393_0; first | rwa [add_block] at this | exact this) GW401.out))) _).trans (((cell_far (p := ⟨gb401, _, none⟩) (by first | exact Nat.ne_of_lt (Nat.lt_of_lt_of_le (by have := World.block_lt_of_cell? _ _ hw393_0; first | rwa [add_block] at this | exact this) GW401.out) | (rw [add_block]; exact Nat.ne_of_lt (Nat.lt_of_lt_of_le (by have := World.block_lt_of_cell? _ _ hw393_0; first | rwa [add_block] at this | exact this) GW401.out)) | (show (Addr.add _ _).block ≠ _; rw [add_block]; exact Nat.ne_of_lt (Nat.lt_of_lt_of_le (by have := World.block_lt_of_cell? _ _ hw393_0; first | rwa [add_block] at this | exact this) GW401.out)) | (dsimp only; exact Nat.ne_of_lt (Nat.lt_of_lt_of_le (by have := World.block_lt_of_cell? _ _ hw393_0; first | rwa [add_block] at this | exact this) GW401.out))) _).trans (hHeld.2.2.1)))), ((cell_far (p := ⟨gb401, _, none⟩) (by first | exact Nat.ne_of_lt (Nat.lt_of_lt_of_le (by have := World.block_lt_of_cell? _ _ hw393_1; first | rwa [add_block] at this | exact this) GW401.out) | (rw [add_block]; exact Nat.ne_of_lt (Nat.lt_of_lt_of_le (by have := World.block_lt_of_cell? _ _ hw393_1; first | rwa [add_block] at this | exact this) GW401.out)) | (show (Addr.add _ _).block ≠ _; rw [add_block]; exact Nat.ne_of_lt (Nat.lt_of_lt_of_le (by have := World.block_lt_of_cell? _ _ hw393_1; first | rwa [add_block] at this | exact this) GW401.out)) | (dsimp only; exact Nat.ne_of_lt (Nat.lt_of_lt_of_le (by have := World.block_lt_of_cell? _ _ hw393_1; first | rwa [add_block] at this | exact this) GW401.out))) _).trans (((cell_far (p := ⟨gb401, _, none⟩) (by first | exact Nat.ne_of_lt (Nat.lt_of_lt_of_le (by have := World.block_lt_of_cell? _ _ hw393_1; first | rwa [add_block] at this | exact this) GW401.out) | (rw [add_block]; exact Nat.ne_of_lt (Nat.lt_of_lt_of_le (by have := World.block_lt_of_cell? _ _ hw393_1; first | rwa [add_block] at this | exact this) GW401.out)) | (show (Addr.add _ _).block ≠ _; rw [add_block]; exact Nat.ne_of_lt (Nat.lt_of_lt_of_le (by have := World.block_lt_of_cell? _ _ hw393_1; first | rwa [add_block] at this | exact this) GW401.out)) | (dsimp only; exact Nat.ne_of_lt (Nat.lt_of_lt_of_le (by have := World.block_lt_of_cell? _ _ hw393_1; first | rwa [add_block] at this | exact this) GW401.out))) _).trans (hHeld.2.2.2.1)))), ((cell_far (p := ⟨gb401, _, none⟩) (by first | exact Nat.ne_of_lt (Nat.lt_of_lt_of_le (by have := World.block_lt_of_cell? _ _ hw393_2; first | rwa [add_block] at this | exact this) GW401.out) | (rw [add_block]; exact Nat.ne_of_lt (Nat.lt_of_lt_of_le (by have := World.block_lt_of_cell? _ _ hw393_2; first | rwa [add_block] at this | exact this) GW401.out)) | (show (Addr.add _ _).block ≠ _; rw [add_block]; exact Nat.ne_of_lt (Nat.lt_of_lt_of_le (by have := World.block_lt_of_cell? _ _ hw393_2; first | rwa [add_block] at this | exact this) GW401.out)) | (dsimp only; exact Nat.ne_of_lt (Nat.lt_of_lt_of_le (by have := World.block_lt_of_cell? _ _ hw393_2; first | rwa [add_block] at this | exact this) GW401.out))) _).trans (((cell_far (p := ⟨gb401, _, none⟩) (by first | exact Nat.ne_of_lt (Nat.lt_of_lt_of_le (by have := World.block_lt_of_cell? _ _ hw393_2; first | rwa [add_block] at this | exact this) GW401.out) | (rw [add_block]; exact Nat.ne_of_lt (Nat.lt_of_lt_of_le (by have := World.block_lt_of_cell? _ _ hw393_2; first | rwa [add_block] at this | exact this) GW401.out)) | (show (Addr.add _ _).block ≠ _; rw [add_block]; exact Nat.ne_of_lt (Nat.lt_of_lt_of_le (by have := World.block_lt_of_cell? _ _ hw393_2; first | rwa [add_block] at this | exact this) GW401.out)) | (dsimp only; exact Nat.ne_of_lt (Nat.lt_of_lt_of_le (by have := World.block_lt_of_cell? _ _ hw393_2; first | rwa [add_block] at this | exact this) GW401.out))) _).trans (hHeld.2.2.2.2.1)))), ((cell_far (p := ⟨gb401, _, none⟩) (by first | exact Nat.ne_of_lt (Nat.lt_of_lt_of_le (by have := World.block_lt_of_cell? _ _ hw394_0; first | rwa [add_block] at this | exact this) GW401.out) | (rw [add_block]; exact Nat.ne_of_lt (Nat.lt_of_lt_of_le (by have := World.block_lt_of_cell? _ _ hw394_0; first | rwa [add_block] at this | exact this) GW401.out)) | (show (Addr.add _ _).block ≠ _; rw [add_block]; exact Nat.ne_of_lt (Nat.lt_of_lt_of_le (by have := World.block_lt_of_cell? _ _ hw394_0; first | rwa [add_block] at this | exact this) GW401.out)) | (dsimp only; exact Nat.ne_of_lt (Nat.lt_of_lt_of_le (by have := World.block_lt_of_cell? _ _ hw394_0; first | rwa [add_block] at this | exact this) GW401.out))) _).trans (((cell_far (p := ⟨gb401, _, none⟩) (by first | exact Nat.ne_of_lt (Nat.lt_of_lt_of_le (by have := World.block_lt_of_cell? _ _ hw394_0; first | rwa [add_block] at this | exact this) GW401.out) | (rw [add_block]; exact Nat.ne_of_lt (Nat.lt_of_lt_of_le (by have := World.block_lt_of_cell? _ _ hw394_0; first | rwa [add_block] at this | exact this) GW401.out)) | (show (Addr.add _ _).block ≠ _; rw [add_block]; exact Nat.ne_of_lt (Nat.lt_of_lt_of_le (by have := World.block_lt_of_cell? _ _ hw394_0; first | rwa [add_block] at this | exact this) GW401.out)) | (dsimp only; exact Nat.ne_of_lt (Nat.lt_of_lt_of_le (by have := World.block_lt_of_cell? _ _ hw394_0; first | rwa [add_block] at this | exact this) GW401.out))) _).trans (hHeld.2.2.2.2.2.1)))), ((cell_far (p := ⟨gb401, _, none⟩) (by first | exact Nat.ne_of_lt (Nat.lt_of_lt_of_le (by have := World.block_lt_of_cell? _ _ hw394_1; first | rwa [add_block] at this | exact this) GW401.out) | (rw [add_block]; exact Nat.ne_of_lt (Nat.lt_of_lt_of_le (by have := World.block_lt_of_cell? _ _ hw394_1; first | rwa [add_block] at this | exact this) GW401.out)) | (show (Addr.add _ _).block ≠ _; rw [add_block]; exact Nat.ne_of_lt (Nat.lt_of_lt_of_le (by have := World.block_lt_of_cell? _ _ hw394_1; first | rwa [add_block] at this | exact this) GW401.out)) | (dsimp only; exact Nat.ne_of_lt (Nat.lt_of_lt_of_le (by have := World.block_lt_of_cell? _ _ hw394_1; first | rwa [add_block] at this | exact this) GW401.out))) _).trans (((cell_far (p := ⟨gb401, _, none⟩) (by first | exact Nat.ne_of_lt (Nat.lt_of_lt_of_le (by have := World.block_lt_of_cell? _ _ hw394_1; first | rwa [add_block] at this | exact this) GW401.out) | (rw [add_block]; exact Nat.ne_of_lt (Nat.lt_of_lt_of_le (by have := World.block_lt_of_cell? _ _ hw394_1; first | rwa [add_block] at this | exact this) GW401.out)) | (show (Addr.add _ _).block ≠ _; rw [add_block]; exact Nat.ne_of_lt (Nat.lt_of_lt_of_le (by have := World.block_lt_of_cell? _ _ hw394_1; first | rwa [add_block] at this | exact this) GW401.out)) | (dsimp only; exact Nat.ne_of_lt (Nat.lt_of_lt_of_le (by have := World.block_lt_of_cell? _ _ hw394_1; first | rwa [add_block] at this | exact this) GW401.out))) _).trans (hHeld.2.2.2.2.2.2.1)))), ((cell_far (p := ⟨gb401, _, none⟩) (by first | exact Nat.ne_of_lt (Nat.lt_of_lt_of_le (by have := World.block_lt_of_cell? _ _ hw394_2; first | rwa [add_block] at this | exact this) GW401.out) | (rw [add_block]; exact Nat.ne_of_lt (Nat.lt_of_lt_of_le (by have := World.block_lt_of_cell? _ _ hw394_2; first | rwa [add_block] at this | exact this) GW401.out)) | (show (Addr.add _ _).block ≠ _; rw [add_block]; exact Nat.ne_of_lt (Nat.lt_of_lt_of_le (by have := World.block_lt_of_cell? _ _ hw394_2; first | rwa [add_block] at this | exact this) GW401.out)) | (dsimp only; exact Nat.ne_of_lt (Nat.lt_of_lt_of_le (by have := World.block_lt_of_cell? _ _ hw394_2; first | rwa [add_block] at this | exact this) GW401.out))) _).trans (((cell_far (p := ⟨gb401, _, none⟩) (by first | exact Nat.ne_of_lt (Nat.lt_of_lt_of_le (by have := World.block_lt_of_cell? _ _ hw394_2; first | rwa [add_block] at this | exact this) GW401.out) | (rw [add_block]; exact Nat.ne_of_lt (Nat.lt_of_lt_of_le (by have := World.block_lt_of_cell? _ _ hw394_2; first | rwa [add_block] at this | exact this) GW401.out)) | (show (Addr.add _ _).block ≠ _; rw [add_block]; exact Nat.ne_of_lt (Nat.lt_of_lt_of_le (by have := World.block_lt_of_cell? _ _ hw394_2; first | rwa [add_block] at this | exact this) GW401.out)) | (dsimp only; exact Nat.ne_of_lt (Nat.lt_of_lt_of_le (by have := World.block_lt_of_cell? _ _ hw394_2; first | rwa [add_block] at this | exact this) GW401.out))) _).trans (hHeld.2.2.2.2.2.2.2.1)))), ((cell_far (p := ⟨gb401, _, none⟩) (by first | exact Nat.ne_of_lt (Nat.lt_of_lt_of_le (by have := World.block_lt_of_cell? _ _ hw395_0; first | rwa [add_block] at this | exact this) GW401.out) | (rw [add_block]; exact Nat.ne_of_lt (Nat.lt_of_lt_of_le (by have := World.block_lt_of_cell? _ _ hw395_0; first | rwa [add_block] at this | exact this) GW401.out)) | (show (Addr.add _ _).block ≠ _; rw [add_block]; exact Nat.ne_of_lt (Nat.lt_of_lt_of_le (by have := World.block_lt_of_cell? _ _ hw395_0; first | rwa [add_block] at this | exact this) GW401.out)) | (dsimp only; exact Nat.ne_of_lt (Nat.lt_of_lt_of_le (by have := World.block_lt_of_cell? _ _ hw395_0; first | rwa [add_block] at this | exact this) GW401.out))) _).trans (((cell_far (p := ⟨gb401, _, none⟩) (by first | exact Nat.ne_of_lt (Nat.lt_of_lt_of_le (by have := World.block_lt_of_cell? _ _ hw395_0; first | rwa [add_block] at this | exact this) GW401.out) | (rw [add_block]; exact Nat.ne_of_lt (Nat.lt_of_lt_of_le (by have := World.block_lt_of_cell? _ _ hw395_0; first | rwa [add_block] at this | exact this) GW401.out)) | (show (Addr.add _ _).block ≠ _; rw [add_block]; exact Nat.ne_of_lt (Nat.lt_of_lt_of_le (by have := World.block_lt_of_cell? _ _ hw395_0; first | rwa [add_block] at this | exact this) GW401.out)) | (dsimp only; exact Nat.ne_of_lt (Nat.lt_of_lt_of_le (by have := World.block_lt_of_cell? _ _ hw395_0; first | rwa [add_block] at this | exact this) GW401.out))) _).trans (hHeld.2.2.2.2.2.2.2.2.1)))), ((cell_far (p := ⟨gb401, _, none⟩) (by first | exact Nat.ne_of_lt (Nat.lt_of_lt_of_le (by have := World.block_lt_of_cell? _ _ hw395_1; first | rwa [add_block] at this | exact this) GW401.out) | (rw [add_block]; exact Nat.ne_of_lt (Nat.lt_of_lt_of_le (by have := World.block_lt_of_cell? _ _ hw395_1; first | rwa [add_block] at this | exact this) GW401.out)) | (show (Addr.add _ _).block ≠ _; rw [add_block]; exact Nat.ne_of_lt (Nat.lt_of_lt_of_le (by have := World.block_lt_of_cell? _ _ hw395_1; first | rwa [add_block] at this | exact this) GW401.out)) | (dsimp only; exact Nat.ne_of_lt (Nat.lt_of_lt_of_le (by have := World.block_lt_of_cell? _ _ hw395_1; first | rwa [add_block] at this | exact this) GW401.out))) _).trans (((cell_far (p := ⟨gb401, _, none⟩) (by first | exact Nat.ne_of_lt (Nat.lt_of_lt_of_le (by have := World.block_lt_of_cell? _ _ hw395_1; first | rwa [add_block] at this | exact this) GW401.out) | (rw [add_block]; exact Nat.ne_of_lt (Nat.lt_of_lt_of_le (by have := World.block_lt_of_cell? _ _ hw395_1; first | rwa [add_block] at this | exact this) GW401.out)) | (show (Addr.add _ _).block ≠ _; rw [add_block]; exact Nat.ne_of_lt (Nat.lt_of_lt_of_le (by have := World.block_lt_of_cell? _ _ hw395_1; first | rwa [add_block] at this | exact this) GW401.out)) | (dsimp only; exact Nat.ne_of_lt (Nat.lt_of_lt_of_le (by have := World.block_lt_of_cell? _ _ hw395_1; first | rwa [add_block] at this | exact this) GW401.out))) _).trans (hHeld.2.2.2.2.2.2.2.2.2.1)))), ((cell_far (p := ⟨gb401, _, none⟩) (by first | exact Nat.ne_of_lt (Nat.lt_of_lt_of_le (by have := World.block_lt_of_cell? _ _ hw395_2; first | rwa [add_block] at this | exact this) GW401.out) | (rw [add_block]; exact Nat.ne_of_lt (Nat.lt_of_lt_of_le (by have := World.block_lt_of_cell? _ _ hw395_2; first | rwa [add_block] at this | exact this) GW401.out)) | (show (Addr.add _ _).block ≠ _; rw [add_block]; exact Nat.ne_of_lt (Nat.lt_of_lt_of_le (by have := World.block_lt_of_cell? _ _ hw395_2; first | rwa [add_block] at this | exact this) GW401.out)) | (dsimp only; exact Nat.ne_of_lt (Nat.lt_of_lt_of_le (by have := World.block_lt_of_cell? _ _ hw395_2; first | rwa [add_block] at this | exact this) GW401.out))) _).trans (((cell_far (p := ⟨gb401, _, none⟩) (by first | exact Nat.ne_of_lt (Nat.lt_of_lt_of_le (by have := World.block_lt_of_cell? _ _ hw395_2; first | rwa [add_block] at this | exact this) GW401.out) | (rw [add_block]; exact Nat.ne_of_lt (Nat.lt_of_lt_of_le (by have := World.block_lt_of_cell? _ _ hw395_2; first | rwa [add_block] at this | exact this) GW401.out)) | (show (Addr.add _ _).block ≠ _; rw [add_block]; exact Nat.ne_of_lt (Nat.lt_of_lt_of_le (by have := World.block_lt_of_cell? _ _ hw395_2; first | rwa [add_block] at this | exact this) GW401.out)) | (dsimp only; exact Nat.ne_of_lt (Nat.lt_of_lt_of_le (by have := World.block_lt_of_cell? _ _ hw395_2; first | rwa [add_block] at this | exact this) GW401.out))) _).trans (hHeld.2.2.2.2.2.2.2.2.2.2))))⟩ (fun hHeld => ?_)
      clear hK K
      refine pure_ (i := 22) (N := some 11) (v := ?_) (a' := ?_) (bN 23 8388607) rfl rfl (any_of HT_.out (by kernel_rfl)) (fun _ _ _ h => h) (Or.inl ⟨by rfl, ?_⟩) ?_ ?_
      rotate_left
      ·intro w'
       go_simp
       with_reducible rfl
      rotate_left
      ·simp only [Act.put, List.setIfInBounds_toArray, List.set_cons_zero, List.set_cons_succ, i64_w, i32_w]
       rfl
      refine done_ (done_of HT_.out (by kernel_rfl)) ?_
      have hnb31 := NB401_384.out
      have hnc31 := NB384_401.out
      have hcz32_0 : w27.cell? ⟨gb401, 0, none⟩ = some (.string (⟨#[]⟩ : ByteArray)) := (blk_cell BK401.out 0).trans rfl
      have hcz32_1 : w27.cell? ⟨gb401, 1, none⟩ = some (.slice none 0 0) := (blk_cell BK401.out 1).trans rfl
      have hfz32_0 := blk_frozen BK401.out 0
      have hfz32_1 := blk_frozen BK401.out 1
      have hcz33_0 : w27.cell? ⟨gb384, 0, none⟩ = some (.string x385000_2) := (blk_cell BK384.out 0).trans rfl
      have hcz33_1 : w27.cell? ⟨gb384, 1, none⟩ = some (.slice Ao23 x385001_2.length co23) := (blk_cell BK384.out 1).trans rfl
      have hfz33_0 := blk_frozen BK384.out 0
      have hfz33_1 := blk_frozen BK384.out 1
      try go_wp2
      go_roundg k2
      case measure => have := HK1.out; have := HK2.out; omega
      case rel => exact ⟨(wrap64 (x9_2 + 1)), (t396), (t397), (.slice Ao29 t397.length co29), (by first | rfl | (simp; done) | (simp [*]; done)), H', ⟨by have := HK1.out; have := HK2.out; omega⟩, ⟨by (with_reducible repeat (first | apply Kd.R_alloc | apply Kd.R_drewN | apply Kd.R_drew)); exact Kd.R_mono (Kd.R_far (p := ⟨gb384, 1, none⟩) (Kd.R_far (p := ⟨gb384, 0, none⟩) (Kd.R_far (p := ⟨gb401, 1, none⟩) (Kd.R_far (p := ⟨gb401, 0, none⟩) (Kd.R_types (Kd.R_types HO_7.out BK401.out (by decide)) BK384.out (by decide)) (fun _ hk => hk.1.2) (.string t396)) (fun _ hk => hk.1.2) (.slice Ao29 t397.length co29)) (fun _ hk => hk.2) (.string t396)) (fun _ hk => hk.2) (.slice Ao29 t397.length co29)) (fun _ hk => trivial)⟩, ⟨by (with_reducible repeat (first | apply Kd.R_alloc | apply Kd.R_drewN | apply Kd.R_drew)); exact Kd.R_mono (Kd.R_far (p := ⟨gb384, 1, none⟩) (Kd.R_far (p := ⟨gb384, 0, none⟩) (Kd.R_far (p := ⟨gb401, 1, none⟩) (Kd.R_far (p := ⟨gb401, 0, none⟩) (Kd.R_types (Kd.R_types HO399.out BK401.out (by decide)) BK384.out (by decide)) (fun _ hk => hk.1.2) (.string t396)) (fun _ hk => hk.1.2) (.slice Ao29 t397.length co29)) (fun _ hk => hk.2) (.string t396)) (fun _ hk => hk.2) (.slice Ao29 t397.length co29)) (fun _ hk => trivial)⟩, ⟨by (with_reducible repeat (first | refine blk_drewN ?_ _ | refine blk_drew ?_ | refine blk_alloc ?_ _)); refine blk_put (cs := #[.string t396, .slice Ao23 x385001_2.length co23]) ?_ 1 _ rfl; (with_reducible repeat (first | refine blk_drewN ?_ _ | refine blk_drew ?_ | refine blk_alloc ?_ _)); refine blk_put (cs := #[.string x385000_2, .slice Ao23 x385001_2.length co23]) ?_ 0 _ rfl; (with_reducible repeat (first | refine blk_drewN ?_ _ | refine blk_drew ?_ | refine blk_alloc ?_ _)); refine blk_far ?_ NB384_401.out _; (with_reducible repeat (first | refine blk_drewN ?_ _ | refine blk_drew ?_ | refine blk_alloc ?_ _)); refine blk_far ?_ NB384_401.out _; (with_reducible repeat (first | refine blk_drewN ?_ _ | refine blk_drew ?_ | refine blk_alloc ?_ _)); exact BK384.out⟩, ⟨by repeat (first | (with_reducible first | exact HB.out | apply below_alloc | apply pw_below_drewN | apply below_drew1 | refine below_set ?_ GE384.out | refine below_set ?_ GE401.out) | exact HB.out)⟩⟩
     rw [if_neg c18] at H
     have c18b0 : decide (x9_2 < (l1.length : Int)) = false := decide_eq_false c18
     clear c18
     replace H := Option.bind_eq_some_iff.mp H
     obtain ⟨⟨t402, t405⟩, A530, H⟩ := H
     replace H : (if t405 = 0 then (if x385000_2.toList = (strOfNums x7_1).toList then ((fields_Check.f x385000_2 x385001_2).bind fun t406 => (fCover.j2 k2 t402 (t406 != 0) x385000_2 x385001_2)) else (fCover.j2 k2 t402 true x385000_2 x385001_2)) else (fCover.j2 k2 t402 true x385000_2 x385001_2)) = some true := H
     have A53 := Aside0.mk A530
     clear A530
     have HC54 := Aside0.mk H
     clear H
     have hcz55_0 : wr.cell? ⟨gb384, 0, none⟩ = some (.string x385000_2) := (blk_cell BK384.out 0).trans rfl
     have hcz55_1 : wr.cell? ⟨gb384, 1, none⟩ = some (u385001) := (blk_cell BK384.out 1).trans rfl
     have hfz55_0 := blk_frozen BK384.out 0
     have hfz55_1 := blk_frozen BK384.out 1
     obtain ⟨Ao56, co56, eo56⟩ := Kd.R_slice HO_385001.out
     subst eo56
     go_upto_region 20 with (first | ((with_reducible refine gate_callee (f := 18) rfl ?_); refine goesL_ (some 97) rfl rfl Tryd.func18 (by kernel_rfl) rfl #[.agg #[.string x385000_2, .slice Ao56 x385001_2.length co56]] rfl (by (try simp only [List.map_toArray, List.map_cons, List.map_nil]); first | done | rfl | (simp only [List.length_drop, List.length_take]; rfl)) ?_; (with_reducible refine (fields_Leaves.calls x385000_2 _ _ x385001_2 t402 t405 _ (Gd.below HG.out (by repeat (first | (with_reducible first | exact HB.out | apply below_alloc | apply pw_below_drewN | apply below_drew1 | refine below_set ?_ GE384.out) | exact HB.out))) ?side1 ?side2 A53.out).mono ?_); (case side1 => repeat (first | exact (Kd.R_reads' HO_385001.out).2.2 | (with_reducible refine Kd.C_alloc ?_ _) | (with_reducible refine Kd.C_drewN ?_ _) | (with_reducible refine Kd.C_drew ?_))); (case side2 => exact (Kd.R_reads' HO_385001.out).2.1); rintro e w57 ⟨v403, rfl, ho0, hb⟩; refine ⟨_, rfl, ?_⟩; have n0_ := Aside0.mk (Kd.R_below (by (with_reducible repeat (first | apply Kd.R_alloc | apply Kd.R_drewN | apply Kd.R_drew)); exact HO_7.out) hb); have n1_ := Aside0.mk (Kd.R_below (by (with_reducible repeat (first | apply Kd.R_alloc | apply Kd.R_drewN | apply Kd.R_drew)); exact HO_385001.out) hb); have n2_ := Aside0.mk (Kd.R_lower ho0 (below_size (by repeat (first | (with_reducible first | exact HB.out | apply below_alloc | apply pw_below_drewN | apply below_drew1 | refine below_set ?_ GE384.out) | exact HB.out)))); have n3_ := Aside0.mk (blk_below (g := gb384) (o := .cells #[.string x385000_2, .slice Ao56 x385001_2.length co56] 25 (0, 0)) (by (with_reducible repeat (first | refine blk_drewN ?_ _ | refine blk_drew ?_ | refine blk_alloc ?_ _)); exact BK384.out) hb); have n4_ := Aside0.mk (below_step (by repeat (first | (with_reducible first | exact HB.out | apply below_alloc | apply pw_below_drewN | apply below_drew1 | refine below_set ?_ GE384.out) | exact HB.out)) hb); clear HO_7; clear HO_385001; clear BK384; clear HB; have HO_7 := n0_; have HO_385001 := n1_; have HO404 := n2_; have BK384 := n3_; have HB := n4_; clear n0_ n1_ n2_ n3_ n4_; (try clear hb); (try clear hb2); (try clear hk); (try clear hi); (try clear ho0)))
     (try simp only [Act.put, List.setIfInBounds_toArray, List.set_cons_zero, List.set_cons_succ])
     go_cut [113] (fun v113 wc => ∃ (kq : Nat) (x113_53 : Bool), v113 = .bool x113_53 ∧ Aside0 (fCover.j2 kq t402 x113_53 x385000_2 x385001_2 = some true) ∧ Aside0 (kq ≤ k2) ∧ Aside0 (Kd.R k43 43 wc w.heap.size (fun _ => True) v403 t402) ∧ Aside0 (Kd.R k31 31 wc w.heap.size (fun _ => True) (.slice Ao56 x385001_2.length co56) x385001_2) ∧ Aside0 (wc.heap[gb384]? = some (.cells #[.string x385000_2, (.slice Ao56 x385001_2.length co56)] 25 (0, 0))) ∧ Aside0 (Below w.heap.size w wc))
     case first =>
      have H := HC54.out
      clear HC54
      by_cases c58 : t405 = 0
      rotate_left
      ·rw [if_neg c58] at H
       have c58b0 : (t405 == 0) = false := beq_eq_false_iff_ne.mpr c58
       have c58b1 : (t405 != 0) = true := bne_iff_ne.mpr c58
       (first | rw [c58b0] | rw [c58b1] | (simp only [i64_w, i32_w]; rw [c58b0]) | skip)
       have H' := Aside0.mk H
       clear H
       go_wp2
       go_meet
       case rel => exact ⟨_, (true), (by first | rfl | (simp; done) | (simp [*]; done)), H', ⟨by have := HK1.out; have := HK2.out; first | omega | exact Nat.le_refl _⟩, ⟨by (with_reducible repeat (first | apply Kd.R_alloc | apply Kd.R_drewN | apply Kd.R_drew)); exact HO404.out⟩, ⟨by (with_reducible repeat (first | apply Kd.R_alloc | apply Kd.R_drewN | apply Kd.R_drew)); exact HO_385001.out⟩, ⟨by (with_reducible repeat (first | refine blk_drewN ?_ _ | refine blk_drew ?_ | refine blk_alloc ?_ _)); exact BK384.out⟩, ⟨by repeat (first | (with_reducible first | exact HB.out | apply below_alloc | apply pw_below_drewN | apply below_drew1 | refine below_set ?_ GE384.out) | exact HB.out)⟩⟩
      rw [if_pos c58] at H
      have c58b0 : (t405 == 0) = true := beq_iff_eq.mpr c58
      have c58b1 : (t405 != 0) = false := bne_eq_false_iff_eq.mpr c58
      clear c58
      (first | rw [c58b0] | rw [c58b1] | (simp only [i64_w, i32_w]; rw [c58b0]) | skip)
      by_cases c59 : x385000_2.toList = (strOfNums x7_1).toList
      rotate_left
      ·rw [if_neg c59] at H
       have c59b0 : (x385000_2.toList == (strOfNums x7_1).toList) = false := beq_eq_false_iff_ne.mpr c59
       have c59b1 : (x385000_2.toList != (strOfNums x7_1).toList) = true := bne_iff_ne.mpr c59
       have H' := Aside0.mk H
       clear H
       have hcz64_0 : w57.cell? ⟨gb384, 0, none⟩ = some (.string x385000_2) := (blk_cell BK384.out 0).trans rfl
       have hcz64_1 : w57.cell? ⟨gb384, 1, none⟩ = some (.slice Ao56 x385001_2.length co56) := (blk_cell BK384.out 1).trans rfl
       have hfz64_0 := blk_frozen BK384.out 0
       have hfz64_1 := blk_frozen BK384.out 1
       have hcv65 := own_string (P := Tryd.prog) Tryd.underlying41 Tryd.underlying5 Tryd.underlying9 (Kd.own_of_R HO_7.out)
       go_wp2
       go_meet
       case rel => exact ⟨_, (true), (by first | rfl | (simp; done) | (simp [*]; done)), H', ⟨by have := HK1.out; have := HK2.out; first | omega | exact Nat.le_refl _⟩, ⟨by (with_reducible repeat (first | apply Kd.R_alloc | apply Kd.R_drewN | apply Kd.R_drew)); exact HO404.out⟩, ⟨by (with_reducible repeat (first | apply Kd.R_alloc | apply Kd.R_drewN | apply Kd.R_drew)); exact HO_385001.out⟩, ⟨by (with_reducible repeat (first | refine blk_drewN ?_ _ | refine blk_drew ?_ | refine blk_alloc ?_ _)); exact BK384.out⟩, ⟨by repeat (first | (with_reducible first | exact HB.out | apply below_alloc | apply pw_below_drewN | apply below_drew1 | refine below_set ?_ GE384.out) | exact HB.out)⟩⟩
      rw [if_pos c59] at H
      have c59b0 : (x385000_2.toList == (strOfNums x7_1).toList) = true := beq_iff_eq.mpr c59
      have c59b1 : (x385000_2.toList != (strOfNums x7_1).toList) = false := bne_eq_false_iff_eq.mpr c59
      clear c59
      replace H := Option.bind_eq_some_iff.mp H
      obtain ⟨t406, A600, H⟩ := H
      replace H : (fCover.j2 k2 t402 (t406 != 0) x385000_2 x385001_2) = some true := H
      have A60 := Aside0.mk A600
      clear A600
      have H' := Aside0.mk H
      clear H
      have hcz61_0 : w57.cell? ⟨gb384, 0, none⟩ = some (.string x385000_2) := (blk_cell BK384.out 0).trans rfl
      have hcz61_1 : w57.cell? ⟨gb384, 1, none⟩ = some (.slice Ao56 x385001_2.length co56) := (blk_cell BK384.out 1).trans rfl
      have hfz61_0 := blk_frozen BK384.out 0
      have hfz61_1 := blk_frozen BK384.out 1
      have hcv62 := own_string (P := Tryd.prog) Tryd.underlying41 Tryd.underlying5 Tryd.underlying9 (Kd.own_of_R HO_7.out)
      go_wp2_with (first | (go_at_call 15; (with_reducible refine (fields_Check.calls x385000_2 _ _ x385001_2 t406 _ (Gd.below HG.out (by repeat (first | (with_reducible first | exact HB.out | apply below_alloc | apply pw_below_drewN | apply below_drew1 | refine below_set ?_ GE384.out) | exact HB.out))) ?side1 ?side2 A60.out).mono ?_); (case side1 => repeat (first | exact (Kd.R_reads' HO_385001.out).2.2 | (with_reducible refine Kd.C_alloc ?_ _) | (with_reducible refine Kd.C_drewN ?_ _) | (with_reducible refine Kd.C_drew ?_))); (case side2 => exact (Kd.R_reads' HO_385001.out).2.1); rintro e w63 ⟨rfl, hb⟩; have n0_ := Aside0.mk (Kd.R_below (by (with_reducible repeat (first | apply Kd.R_alloc | apply Kd.R_drewN | apply Kd.R_drew)); exact HO_7.out) hb); have n1_ := Aside0.mk (Kd.R_below (by (with_reducible repeat (first | apply Kd.R_alloc | apply Kd.R_drewN | apply Kd.R_drew)); exact HO_385001.out) hb); have n2_ := Aside0.mk (Kd.R_below (by (with_reducible repeat (first | apply Kd.R_alloc | apply Kd.R_drewN | apply Kd.R_drew)); exact HO404.out) hb); have n3_ := Aside0.mk (blk_below (g := gb384) (o := .cells #[.string x385000_2, .slice Ao56 x385001_2.length co56] 25 (0, 0)) (by (with_reducible repeat (first | refine blk_drewN ?_ _ | refine blk_drew ?_ | refine blk_alloc ?_ _)); exact BK384.out) hb); have n4_ := Aside0.mk (below_step (by repeat (first | (with_reducible first | exact HB.out | apply below_alloc | apply pw_below_drewN | apply below_drew1 | refine below_set ?_ GE384.out) | exact HB.out)) hb); clear HO_7; clear HO_385001; clear HO404; clear BK384; clear HB; have HO_7 := n0_; have HO_385001 := n1_; have HO404 := n2_; have BK384 := n3_; have HB := n4_; clear n0_ n1_ n2_ n3_ n4_; (try clear hb); (try clear hb2); (try clear hk); (try clear hi)))
      go_meet
      case rel => exact ⟨_, ((t406 != 0)), (by first | rfl | (simp; done) | (simp [*]; done)), H', ⟨by have := HK1.out; have := HK2.out; first | omega | exact Nat.le_refl _⟩, ⟨by (with_reducible repeat (first | apply Kd.R_alloc | apply Kd.R_drewN | apply Kd.R_drew)); exact HO404.out⟩, ⟨by (with_reducible repeat (first | apply Kd.R_alloc | apply Kd.R_drewN | apply Kd.R_drew)); exact HO_385001.out⟩, ⟨by (with_reducible repeat (first | refine blk_drewN ?_ _ | refine blk_drew ?_ | refine blk_alloc ?_ _)); exact BK384.out⟩, ⟨by repeat (first | (with_reducible first | exact HB.out | apply below_alloc | apply pw_below_drewN | apply below_drew1 | refine below_set ?_ GE384.out) | exact HB.out)⟩⟩
     case rest => as_aux_lemma =>
      clear HC54
      (try clear c1); (try clear c2); (try clear p2); (try clear p3); (try clear q3); (try clear hx3); (try clear c4); (try clear c5); (try clear p6); (try clear hcv6); (try clear c13); (try clear c18); (try clear c18b0); (try clear c19); (try clear c21); (try clear c21b0); (try clear c21b1); (try clear p39); (try clear q39); (try clear hx39); (try clear c42); (try clear c58); (try clear c58b0); (try clear c58b1); (try clear c59); (try clear c59b0); (try clear c59b1); (try clear hcv62); (try clear p64); (try clear hcv65); (try clear hcz43_0); (try clear hcz43_1); (try clear hcz44_0); (try clear hcz44_1); (try clear hcz55_0); (try clear hcz55_1); (try clear hcz61_0); (try clear hcz61_1); (try clear hcz64_0); (try clear hcz64_1); (try clear hfz43_0); (try clear hfz43_1); (try clear hfz44_0); (try clear hfz44_1); (try clear hfz55_0); (try clear hfz55_1); (try clear hfz61_0); (try clear hfz61_1); (try clear hfz64_0); (try clear hfz64_1); (try clear hx393_0); (try clear hx393_1); (try clear hx393_2); (try clear hx394_0); (try clear hx394_1); (try clear hx394_2); (try clear hx395_0); (try clear hx395_1); (try clear hx395_2); (try clear p393); (try clear p394); (try clear p395); (try clear q393); (try clear q394); (try clear q395)
      obtain ⟨kq, x113_53, rfl, HA, HJ53, HO_12, HO_385001, BK384, HB⟩ := hcut
      cases kq with
      | zero => exact absurd HA.out (by simp [fCover.j2])
      | succ kj53 =>
       have H := HA.out
       clear HA
       simp only [fCover.j2] at H
       by_cases c66 : x113_53 = true
       ·subst c66
        have H1 : (some false) = some true := by rw [if_pos rfl] at H; exact H
        clear H
        have H := H1
        clear H1
        exact absurd H (by simp)
       replace c66 := Bool.eq_false_iff.mpr c66
       subst c66
       have H1 : (if 0 ≤ (wrap64 ((x385000_2.size : Int) + 1)) then (if (wrap64 ((x385000_2.size : Int) + 1) : Int).toNat ≤ 281474976710656 then ((some (List.replicate (wrap64 ((x385000_2.size : Int) + 1) : Int).toNat false : List Bool)).bind fun y407 => (if 0 < (y407.length : Int) then (fCover.l2 kj53 t402 (y407.set (0 : Int).toNat true) 0 0 x385000_2 x385001_2) else (none))) else (none)) else (none)) = some true := by rw [if_neg (show ¬ (false = true) by decide)] at H; exact H
       clear H
       have H := H1
       clear H1
       obtain ⟨ji67, hji67⟩ : ∃ j_ : Int, (wrap64 ((x385000_2.size : Int) + 1)) = j_ := ⟨_, rfl⟩
       replace H : (if 0 ≤ (ji67) then (if (ji67 : Int).toNat ≤ 281474976710656 then ((some (List.replicate (ji67 : Int).toNat false : List Bool)).bind fun y407 => (if 0 < (y407.length : Int) then (fCover.l2 kj53 t402 (y407.set (0 : Int).toNat true) 0 0 x385000_2 x385001_2) else (none))) else (none)) else (none)) = some true := by first | (rw [hji67] at H; exact H) | (simp only [hji67] at H ⊢; exact H)
       have hji67w : (IntKind.i64.wrap ((x385000_2.size : Int) + 1)) = ji67 := (i64_w _).trans hji67
       by_cases c68 : 0 ≤ (ji67)
       rotate_left
       ·rw [if_neg c68] at H
        exact absurd H (by simp)
       rw [if_pos c68] at H
       have c68b0 := eq_true c68
       have c68b1 : decide (0 ≤ (ji67)) = true := decide_eq_true c68
       clear c68
       by_cases c69 : (ji67 : Int).toNat ≤ 281474976710656
       rotate_left
       ·rw [if_neg c69] at H
        exact absurd H (by simp)
       rw [if_pos c69] at H
       have c69b0 := eq_true c69
       have c69b1 : decide ((ji67 : Int).toNat ≤ 281474976710656) = true := decide_eq_true c69
       clear c69
       obtain ⟨y407, hy407⟩ : ∃ y_ : List Bool, y_ = (List.replicate (ji67 : Int).toNat false) := ⟨_, rfl⟩
       replace H : (if 0 < (y407.length : Int) then (fCover.l2 kj53 t402 (y407.set (0 : Int).toNat true) 0 0 x385000_2 x385001_2) else (none)) = some true := by first | (rw [hy407]; with_reducible exact H) | (have H2_ := (Option.bind_some _ _).symm.trans H; rw [hy407]; with_reducible exact H2_) | (have H2_ := (Option.bind_some _ _).symm.trans H; with_reducible exact H2_) | with_reducible exact H | (rw [hy407]; exact H) | exact H
       have Ny407 := Aside0.mk hy407
       clear hy407
       by_cases c70 : 0 < (y407.length : Int)
       rotate_left
       ·rw [if_neg c70] at H
        exact absurd H (by simp)
       rw [if_pos c70] at H
       have c70b0 : decide (0 < (y407.length : Int)) = true := decide_eq_true c70
       have c70b1 : decide (0 < y407.length) = true := decide_eq_true (by omega)
       clear c70
       obtain ⟨y410, hy410⟩ : ∃ y_ : List Bool, y_ = (y407.set (0 : Int).toNat true) := ⟨_, rfl⟩
       replace H : (fCover.l2 kj53 t402 y410 0 0 x385000_2 x385001_2) = some true := by first | (rw [hy410]; with_reducible exact H) | (have H2_ := (Option.bind_some _ _).symm.trans H; rw [hy410]; with_reducible exact H2_) | (have H2_ := (Option.bind_some _ _).symm.trans H; with_reducible exact H2_) | with_reducible exact H | (rw [hy410]; exact H) | exact H
       have Ny410 := Aside0.mk hy410
       clear hy410
       have H' := Aside0.mk H
       clear H
       have hcz72_0 : wc.cell? ⟨gb384, 0, none⟩ = some (.string x385000_2) := (blk_cell BK384.out 0).trans rfl
       have hcz72_1 : wc.cell? ⟨gb384, 1, none⟩ = some (.slice Ao56 x385001_2.length co56) := (blk_cell BK384.out 1).trans rfl
       have hfz72_0 := blk_frozen BK384.out 0
       have hfz72_1 := blk_frozen BK384.out 1
       go_wp2_with (first | ((with_reducible refine gate_dst (N := 118) rfl ?_); (try (refine gate_guard (by rfl) ?_; dsimp only)); refine Kd.R_make Kd.bool _ 4 rfl (N := 118) rfl 46 _ _ rfl ji67 rfl rfl Tryd.underlying46 (.bool false) 1 info4 rfl (by decide) (by omega) false (ok := fun _ => True) (okp := fun _ => True) rfl (fun _ hk => hk) trivial (of_decide_eq_true (by first | (with_reducible assumption) | assumption)) (Nat.le_trans (Nat.mul_le_mul_right _ (of_decide_eq_true (by first | (with_reducible assumption) | assumption) : ji67.toNat ≤ 281474976710656)) (by omega)) (Below.refl _ _) (Nat.le_refl _) ?_; intro v408 w73 ho74 hb hg_ hnew_; clear hg_ hnew_; (first | rw [← Ny407.out] at ho74 | (simp only [Int.reduceToNat] at ho74; rw [← Ny407.out] at ho74)); have n0_ := Aside0.mk (Kd.R_below (by (with_reducible repeat (first | apply Kd.R_alloc | apply Kd.R_drewN | apply Kd.R_drew)); exact HO_12.out) hb); have n1_ := Aside0.mk (Kd.R_below (by (with_reducible repeat (first | apply Kd.R_alloc | apply Kd.R_drewN | apply Kd.R_drew)); exact HO_385001.out) hb); have n2_ := Aside0.mk (Kd.R_lower ho74 (below_size (by repeat (first | (with_reducible first | exact HB.out | apply below_alloc | apply pw_below_drewN | apply below_drew1 | refine below_set ?_ GE384.out) | exact HB.out)))); have n3_ := Aside0.mk (blk_below (g := gb384) (o := .cells #[.string x385000_2, .slice Ao56 x385001_2.length co56] 25 (0, 0)) (by (with_reducible repeat (first | refine blk_drewN ?_ _ | refine blk_drew ?_ | refine blk_alloc ?_ _)); exact BK384.out) hb); have n4_ := Aside0.mk (below_step (by repeat (first | (with_reducible first | exact HB.out | apply below_alloc | apply pw_below_drewN | apply below_drew1 | refine below_set ?_ GE384.out) | exact HB.out)) hb); clear HO_12; clear HO_385001; clear BK384; clear HB; have HO_12 := n0_; have HO_385001 := n1_; have HO409 := n2_; have BK384 := n3_; have HB := n4_; clear n0_ n1_ n2_ n3_ n4_; clear hb ho74; have p71 : 0 ≤ (0 : Int) := (by omega); have q71 : (0 : Int) < ((y407.length : Int) : Int) := of_decide_eq_true (by first | (with_reducible assumption) | assumption); have qi71 : (0 < y407.length) = True := eq_true (by omega); obtain ⟨go71, co71, eo71, gb71, gl71, cl71, HG71⟩ := Kd.R_form HO409.out (by omega); (first | cases eo71 | (injection eo71 with ea_ en_ ec_; (first | subst ea_ | (injection ea_ with ea_; subst ea_)); subst ec_; clear en_)); have GB71 := Aside0.mk gb71; have GG71 := Aside0.mk HG71; clear gb71 gl71 HG71; obtain ⟨hx71_0, hf71_0⟩ := Kd.R_celln false HO409.out (0 : Int) p71 q71; (try rw [show ((0 : Int)).toNat = 0 from rfl] at hx71_0); (try simp only [Nat.reduceMul, Nat.zero_mul, Nat.zero_add, Nat.reduceAdd] at hx71_0); (try rw [show ((0 : Int)).toNat = 0 from rfl] at hf71_0); (try simp only [Nat.reduceMul, Nat.zero_mul, Nat.zero_add, Nat.reduceAdd] at hf71_0); replace p71 := eq_true p71; replace q71 := eq_true q71; obtain ⟨hy75_, hz75_⟩ := Kd.R_celln false HO409.out (0 : Int) (by omega) (of_decide_eq_true (by first | (with_reducible assumption) | assumption)); (try simp only [Int.reduceToNat, Int.toNat_zero, Int.toNat_ofNat, Nat.reduceMul, Nat.zero_mul, Nat.zero_add] at hy75_ hz75_); (try rw [show ((0 : Int)).toNat = 0 from rfl] at hy75_); (try rw [show ((0 : Int)).toNat = 0 from rfl] at hz75_); have HP75 := Kd.R_putg HO409.out (0 : Int) true) | ((with_reducible refine gate_store (t := 4) (p := 120) rfl ?_); refine store_event (t := 4) (p := 120) (v := ?vo_w76) (w1 := (w73.setCell ⟨go71, (0 : Int).toNat, none⟩ (.bool true))) ?hg ?ho ?hn ?hr ?_; (case ho => rfl); (case hg => rfl); (case hn => rfl); (case hr => first | (go_simp; done) | (go_simp; rfl)); intro w76 hw; have hg : w73.grownBy w76 (some go71) := (by rw [hw]; exact HP75.2); have hp_ : Kd.R Kd.bool 4 w76 w.heap.size (fun _ => True) (.slice (some ⟨go71, 0, none⟩) y407.length co71) y410 := (by rw [hw, Ny410.out]; exact HP75.1); clear HP75; have n0_ := Aside0.mk (Kd.R_over' (v := (.slice (some ⟨go71, 0, none⟩) y407.length co71)) (by (with_reducible repeat (first | apply Kd.R_alloc | apply Kd.R_drewN | apply Kd.R_drew)); exact HO_12.out) (Kd.R_typed HO409.out) (by decide) hg); have n1_ := Aside0.mk (Kd.R_over' (v := (.slice (some ⟨go71, 0, none⟩) y407.length co71)) (by (with_reducible repeat (first | apply Kd.R_alloc | apply Kd.R_drewN | apply Kd.R_drew)); exact HO_385001.out) (Kd.R_typed HO409.out) (by decide) hg); have n2_ := Aside0.mk (blk_grown (g := gb384) (o := .cells #[.string x385000_2, .slice Ao56 x385001_2.length co56] 25 (0, 0)) (by (with_reducible repeat (first | refine blk_drewN ?_ _ | refine blk_drew ?_ | refine blk_alloc ?_ _)); exact BK384.out) hg (Kd.R_ne HO409.out BK384.out (by decide))); have n3_ := Aside0.mk (hp_); have n4_ := Aside0.mk ((by rw [hw]; exact below_set (HB.out) GB71.out : Below w.heap.size w w76)); clear HO_12; clear HO_385001; clear BK384; clear HO409; clear HB; have HO_12 := n0_; have HO_385001 := n1_; have BK384 := n2_; have HO409 := n3_; have HB := n4_; clear n0_ n1_ n2_ n3_ n4_; clear hg hw hp_))
       go_loopg [15, 16] kj53 (fun kq v15 v16 w' => ∃ (x14_4 : List Bool) (x15_4 : Int) (x16_4 : Int), v15 = .int .i64 x15_4 ∧ v16 = .int .i64 x16_4 ∧ Aside0 (fCover.l2 kq t402 x14_4 x15_4 x16_4 x385000_2 x385001_2 = some true) ∧ Aside0 (kq ≤ kj53) ∧ Aside0 (Kd.R k43 43 w' w.heap.size (fun _ => True) v403 t402) ∧ Aside0 (Kd.R Kd.bool 4 w' w.heap.size (fun _ => True) (.slice (some ⟨go71, 0, none⟩) y407.length co71) x14_4) ∧ Aside0 (Kd.R k31 31 w' w.heap.size (fun _ => True) (.slice Ao56 x385001_2.length co56) x385001_2) ∧ Aside0 (w'.heap[gb384]? = some (.cells #[.string x385000_2, (.slice Ao56 x385001_2.length co56)] 25 (0, 0))) ∧ Aside0 (Below w.heap.size w w'))
       case atStart => exact ⟨(y410), (0), (0), (by first | rfl | (simp; done) | (simp [*]; done)), (by first | rfl | (simp; done) | (simp [*]; done)), H', ⟨Nat.le_refl _⟩, ⟨by (with_reducible repeat (first | apply Kd.R_alloc | apply Kd.R_drewN | apply Kd.R_drew)); exact HO_12.out⟩, ⟨by (with_reducible repeat (first | apply Kd.R_alloc | apply Kd.R_drewN | apply Kd.R_drew)); exact HO409.out⟩, ⟨by (with_reducible repeat (first | apply Kd.R_alloc | apply Kd.R_drewN | apply Kd.R_drew)); exact HO_385001.out⟩, ⟨by (with_reducible repeat (first | refine blk_drewN ?_ _ | refine blk_drew ?_ | refine blk_alloc ?_ _)); exact BK384.out⟩, ⟨by repeat (first | (with_reducible first | exact HB.out | apply below_alloc | apply pw_below_drewN | apply below_drew1 | refine below_set ?_ GE384.out) | exact HB.out)⟩⟩
       case round => as_aux_lemma =>
        clear H'
        (try clear c1); (try clear c2); (try clear p2); (try clear p3); (try clear q3); (try clear hx3); (try clear c4); (try clear c5); (try clear c6); (try clear p6); (try clear hcv6); (try clear c7); (try clear p7); (try clear q7); (try clear hx7); (try clear qi7); (try clear hf7); (try clear c13); (try clear c18); (try clear c18b0); (try clear c19); (try clear c21); (try clear c21b0); (try clear c21b1); (try clear p39); (try clear q39); (try clear hx39); (try clear c42); (try clear c58); (try clear c58b0); (try clear c58b1); (try clear c59); (try clear c59b0); (try clear c59b1); (try clear hcv62); (try clear p64); (try clear hcv65); (try clear c66); (try clear c68); (try clear c68b0); (try clear c68b1); (try clear c69); (try clear c69b0); (try clear c69b1); (try clear c70); (try clear c70b0); (try clear c70b1); (try clear p71); (try clear q71); (try clear hx71); (try clear qi71); (try clear hf71); (try clear hcz43_0); (try clear hcz43_1); (try clear hcz44_0); (try clear hcz44_1); (try clear hcz55_0); (try clear hcz55_1); (try clear hcz61_0); (try clear hcz61_1); (try clear hcz64_0); (try clear hcz64_1); (try clear hcz72_0); (try clear hcz72_1); (try clear hfz43_0); (try clear hfz43_1); (try clear hfz44_0); (try clear hfz44_1); (try clear hfz55_0); (try clear hfz55_1); (try clear hfz61_0); (try clear hfz61_1); (try clear hfz64_0); (try clear hfz64_1); (try clear hfz72_0); (try clear hfz72_1); (try clear hx393_0); (try clear hx393_1); (try clear hx393_2); (try clear hx394_0); (try clear hx394_1); (try clear hx394_2); (try clear hx395_0); (try clear hx395_1); (try clear hx395_2); (try clear hx71_0); (try clear p2); (try clear p3); (try clear p39); (try clear p393); (try clear p394); (try clear p395); (try clear p6); (try clear p64); (try clear p71); (try clear q3); (try clear q39); (try clear q393); (try clear q394); (try clear q395); (try clear q71)
        obtain ⟨x14_4, x15_4, x16_4, rfl, rfl, HA, HK4, HO_12, HO_14, HO_385001, BK384, HB⟩ := hrel
        have hl14_4 := (Kd.R_reads' HO_14.out).1
        rw [hl14_4] at HO_14
        (try simp only [hl14_4])
        (try simp only [hl14_4] at BK384)
        (try simp only [hl14_4] at HO_12)
        (try simp only [hl14_4] at HO_385001)
        cases gk with
        | zero => exact absurd HA.out (by simp [fCover.l2])
        | succ k4 =>
         have H := HA.out
         clear HA
         simp only [fCover.l2] at H
         by_cases c77 : x16_4 < (t402.length : Int)
         ·rw [if_pos c77] at H
          have c77b0 : decide (x16_4 < (t402.length : Int)) = true := decide_eq_true c77
          clear c77
          by_cases c78 : 0 ≤ x16_4
          rotate_left
          ·rw [if_neg c78] at H
           exact absurd H (by simp)
          rw [if_pos c78] at H
          have c78b0 : decide (0 ≤ x16_4) = true := decide_eq_true c78
          clear c78
          by_cases c79 : (((rd_T43 t402 x16_4).f0).size : Int) = 0
          ·rw [if_pos c79] at H
           exact absurd H (by simp)
          rw [if_neg c79] at H
          have c79b0 : ((((rd_T43 t402 x16_4).f0).size : Int) == 0) = false := beq_eq_false_iff_ne.mpr c79
          have c79b1 : ((((rd_T43 t402 x16_4).f0).size : Int) != 0) = true := bne_iff_ne.mpr c79
          by_cases c82 : (((rd_T43 t402 x16_4).f0).size : Int) > (wrap64 ((x385000_2.size : Int) - x15_4))
          ·rw [if_pos c82] at H
           exact absurd H (by simp)
          rw [if_neg c82] at H
          have c82b0 : decide ((wrap64 ((x385000_2.size : Int) - x15_4)) < (((rd_T43 t402 x16_4).f0).size : Int)) = false := decide_eq_false c82
          clear c82
          by_cases c85 : 0 ≤ x15_4
          rotate_left
          ·rw [if_neg c85] at H
           exact absurd H (by simp)
          rw [if_pos c85] at H
          have c85b0 := eq_true c85
          have c85b1 : decide (0 ≤ x15_4) = true := decide_eq_true c85
          clear c85
          by_cases c86 : x15_4 ≤ (wrap64 (x15_4 + (((rd_T43 t402 x16_4).f0).size : Int)))
          rotate_left
          ·rw [if_neg c86] at H
           exact absurd H (by simp)
          rw [if_pos c86] at H
          have c86b0 := eq_true c86
          have c86b1 : decide (x15_4 ≤ (wrap64 (x15_4 + (((rd_T43 t402 x16_4).f0).size : Int)))) = true := decide_eq_true c86
          by_cases c87 : (wrap64 (x15_4 + (((rd_T43 t402 x16_4).f0).size : Int))) ≤ (x385000_2.size : Int)
          rotate_left
          ·rw [if_neg c87] at H
           exact absurd H (by simp)
          rw [if_pos c87] at H
          have c87b0 := eq_true c87
          have c87b1 : decide ((wrap64 (x15_4 + (((rd_T43 t402 x16_4).f0).size : Int))) ≤ (x385000_2.size : Int)) = true := decide_eq_true c87
          by_cases c88 : (x385000_2.extract (x15_4 : Int).toNat ((wrap64 (x15_4 + (((rd_T43 t402 x16_4).f0).size : Int))) : Int).toNat).toList = ((rd_T43 t402 x16_4).f0).toList
          rotate_left
          ·rw [if_neg c88] at H
           exact absurd H (by simp)
          rw [if_pos c88] at H
          (try (have c88n := c88; simp only [ByteArray.size_extract, ByteArray.size_append] at c88n; have c88n0 := eq_true c88n; have c88n1 := decide_eq_true c88n; (try have c88n2 := eq_false (Nat.not_lt.2 c88n))))
          (try (have c88m := c88; simp at c88m; have c88m0 := eq_true c88m; have c88m1 := decide_eq_true c88m; (try have c88m2 := eq_false (Nat.not_lt.2 c88m))))
          have c88b0 : ((x385000_2.extract (x15_4 : Int).toNat ((wrap64 (x15_4 + (((rd_T43 t402 x16_4).f0).size : Int))) : Int).toNat).toList == ((rd_T43 t402 x16_4).f0).toList) = true := beq_iff_eq.mpr c88
          have c88b1 : ((x385000_2.extract (x15_4 : Int).toNat ((wrap64 (x15_4 + (((rd_T43 t402 x16_4).f0).size : Int))) : Int).toNat).toList != ((rd_T43 t402 x16_4).f0).toList) = false := bne_eq_false_iff_eq.mpr c88
          clear c88
          by_cases c89 : ((rd_T43 t402 x16_4).f1) < 0
          ·rw [if_pos c89] at H
           exact absurd H (by simp)
          rw [if_neg c89] at H
          have c89b0 : decide (((rd_T43 t402 x16_4).f1) < 0) = false := decide_eq_false c89
          clear c89
          by_cases c92 : ((rd_T43 t402 x16_4).f1) > 17
          ·rw [if_pos c92] at H
           exact absurd H (by simp)
          rw [if_neg c92] at H
          have c92b0 : decide (17 < ((rd_T43 t402 x16_4).f1)) = false := decide_eq_false c92
          clear c92
          obtain ⟨ji95, hji95⟩ : ∃ j_ : Int, (wrap64 (x15_4 + (((rd_T43 t402 x16_4).f0).size : Int))) = j_ := ⟨_, rfl⟩
          replace H : (if 0 ≤ (ji95) then (if (ji95) < (x14_4.length : Int) then (fCover.l2 k4 t402 (x14_4.set ((ji95) : Int).toNat true) ji95 (wrap64 (x16_4 + 1)) x385000_2 x385001_2) else (none)) else (none)) = some true := by first | (rw [hji95] at H; exact H) | (simp only [hji95] at H ⊢; exact H)
          (try rw [hji95] at c86b0)
          (try rw [hji95] at c86b1)
          (try rw [hji95] at c86)
          (try rw [hji95] at c87b0)
          (try rw [hji95] at c87b1)
          (try rw [hji95] at c87)
          (try rw [hji95] at c88b0)
          (try rw [hji95] at c88b1)
          have hji95w : (IntKind.i64.wrap (x15_4 + (((rd_T43 t402 x16_4).f0).size : Int))) = ji95 := (i64_w _).trans hji95
          by_cases c96 : 0 ≤ (ji95)
          rotate_left
          ·rw [if_neg c96] at H
           exact absurd H (by simp)
          rw [if_pos c96] at H
          have c96b0 : decide (0 ≤ (ji95)) = true := decide_eq_true c96
          clear c96
          by_cases c97 : (ji95) < (x14_4.length : Int)
          rotate_left
          ·rw [if_neg c97] at H
           exact absurd H (by simp)
          rw [if_pos c97] at H
          have c97b0 : decide ((ji95) < (x14_4.length : Int)) = true := decide_eq_true c97
          clear c97
          obtain ⟨y415, hy415⟩ : ∃ y_ : List Bool, y_ = (x14_4.set ((ji95) : Int).toNat true) := ⟨_, rfl⟩
          replace H : (fCover.l2 k4 t402 y415 ji95 (wrap64 (x16_4 + 1)) x385000_2 x385001_2) = some true := by first | (rw [hy415]; with_reducible exact H) | (have H2_ := (Option.bind_some _ _).symm.trans H; rw [hy415]; with_reducible exact H2_) | (have H2_ := (Option.bind_some _ _).symm.trans H; with_reducible exact H2_) | with_reducible exact H | (rw [hy415]; exact H) | exact H
          have Ny415 := Aside0.mk hy415
          clear hy415
          have H' := Aside0.mk H
          clear H
          obtain ⟨Ao99, co99, eo99⟩ := Kd.R_slice HO_12.out
          subst eo99
          have p411 : 0 ≤ (x16_4 : Int) := of_decide_eq_true (by first | (with_reducible assumption) | assumption)
          have q411 : x16_4 < (t402.length : Int) := of_decide_eq_true (by first | (with_reducible assumption) | assumption)
          obtain ⟨ad411, e411, hx411_0, hx411_1⟩ := at_T43 (Kd.R_reads' HO_12.out).2.2 x16_4 p411 q411
          cases e411
          replace p411 := eq_true p411
          replace q411 := eq_true q411
          try go_wp2
          have n0_ := Aside0.mk (Kd.R_drew HO_12.out)
          have n1_ := Aside0.mk (Kd.R_drew HO_14.out)
          have n2_ := Aside0.mk (Kd.R_drew HO_385001.out)
          have n3_ := Aside0.mk (blk_drew BK384.out)
          have n4_ := Aside0.mk (below_drew1 HB.out)
          clear HO_12
          clear HO_14
          clear HO_385001
          clear BK384
          clear HB
          have HO_12 := n0_
          have HO_14 := n1_
          have HO_385001 := n2_
          have BK384 := n3_
          have HB := n4_
          clear n0_ n1_ n2_ n3_ n4_
          have p412 : 0 ≤ (x16_4 : Int) := of_decide_eq_true (by first | (with_reducible assumption) | assumption)
          have q412 : x16_4 < (t402.length : Int) := of_decide_eq_true (by first | (with_reducible assumption) | assumption)
          obtain ⟨ad412, e412, hx412_0, hx412_1⟩ := at_T43 (Kd.R_reads' HO_12.out).2.2 x16_4 p412 q412
          obtain rfl : ad411 = ad412 := (by injection e412)
          replace p412 := eq_true p412
          replace q412 := eq_true q412
          have p413 : 0 ≤ (x16_4 : Int) := of_decide_eq_true (by first | (with_reducible assumption) | assumption)
          have q413 : x16_4 < (t402.length : Int) := of_decide_eq_true (by first | (with_reducible assumption) | assumption)
          obtain ⟨ad413, e413, hx413_0, hx413_1⟩ := at_T43 (Kd.R_reads' HO_12.out).2.2 x16_4 p413 q413
          obtain rfl : ad411 = ad413 := (by injection e413)
          replace p413 := eq_true p413
          replace q413 := eq_true q413
          have p414 : 0 ≤ (x16_4 : Int) := of_decide_eq_true (by first | (with_reducible assumption) | assumption)
          have q414 : x16_4 < (t402.length : Int) := of_decide_eq_true (by first | (with_reducible assumption) | assumption)
          obtain ⟨ad414, e414, hx414_0, hx414_1⟩ := at_T43 (Kd.R_reads' HO_12.out).2.2 x16_4 p414 q414
          obtain rfl : ad411 = ad414 := (by injection e414)
          replace p414 := eq_true p414
          replace q414 := eq_true q414
          refine start_ (n := 42) (S := fun w' => w'.cell? ⟨gb384, 0, none⟩ = some (.string x385000_2) ∧ w'.cell? ⟨gb384, 1, none⟩ = some (.slice Ao56 x385001_2.length co56) ∧ w'.cell? (ad411.add ((x16_4).toNat * 2)) = some (.string ((rd_T43 t402 x16_4).f0)) ∧ w'.cell? ⟨(ad411.add ((x16_4).toNat * 2)).block, (ad411.add ((x16_4).toNat * 2)).off + 1, none⟩ = some (.int .i64 ((rd_T43 t402 x16_4).f1)) ∧ w'.cell? (ad411.add ((x16_4).toNat * 2)) = some (.string ((rd_T43 t402 x16_4).f0)) ∧ w'.cell? ⟨(ad411.add ((x16_4).toNat * 2)).block, (ad411.add ((x16_4).toNat * 2)).off + 1, none⟩ = some (.int .i64 ((rd_T43 t402 x16_4).f1)) ∧ w'.cell? (ad411.add ((x16_4).toNat * 2)) = some (.string ((rd_T43 t402 x16_4).f0)) ∧ w'.cell? ⟨(ad411.add ((x16_4).toNat * 2)).block, (ad411.add ((x16_4).toNat * 2)).off + 1, none⟩ = some (.int .i64 ((rd_T43 t402 x16_4).f1))) (ds := []) #[false, false, false, false, false, false, false, false, false, false, false, false, false, false, false, false, false, false, false, false, false, false, false, false, false, false, false, false, false, false, false, false, false, false, false, false, false, false, false, false, false, false] (by kernel_rfl) rfl rfl ⟨(blk_cell BK384.out 0).trans rfl, (blk_cell BK384.out 1).trans rfl, hx412_0, hx412_1, hx413_0, hx413_1, hx414_0, hx414_1⟩ (fun hHeld => ?_); refine with_tabW fCover.tab29 fCover.bits29 (fun HT_ HW_ => ?_)
          generalize wr.drew = w100 at HO_12 HO_14 HO_385001 BK384 HB hx412_0 hx412_1 hx413_0 hx413_1 hx414_0 hx414_1 hHeld ⊢
          refine pure_ (i := 0) (N := some 133) (v := ?_) (a' := ?_) (bN 42 1) rfl rfl (any_of HT_.out (by kernel_rfl)) (fun _ _ _ h => h) (Or.inl ⟨by rfl, ?_⟩) ?_ ?_
          rotate_left
          ·intro w'
           go_simp
           with_reducible rfl
          rotate_left
          ·simp only [Act.put, List.setIfInBounds_toArray, List.set_cons_zero, List.set_cons_succ, i64_w, i32_w]
           rfl
          refine pure_ (i := 1) (N := some 134) (v := ?_) (a' := ?_) (bN 42 3) rfl rfl (any_of HT_.out (by kernel_rfl)) (fun _ _ _ h => h) (Or.inl ⟨by rfl, ?_⟩) ?_ ?_
          rotate_left
          ·intro w'
           go_simp
           with_reducible rfl
          rotate_left
          ·simp only [Act.put, List.setIfInBounds_toArray, List.set_cons_zero, List.set_cons_succ, i64_w, i32_w]
           rfl
          refine pure_ (i := 2) (N := some 135) (v := ?_) (a' := ?_) (bN 42 7) rfl rfl (any_of HT_.out (by kernel_rfl)) (fun _ _ _ h => h) (Or.inl ⟨by rfl, ?_⟩) ?_ ?_
          rotate_left
          ·intro w'
           go_simp
           with_reducible rfl
          rotate_left
          ·simp only [Act.put, List.setIfInBounds_toArray, List.set_cons_zero, List.set_cons_succ, i64_w, i32_w]
           rfl
          refine pure_ (i := 3) (N := some 136) (v := ?_) (a' := ?_) (bN 42 15) rfl rfl (any_of HT_.out (by kernel_rfl)) (fun _ _ _ h => h) (Or.inl ⟨by rfl, ?_⟩) ?_ ?_
          rotate_left
          ·intro w'
           go_simp
           with_reducible rfl
          rotate_left
          ·simp only [Act.put, List.setIfInBounds_toArray, List.set_cons_zero, List.set_cons_succ, i64_w, i32_w]
           rfl
          refine pure_ (i := 4) (N := some 137) (v := ?_) (a' := ?_) (bN 42 31) rfl rfl (any_of HT_.out (by kernel_rfl)) (fun _ _ _ h => h) (Or.inl ⟨by rfl, ?_⟩) ?_ ?_
          rotate_left
          ·intro w'
           go_simp
           with_reducible rfl
          rotate_left
          ·simp only [Act.put, List.setIfInBounds_toArray, List.set_cons_zero, List.set_cons_succ, i64_w, i32_w]
           rfl
          refine pure_ (i := 7) (N := some 140) (v := ?_) (a' := ?_) (bN 42 159) rfl rfl (any_of HT_.out (by kernel_rfl)) (fun _ _ _ h => h) (Or.inl ⟨by rfl, ?_⟩) ?_ ?_
          rotate_left
          ·intro w'
           go_simp
           with_reducible rfl
          rotate_left
          ·simp only [Act.put, List.setIfInBounds_toArray, List.set_cons_zero, List.set_cons_succ, i64_w, i32_w]
           rfl
          refine take_ (i := 5) (N := some 138) (v := ?_) (a' := ?_) #[true, true, true, true, true, true, false, true, false, false, false, false, false, false, false, false, false, false, false, false, false, false, false, false, false, false, false, false, false, false, false, false, false, false, false, false, false, false, false, false, false, false] rfl rfl (take_ofW HT_.out HW_.out (by kernel_rfl)) (fun _ _ _ h => h) (Or.inl ⟨by rfl, ?_⟩) hHeld ?_ ?_
          rotate_left
          ·rintro w' ⟨s0, s1, s2, s3, s4, s5, s6, s7⟩
           go_simp
           with_reducible rfl
          rotate_left
          ·simp only [Act.put, List.setIfInBounds_toArray, List.set_cons_zero, List.set_cons_succ, i64_w, i32_w]
           rfl
          refine pure_ (i := 6) (N := some 139) (v := ?_) (a' := ?_) (bN 42 255) rfl rfl (any_of HT_.out (by kernel_rfl)) (fun _ _ _ h => h) (Or.inl ⟨by rfl, ?_⟩) ?_ ?_
          rotate_left
          ·intro w'
           go_simp
           with_reducible rfl
          rotate_left
          ·simp only [Act.put, List.setIfInBounds_toArray, List.set_cons_zero, List.set_cons_succ, i64_w, i32_w]
           rfl
          refine pure_ (i := 8) (N := some 141) (v := ?_) (a' := ?_) (bN 42 511) rfl rfl (any_of HT_.out (by kernel_rfl)) (fun _ _ _ h => h) (Or.inl ⟨by rfl, ?_⟩) ?_ ?_
          rotate_left
          ·intro w'
           go_simp
           with_reducible rfl
          rotate_left
          ·simp only [Act.put, List.setIfInBounds_toArray, List.set_cons_zero, List.set_cons_succ, i64_w, i32_w]
           rfl
          refine pure_ (i := 9) (N := some 142) (v := ?_) (a' := ?_) (bN 42 1023) rfl rfl (any_of HT_.out (by kernel_rfl)) (fun _ _ _ h => h) (Or.inl ⟨by rfl, ?_⟩) ?_ ?_
          rotate_left
          ·intro w'
           go_simp
           with_reducible rfl
          rotate_left
          ·simp only [Act.put, List.setIfInBounds_toArray, List.set_cons_zero, List.set_cons_succ, i64_w, i32_w]
           rfl
          refine pure_ (i := 10) (N := some 143) (v := ?_) (a' := ?_) (bN 42 2047) rfl rfl (any_of HT_.out (by kernel_rfl)) (fun _ _ _ h => h) (Or.inl ⟨by rfl, ?_⟩) ?_ ?_
          rotate_left
          ·intro w'
           go_simp
           with_reducible rfl
          rotate_left
          ·simp only [Act.put, List.setIfInBounds_toArray, List.set_cons_zero, List.set_cons_succ, i64_w, i32_w]
           rfl
          refine pure_ (i := 11) (N := some 144) (v := ?_) (a' := ?_) (bN 42 4095) rfl rfl (any_of HT_.out (by kernel_rfl)) (fun _ _ _ h => h) (Or.inl ⟨by rfl, ?_⟩) ?_ ?_
          rotate_left
          ·intro w'
           go_simp
           with_reducible rfl
          rotate_left
          ·simp only [Act.put, List.setIfInBounds_toArray, List.set_cons_zero, List.set_cons_succ, i64_w, i32_w]
           rfl
          refine pure_ (i := 12) (N := some 145) (v := ?_) (a' := ?_) (bN 42 8191) rfl rfl (any_of HT_.out (by kernel_rfl)) (fun _ _ _ h => h) (Or.inl ⟨by rfl, ?_⟩) ?_ ?_
          rotate_left
          ·intro w'
           go_simp
           with_reducible rfl
          rotate_left
          ·simp only [Act.put, List.setIfInBounds_toArray, List.set_cons_zero, List.set_cons_succ, i64_w, i32_w]
           rfl
          refine pure_ (i := 14) (N := some 147) (v := ?_) (a' := ?_) (bN 42 24575) rfl rfl (any_of HT_.out (by kernel_rfl)) (fun _ _ _ h => h) (Or.inl ⟨by rfl, ?_⟩) ?_ ?_
          rotate_left
          ·intro w'
           go_simp
           with_reducible rfl
          rotate_left
          ·simp only [Act.put, List.setIfInBounds_toArray, List.set_cons_zero, List.set_cons_succ, i64_w, i32_w]
           rfl
          refine pure_ (i := 15) (N := some 148) (v := ?_) (a' := ?_) (bN 42 57343) rfl rfl (any_of HT_.out (by kernel_rfl)) (fun _ _ _ h => h) (Or.inl ⟨by rfl, ?_⟩) ?_ ?_
          rotate_left
          ·intro w'
           go_simp
           with_reducible rfl
          rotate_left
          ·simp only [Act.put, List.setIfInBounds_toArray, List.set_cons_zero, List.set_cons_succ, i64_w, i32_w]
           rfl
          refine pure_ (i := 16) (N := some 149) (v := ?_) (a' := ?_) (bN 42 122879) rfl rfl (any_of HT_.out (by kernel_rfl)) (fun _ _ _ h => h) (Or.inl ⟨by rfl, ?_⟩) ?_ ?_
          rotate_left
          ·intro w'
           go_simp
           with_reducible rfl
          rotate_left
          ·simp only [Act.put, List.setIfInBounds_toArray, List.set_cons_zero, List.set_cons_succ, i64_w, i32_w]
           rfl
          refine pure_ (i := 17) (N := some 150) (v := ?_) (a' := ?_) (bN 42 253951) rfl rfl (any_of HT_.out (by kernel_rfl)) (fun _ _ _ h => h) (Or.inl ⟨by rfl, ?_⟩) ?_ ?_
          rotate_left
          ·intro w'
           go_simp
           with_reducible rfl
          rotate_left
          ·simp only [Act.put, List.setIfInBounds_toArray, List.set_cons_zero, List.set_cons_succ, i64_w, i32_w]
           rfl
          refine pure_ (i := 19) (N := some 152) (v := ?_) (a' := ?_) (bN 42 778239) rfl rfl (any_of HT_.out (by kernel_rfl)) (fun _ _ _ h => h) (Or.inl ⟨by rfl, ?_⟩) ?_ ?_
          rotate_left
          ·intro w'
           go_simp
           with_reducible rfl
          rotate_left
          ·simp only [Act.put, List.setIfInBounds_toArray, List.set_cons_zero, List.set_cons_succ, i64_w, i32_w]
           rfl
          refine pure_ (i := 20) (N := some 153) (v := ?_) (a' := ?_) (bN 42 1826815) rfl rfl (any_of HT_.out (by kernel_rfl)) (fun _ _ _ h => h) (Or.inl ⟨by rfl, ?_⟩) ?_ ?_
          rotate_left
          ·intro w'
           go_simp
           with_reducible rfl
          rotate_left
          ·simp only [Act.put, List.setIfInBounds_toArray, List.set_cons_zero, List.set_cons_succ, i64_w, i32_w]
           rfl
          refine pure_ (i := 21) (N := some 154) (v := ?_) (a' := ?_) (bN 42 3923967) rfl rfl (any_of HT_.out (by kernel_rfl)) (fun _ _ _ h => h) (Or.inl ⟨by rfl, ?_⟩) ?_ ?_
          rotate_left
          ·intro w'
           go_simp
           with_reducible rfl
          rotate_left
          ·simp only [Act.put, List.setIfInBounds_toArray, List.set_cons_zero, List.set_cons_succ, i64_w, i32_w]
           rfl
          refine pure_ (i := 22) (N := some 155) (v := ?_) (a' := ?_) (bN 42 8118271) rfl rfl (any_of HT_.out (by kernel_rfl)) (fun _ _ _ h => h) (Or.inl ⟨by rfl, ?_⟩) ?_ ?_
          rotate_left
          ·intro w'
           go_simp
           with_reducible rfl
          rotate_left
          ·simp only [Act.put, List.setIfInBounds_toArray, List.set_cons_zero, List.set_cons_succ, i64_w, i32_w]
           rfl
          refine take_ (i := 13) (N := some 146) (v := ?_) (a' := ?_) #[true, true, true, true, true, true, true, true, true, true, true, true, true, true, true, true, true, true, false, true, true, true, true, false, false, false, false, false, false, false, false, false, false, false, false, false, false, false, false, false, false, false] rfl rfl (take_ofW HT_.out HW_.out (by kernel_rfl)) (fun _ _ _ h => h) (Or.inl ⟨by rfl, ?_⟩) hHeld ?_ ?_
          rotate_left
          ·rintro w' ⟨s0, s1, s2, s3, s4, s5, s6, s7⟩
           go_simp
           with_reducible rfl
          rotate_left
          ·simp only [Act.put, List.setIfInBounds_toArray, List.set_cons_zero, List.set_cons_succ, i64_w, i32_w]
           rfl
          refine pure_ (i := 18) (N := some 151) (v := ?_) (a' := ?_) (bN 42 8388607) rfl rfl (any_of HT_.out (by kernel_rfl)) (fun _ _ _ h => h) (Or.inl ⟨by rfl, ?_⟩) ?_ ?_
          rotate_left
          ·intro w'
           go_simp
           with_reducible rfl
          rotate_left
          ·simp only [Act.put, List.setIfInBounds_toArray, List.set_cons_zero, List.set_cons_succ, i64_w, i32_w]
           rfl
          refine take_ (i := 23) (N := some 156) (v := ?_) (a' := ?_) #[true, true, true, true, true, true, true, true, true, true, true, true, true, true, true, true, true, true, true, true, true, true, true, true, false, false, false, false, false, false, false, false, false, false, false, false, false, false, false, false, false, false] rfl rfl (take_ofW HT_.out HW_.out (by kernel_rfl)) (fun _ _ _ h => h) (Or.inl ⟨by rfl, ?_⟩) hHeld ?_ ?_
          rotate_left
          ·rintro w' ⟨s0, s1, s2, s3, s4, s5, s6, s7⟩
           go_simp
           with_reducible rfl
          rotate_left
          ·simp only [Act.put, List.setIfInBounds_toArray, List.set_cons_zero, List.set_cons_succ, i64_w, i32_w]
           rfl
          refine pure_ (i := 24) (N := some 157) (v := ?_) (a' := ?_) (bN 42 33554431) rfl rfl (any_of HT_.out (by kernel_rfl)) (fun _ _ _ h => h) (Or.inl ⟨by rfl, ?_⟩) ?_ ?_
          rotate_left
          ·intro w'
           go_simp
           with_reducible rfl
          rotate_left
          ·simp only [Act.put, List.setIfInBounds_toArray, List.set_cons_zero, List.set_cons_succ, i64_w, i32_w]
           rfl
          refine pure_ (i := 25) (N := some 158) (v := ?_) (a' := ?_) (bN 42 67108863) rfl rfl (any_of HT_.out (by kernel_rfl)) (fun _ _ _ h => h) (Or.inl ⟨by rfl, ?_⟩) ?_ ?_
          rotate_left
          ·intro w'
           go_simp
           with_reducible rfl
          rotate_left
          ·simp only [Act.put, List.setIfInBounds_toArray, List.set_cons_zero, List.set_cons_succ, i64_w, i32_w]
           rfl
          refine pure_ (i := 26) (N := some 159) (v := ?_) (a' := ?_) (bN 42 134217727) rfl rfl (any_of HT_.out (by kernel_rfl)) (fun _ _ _ h => h) (Or.inl ⟨by rfl, ?_⟩) ?_ ?_
          rotate_left
          ·intro w'
           go_simp
           with_reducible rfl
          rotate_left
          ·simp only [Act.put, List.setIfInBounds_toArray, List.set_cons_zero, List.set_cons_succ, i64_w, i32_w]
           rfl
          refine pure_ (i := 27) (N := some 160) (v := ?_) (a' := ?_) (bN 42 268435455) rfl rfl (any_of HT_.out (by kernel_rfl)) (fun _ _ _ h => h) (Or.inl ⟨by rfl, ?_⟩) ?_ ?_
          rotate_left
          ·intro w'
           go_simp
           with_reducible rfl
          rotate_left
          ·simp only [Act.put, List.setIfInBounds_toArray, List.set_cons_zero, List.set_cons_succ, i64_w, i32_w]
           rfl
          refine pure_ (i := 28) (N := some 161) (v := ?_) (a' := ?_) (bN 42 536870911) rfl rfl (any_of HT_.out (by kernel_rfl)) (fun _ _ _ h => h) (Or.inl ⟨by rfl, ?_⟩) ?_ ?_
          rotate_left
          ·intro w'
           go_simp
           with_reducible rfl
          rotate_left
          ·simp only [Act.put, List.setIfInBounds_toArray, List.set_cons_zero, List.set_cons_succ, i64_w, i32_w]
           rfl
          refine pure_ (i := 29) (N := some 162) (v := ?_) (a' := ?_) (bN 42 1073741823) rfl rfl (any_of HT_.out (by kernel_rfl)) (fun _ _ _ h => h) (Or.inl ⟨by rfl, ?_⟩) ?_ ?_
          rotate_left
          ·intro w'
           go_simp
           with_reducible rfl
          rotate_left
          ·simp only [Act.put, List.setIfInBounds_toArray, List.set_cons_zero, List.set_cons_succ, i64_w, i32_w]
           rfl
          refine pure_ (i := 30) (N := some 163) (v := ?_) (a' := ?_) (bN 42 2147483647) rfl rfl (any_of HT_.out (by kernel_rfl)) (fun _ _ _ h => h) (Or.inl ⟨by rfl, ?_⟩) ?_ ?_
          rotate_left
          ·intro w'
           go_simp
           with_reducible rfl
          rotate_left
          ·simp only [Act.put, List.setIfInBounds_toArray, List.set_cons_zero, List.set_cons_succ, i64_w, i32_w]
           rfl
          refine take_ (i := 31) (N := some 164) (v := ?_) (a' := ?_) #[true, true, true, true, true, true, true, true, true, true, true, true, true, true, true, true, true, true, true, true, true, true, true, true, true, true, true, true, true, true, true, true, false, false, false, false, false, false, false, false, false, false] rfl rfl (take_ofW HT_.out HW_.out (by kernel_rfl)) (fun _ _ _ h => h) (Or.inl ⟨by rfl, ?_⟩) hHeld ?_ ?_
          rotate_left
          ·rintro w' ⟨s0, s1, s2, s3, s4, s5, s6, s7⟩
           go_simp
           with_reducible rfl
          rotate_left
          ·simp only [Act.put, List.setIfInBounds_toArray, List.set_cons_zero, List.set_cons_succ, i64_w, i32_w]
           rfl
          refine pure_ (i := 32) (N := some 165) (v := ?_) (a' := ?_) (bN 42 8589934591) rfl rfl (any_of HT_.out (by kernel_rfl)) (fun _ _ _ h => h) (Or.inl ⟨by rfl, ?_⟩) ?_ ?_
          rotate_left
          ·intro w'
           go_simp
           with_reducible rfl
          rotate_left
          ·simp only [Act.put, List.setIfInBounds_toArray, List.set_cons_zero, List.set_cons_succ, i64_w, i32_w]
           rfl
          refine pure_ (i := 33) (N := some 166) (v := ?_) (a' := ?_) (bN 42 17179869183) rfl rfl (any_of HT_.out (by kernel_rfl)) (fun _ _ _ h => h) (Or.inl ⟨by rfl, ?_⟩) ?_ ?_
          rotate_left
          ·intro w'
           go_simp
           with_reducible rfl
          rotate_left
          ·simp only [Act.put, List.setIfInBounds_toArray, List.set_cons_zero, List.set_cons_succ, i64_w, i32_w]
           rfl
          refine pure_ (i := 34) (N := some 167) (v := ?_) (a' := ?_) (bN 42 34359738367) rfl rfl (any_of HT_.out (by kernel_rfl)) (fun _ _ _ h => h) (Or.inl ⟨by rfl, ?_⟩) ?_ ?_
          rotate_left
          ·intro w'
           go_simp
           with_reducible rfl
          rotate_left
          ·simp only [Act.put, List.setIfInBounds_toArray, List.set_cons_zero, List.set_cons_succ, i64_w, i32_w]
           rfl
          refine pure_ (i := 35) (N := some 168) (v := ?_) (a' := ?_) (bN 42 68719476735) rfl rfl (any_of HT_.out (by kernel_rfl)) (fun _ _ _ h => h) (Or.inl ⟨by rfl, ?_⟩) ?_ ?_
          rotate_left
          ·intro w'
           go_simp
           with_reducible rfl
          rotate_left
          ·simp only [Act.put, List.setIfInBounds_toArray, List.set_cons_zero, List.set_cons_succ, i64_w, i32_w]
           rfl
          refine pure_ (i := 36) (N := some 169) (v := ?_) (a' := ?_) (bN 42 137438953471) rfl rfl (any_of HT_.out (by kernel_rfl)) (fun _ _ _ h => h) (Or.inl ⟨by rfl, ?_⟩) ?_ ?_
          rotate_left
          ·intro w'
           go_simp
           with_reducible rfl
          rotate_left
          ·simp only [Act.put, List.setIfInBounds_toArray, List.set_cons_zero, List.set_cons_succ, i64_w, i32_w]
           rfl
          refine pure_ (i := 37) (N := some 170) (v := ?_) (a' := ?_) (bN 42 274877906943) rfl rfl (any_of HT_.out (by kernel_rfl)) (fun _ _ _ h => h) (Or.inl ⟨by rfl, ?_⟩) ?_ ?_
          rotate_left
          ·intro w'
           go_simp
           with_reducible rfl
          rotate_left
          ·simp only [Act.put, List.setIfInBounds_toArray, List.set_cons_zero, List.set_cons_succ, i64_w, i32_w]
           rfl
          refine pure_ (i := 38) (N := some 171) (v := ?_) (a' := ?_) (bN 42 549755813887) rfl rfl (any_of HT_.out (by kernel_rfl)) (fun _ _ _ h => h) (Or.inl ⟨by rfl, ?_⟩) ?_ ?_
          rotate_left
          ·intro w'
           go_simp
           with_reducible rfl
          rotate_left
          ·simp only [Act.put, List.setIfInBounds_toArray, List.set_cons_zero, List.set_cons_succ, i64_w, i32_w]
           rfl
          refine take_ (i := 39) (N := some 172) (v := ?_) (a' := ?_) #[true, true, true, true, true, true, true, true, true, true, true, true, true, true, true, true, true, true, true, true, true, true, true, true, true, true, true, true, true, true, true, true, true, true, true, true, true, true, true, true, false, false] rfl rfl (take_ofW HT_.out HW_.out (by kernel_rfl)) (fun _ _ _ h => h) (Or.inl ⟨by rfl, ?_⟩) hHeld ?_ ?_
          rotate_left
          ·rintro w' ⟨s0, s1, s2, s3, s4, s5, s6, s7⟩
           go_simp
           with_reducible rfl
          rotate_left
          ·simp only [Act.put, List.setIfInBounds_toArray, List.set_cons_zero, List.set_cons_succ, i64_w, i32_w]
           rfl
          refine pure_ (i := 40) (N := some 173) (v := ?_) (a' := ?_) (bN 42 2199023255551) rfl rfl (any_of HT_.out (by kernel_rfl)) (fun _ _ _ h => h) (Or.inl ⟨by rfl, ?_⟩) ?_ ?_
          rotate_left
          ·intro w'
           go_simp
           with_reducible rfl
          rotate_left
          ·simp only [Act.put, List.setIfInBounds_toArray, List.set_cons_zero, List.set_cons_succ, i64_w, i32_w]
           rfl
          refine pure_ (i := 41) (N := some 174) (v := ?_) (a' := ?_) (bN 42 4398046511103) rfl rfl (any_of HT_.out (by kernel_rfl)) (fun _ _ _ h => h) (Or.inl ⟨by rfl, ?_⟩) ?_ ?_
          rotate_left
          ·intro w'
           go_simp
           with_reducible rfl
          rotate_left
          ·simp only [Act.put, List.setIfInBounds_toArray, List.set_cons_zero, List.set_cons_succ, i64_w, i32_w]
           rfl
          refine done_ (done_of HT_.out (by kernel_rfl)) ?_
          have p98 : 0 ≤ ((ji95) : Int) := of_decide_eq_true (by first | (with_reducible assumption) | assumption)
          have q98 : ((ji95) : Int) < ((x14_4.length : Int) : Int) := of_decide_eq_true (by first | (with_reducible assumption) | assumption)
          obtain ⟨hx98_0, hf98_0⟩ := Kd.R_celln false HO_14.out ((ji95) : Int) p98 q98
          replace p98 := eq_true p98
          replace q98 := eq_true q98
          obtain ⟨hy101_, hz101_⟩ := Kd.R_celln false HO_14.out ((ji95) : Int) (of_decide_eq_true (by first | (with_reducible assumption) | assumption)) (of_decide_eq_true (by first | (with_reducible assumption) | assumption))
          have HP101 := Kd.R_putg HO_14.out ((ji95) : Int) true
          try go_wp2_with (first | ((with_reducible refine gate_store (t := 4) (p := 180) rfl ?_); refine store_event (t := 4) (p := 180) (v := ?vo_w102) (w1 := (w100.setCell ⟨go71, ((ji95) : Int).toNat, none⟩ (.bool true))) ?hg ?ho ?hn ?hr ?_; (case ho => rfl); (case hg => rfl); (case hn => rfl); (case hr => first | (go_simp; done) | (go_simp; rfl)); intro w102 hw; have hg : w100.grownBy w102 (some go71) := (by rw [hw]; exact HP101.2); have hp_ : Kd.R Kd.bool 4 w102 w.heap.size (fun _ => True) (.slice (some ⟨go71, 0, none⟩) x14_4.length co71) y415 := (by rw [hw, Ny415.out]; exact HP101.1); clear HP101; have n0_ := Aside0.mk (Kd.R_over' (v := (.slice (some ⟨go71, 0, none⟩) x14_4.length co71)) (by (with_reducible repeat (first | apply Kd.R_alloc | apply Kd.R_drewN | apply Kd.R_drew)); exact HO_12.out) (Kd.R_typed HO_14.out) (by decide) hg); have n1_ := Aside0.mk (hp_); have n2_ := Aside0.mk (Kd.R_over' (v := (.slice (some ⟨go71, 0, none⟩) x14_4.length co71)) (by (with_reducible repeat (first | apply Kd.R_alloc | apply Kd.R_drewN | apply Kd.R_drew)); exact HO_385001.out) (Kd.R_typed HO_14.out) (by decide) hg); have n3_ := Aside0.mk (blk_grown (g := gb384) (o := .cells #[.string x385000_2, .slice Ao56 x385001_2.length co56] 25 (0, 0)) (by (with_reducible repeat (first | refine blk_drewN ?_ _ | refine blk_drew ?_ | refine blk_alloc ?_ _)); exact BK384.out) hg (Kd.R_ne HO_14.out BK384.out (by decide))); have n4_ := Aside0.mk ((by rw [hw]; exact below_set (HB.out) GB71.out : Below w.heap.size w w102)); clear HO_12; clear HO_14; clear HO_385001; clear BK384; clear HB; have HO_12 := n0_; have HO_14 := n1_; have HO_385001 := n2_; have BK384 := n3_; have HB := n4_; clear n0_ n1_ n2_ n3_ n4_; clear hg hw hp_))
          (try simp only [← hl14_4])
          go_roundg k4
          case measure => have := HK1.out; have := HK2.out; have := HJ53.out; have := HK4.out; omega
          case rel => exact ⟨(y415), (ji95), (wrap64 (x16_4 + 1)), (by first | rfl | (simp; done) | (simp only [← hji95] <;> (first | rfl | simp)) | (simp [*]; done)), (by first | rfl | (simp; done) | (simp [*]; done)), H', ⟨by have := HK1.out; have := HK2.out; have := HJ53.out; have := HK4.out; omega⟩, ⟨by (try simp only [hl14_4]); (with_reducible repeat (first | apply Kd.R_alloc | apply Kd.R_drewN | apply Kd.R_drew)); exact HO_12.out⟩, ⟨by (try simp only [hl14_4]); (with_reducible repeat (first | apply Kd.R_alloc | apply Kd.R_drewN | apply Kd.R_drew)); exact HO_14.out⟩, ⟨by (try simp only [hl14_4]); (with_reducible repeat (first | apply Kd.R_alloc | apply Kd.R_drewN | apply Kd.R_drew)); exact HO_385001.out⟩, ⟨by (try simp only [hl14_4]); (with_reducible repeat (first | refine blk_drewN ?_ _ | refine blk_drew ?_ | refine blk_alloc ?_ _)); exact BK384.out⟩, ⟨by repeat (first | (with_reducible first | exact HB.out | apply below_alloc | apply pw_below_drewN | apply below_drew1 | refine below_set ?_ GE384.out) | exact HB.out)⟩⟩
         rw [if_neg c77] at H
         have c77b0 : decide (x16_4 < (t402.length : Int)) = false := decide_eq_false c77
         clear c77
         by_cases c105 : x15_4 = (x385000_2.size : Int)
         rotate_left
         ·rw [if_neg c105] at H
          exact absurd H (by simp)
         rw [if_pos c105] at H
         have c105b0 : (x15_4 == (x385000_2.size : Int)) = true := beq_iff_eq.mpr c105
         have c105b1 : (x15_4 != (x385000_2.size : Int)) = false := bne_eq_false_iff_eq.mpr c105
         clear c105
         have H' := Aside0.mk H
         clear H
         obtain ⟨Ao106, co106, eo106⟩ := Kd.R_slice HO_12.out
         subst eo106
         have hcz107_0 : wr.cell? ⟨gb384, 0, none⟩ = some (.string x385000_2) := (blk_cell BK384.out 0).trans rfl
         have hcz107_1 : wr.cell? ⟨gb384, 1, none⟩ = some (.slice Ao56 x385001_2.length co56) := (blk_cell BK384.out 1).trans rfl
         have hfz107_0 := blk_frozen BK384.out 0
         have hfz107_1 := blk_frozen BK384.out 1
         go_wp2
         go_loopg [18] k4 (fun kq v18 w' => ∃ (x18_5 : Int), v18 = .int .i64 x18_5 ∧ Aside0 (fCover.l3 kq x14_4 x18_5 x385000_2 x385001_2 = some true) ∧ Aside0 (kq ≤ k4) ∧ Aside0 (Kd.R Kd.bool 4 w' w.heap.size (fun _ => True) (.slice (some ⟨go71, 0, none⟩) x14_4.length co71) x14_4) ∧ Aside0 (Kd.R k31 31 w' w.heap.size (fun _ => True) (.slice Ao56 x385001_2.length co56) x385001_2) ∧ Aside0 (w'.heap[gb384]? = some (.cells #[.string x385000_2, (.slice Ao56 x385001_2.length co56)] 25 (0, 0))) ∧ Aside0 (Below w.heap.size w w'))
         case atStart => exact ⟨(0), (by first | rfl | (simp; done) | (simp [*]; done)), H', ⟨Nat.le_refl _⟩, ⟨by (try simp only [hl14_4]); (with_reducible repeat (first | apply Kd.R_alloc | apply Kd.R_drewN | apply Kd.R_drew)); exact HO_14.out⟩, ⟨by (try simp only [hl14_4]); (with_reducible repeat (first | apply Kd.R_alloc | apply Kd.R_drewN | apply Kd.R_drew)); exact HO_385001.out⟩, ⟨by (try simp only [hl14_4]); (with_reducible repeat (first | refine blk_drewN ?_ _ | refine blk_drew ?_ | refine blk_alloc ?_ _)); exact BK384.out⟩, ⟨by repeat (first | (with_reducible first | exact HB.out | apply below_alloc | apply pw_below_drewN | apply below_drew1 | refine below_set ?_ GE384.out) | exact HB.out)⟩⟩
         case round => as_aux_lemma =>
          clear H'
          (try clear c1); (try clear p2); (try clear p4); (try clear q4); (try clear hx4); (try clear p6); (try clear c7); (try clear c8); (try clear c9); (try clear p9); (try clear q9); (try clear hx9); (try clear hf9); (try clear c10); (try clear p41); (try clear q41); (try clear hx41); (try clear p64); (try clear c77); (try clear c77b0); (try clear c78); (try clear c85); (try clear c86); (try clear c87); (try clear c88); (try clear c88b0); (try clear c88b1); (try clear c96); (try clear c97); (try clear p98); (try clear q98); (try clear hx98); (try clear hf98); (try clear c105); (try clear c105b0); (try clear c105b1); (try clear hcz107_0); (try clear hcz107_1); (try clear hfz107_0); (try clear hfz107_1); (try clear hx411_0); (try clear hx411_1); (try clear hx412_0); (try clear hx412_1); (try clear hx98_0); (try clear p411); (try clear p412); (try clear p98); (try clear q411); (try clear q412); (try clear q98)
          obtain ⟨x18_5, rfl, HA, HK5, HO_14, HO_385001, BK384, HB⟩ := hrel
          cases gk with
          | zero => exact absurd HA.out (by simp [fCover.l3])
          | succ k5 =>
           have H := HA.out
           clear HA
           simp only [fCover.l3] at H
           by_cases c108 : x18_5 < (x385001_2.length : Int)
           rotate_left
           ·rw [if_neg c108] at H
            have c108b0 : decide (x18_5 < (x385001_2.length : Int)) = false := decide_eq_false c108
            clear c108
            clear H
            have hcz197_0 : wr.cell? ⟨gb384, 0, none⟩ = some (.string x385000_2) := (blk_cell BK384.out 0).trans rfl
            have hcz197_1 : wr.cell? ⟨gb384, 1, none⟩ = some (.slice Ao56 x385001_2.length co56) := (blk_cell BK384.out 1).trans rfl
            have hfz197_0 := blk_frozen BK384.out 0
            have hfz197_1 := blk_frozen BK384.out 1
            go_wp2
            go_ret
            exact ⟨by first | rfl | (simp [errW_none, errW_some] <;> rfl) | (simp only [← hji67]; first | rfl | (simp [errW_none, errW_some] <;> rfl)) | (simp [*, errW_none, errW_some] <;> rfl) | (simp only [ne_nil_b]; first | done | rfl) | (simp [ne_nil_b]; done), by repeat (first | (with_reducible first | exact HB.out | apply below_alloc | apply pw_below_drewN | apply below_drew1 | refine below_set ?_ GE384.out) | exact HB.out)⟩
           rw [if_pos c108] at H
           have c108b0 : decide (x18_5 < (x385001_2.length : Int)) = true := decide_eq_true c108
           clear c108
           by_cases c109 : 0 ≤ x18_5
           rotate_left
           ·rw [if_neg c109] at H
            exact absurd H (by simp)
           rw [if_pos c109] at H
           have c109b0 : decide (0 ≤ x18_5) = true := decide_eq_true c109
           clear c109
           have HC110 := Aside0.mk H
           clear H
           have hcz111_0 : wr.cell? ⟨gb384, 0, none⟩ = some (.string x385000_2) := (blk_cell BK384.out 0).trans rfl
           have hcz111_1 : wr.cell? ⟨gb384, 1, none⟩ = some (.slice Ao56 x385001_2.length co56) := (blk_cell BK384.out 1).trans rfl
           have hfz111_0 := blk_frozen BK384.out 0
           have hfz111_1 := blk_frozen BK384.out 1
           have p416 : 0 ≤ (x18_5 : Int) := of_decide_eq_true (by first | (with_reducible assumption) | assumption)
           have q416 : x18_5 < (x385001_2.length : Int) := of_decide_eq_true (by first | (with_reducible assumption) | assumption)
           obtain ⟨ad416, e416, hx416_0, hx416_1, hx416_2⟩ := at_T31 (Kd.R_reads' HO_385001.out).2.2 x18_5 p416 q416
           cases e416
           replace p416 := eq_true p416
           replace q416 := eq_true q416
           go_upto_region 39 with (first | ((with_reducible refine gate_dst (N := 19) rfl ?_); (try (refine gate_guard (by rfl) ?_; dsimp only)); refine box_event ?hg (N := 19) ?hd (cs := #[.int .i64 0, .int .i64 0, .int .i64 0]) (t := 31) ?hr ?_; (case hd => rfl); (case hg => rfl); (case hr => first | (go_simp; done) | (go_simp; rfl)); intro gb417 hg w112 hbox hb; have n0_ := Aside0.mk (Kd.R_below (by (with_reducible repeat (first | apply Kd.R_alloc | apply Kd.R_drewN | apply Kd.R_drew)); exact HO_14.out) hb); have n1_ := Aside0.mk (Kd.R_below (Kd.R_elderB (by (with_reducible repeat (first | apply Kd.R_alloc | apply Kd.R_drewN | apply Kd.R_drew)); exact HO_385001.out) gb417 (Nat.le_of_eq hg.symm)) hb); have n2_ := Aside0.mk (blk_below (g := gb384) (o := .cells #[.string x385000_2, .slice (some ad416) x385001_2.length co56] 25 (0, 0)) (by (with_reducible repeat (first | refine blk_drewN ?_ _ | refine blk_drew ?_ | refine blk_alloc ?_ _)); exact BK384.out) hb); have n3_ := Aside0.mk (below_step (by repeat (first | (with_reducible first | exact HB.out | apply below_alloc | apply pw_below_drewN | apply below_drew1 | refine below_set ?_ GE384.out) | exact HB.out)) hb); have n4_ := Aside0.mk (hbox); have n5_ := Aside0.mk ((by rw [hg]; exact (below_size (by repeat (first | (with_reducible first | exact HB.out | apply below_alloc | apply pw_below_drewN | apply below_drew1 | refine below_set ?_ GE384.out) | exact HB.out))) : w.heap.size ≤ gb417)); have n6_ := Aside0.mk ((by rw [hg]; exact (below_size (by repeat (first | (with_reducible first | exact HB.out | apply below_alloc | apply pw_below_drewN | apply below_drew1 | refine below_set ?_ GE384.out) | exact HB.out))) : w.heap.size ≤ gb417)); have n7_ := Aside0.mk ((by rw [hg]; exact Nat.ne_of_lt (blk_lt (g := gb384) (o := .cells #[.string x385000_2, .slice (some ad416) x385001_2.length co56] 25 (0, 0)) (by (with_reducible repeat (first | refine blk_drewN ?_ _ | refine blk_drew ?_ | refine blk_alloc ?_ _)); exact BK384.out)) : gb384 ≠ gb417)); have n8_ := Aside0.mk ((by rw [hg]; exact Nat.ne_of_gt (blk_lt (g := gb384) (o := .cells #[.string x385000_2, .slice (some ad416) x385001_2.length co56] 25 (0, 0)) (by (with_reducible repeat (first | refine blk_drewN ?_ _ | refine blk_drew ?_ | refine blk_alloc ?_ _)); exact BK384.out)) : gb417 ≠ gb384)); clear HO_14; clear HO_385001; clear BK384; clear HB; have HO_14 := n0_; have HO_385001 := n1_; have BK384 := n2_; have HB := n3_; have BK417 := n4_; have GW417 := n5_; have GE417 := n6_; have NB384_417 := n7_; have NB417_384 := n8_; clear n0_ n1_ n2_ n3_ n4_ n5_ n6_ n7_ n8_; clear hb hbox hg; have hnb113 := NB417_384.out; have hnc113 := NB384_417.out; have hcz114_0 : w112.cell? ⟨gb417, 0, none⟩ = some (.int .i64 0) := (blk_cell BK417.out 0).trans rfl; have hcz114_1 : w112.cell? ⟨gb417, 1, none⟩ = some (.int .i64 0) := (blk_cell BK417.out 1).trans rfl; have hcz114_2 : w112.cell? ⟨gb417, 2, none⟩ = some (.int .i64 0) := (blk_cell BK417.out 2).trans rfl; have hfz114_0 := blk_frozen BK417.out 0; have hfz114_1 := blk_frozen BK417.out 1; have hfz114_2 := blk_frozen BK417.out 2))
           (try simp only [Act.put, List.setIfInBounds_toArray, List.set_cons_zero, List.set_cons_succ])
           go_cut [231] (fun v231 wc => ∃ (kq : Nat) (x231_109 : Bool), v231 = .bool x231_109 ∧ Aside0 (fCover.j5 kq x14_4 x18_5 x231_109 x385000_2 x385001_2 ((rd_T31 x385001_2 x18_5).f0) ((rd_T31 x385001_2 x18_5).f1) ((rd_T31 x385001_2 x18_5).f2) = some true) ∧ Aside0 (kq ≤ k5) ∧ Aside0 (Kd.R Kd.bool 4 wc w.heap.size (fun _ => True) (.slice (some ⟨go71, 0, none⟩) x14_4.length co71) x14_4) ∧ Aside0 (Kd.R k31 31 wc w.heap.size (fun k_ => k_ ≠ gb417) (.slice (some ad416) x385001_2.length co56) x385001_2) ∧ Aside0 (wc.heap[gb384]? = some (.cells #[.string x385000_2, (.slice (some ad416) x385001_2.length co56)] 25 (0, 0))) ∧ Aside0 (wc.heap[gb417]? = some (.cells #[.int .i64 ((rd_T31 x385001_2 x18_5).f0), .int .i64 ((rd_T31 x385001_2 x18_5).f1), .int .i64 ((rd_T31 x385001_2 x18_5).f2)] 31 (0, 0))) ∧ Aside0 (Below w.heap.size w wc))
           case first =>
            have H := HC110.out
            clear HC110
            by_cases c115 : ((rd_T31 x385001_2 x18_5).f1) < 0
            ·rw [if_pos c115] at H
             have c115b0 : decide (((rd_T31 x385001_2 x18_5).f1) < 0) = true := decide_eq_true c115
             clear c115
             (first | rw [c115b0] | rw [c115b1] | (simp only [i64_w, i32_w]; rw [c115b0]) | skip)
             have H' := Aside0.mk H
             clear H
             have hnb116 := NB417_384.out
             have hnc116 := NB384_417.out
             have hcz117_0 : w112.cell? ⟨gb417, 0, none⟩ = some (.int .i64 0) := (blk_cell BK417.out 0).trans rfl
             have hcz117_1 : w112.cell? ⟨gb417, 1, none⟩ = some (.int .i64 0) := (blk_cell BK417.out 1).trans rfl
             have hcz117_2 : w112.cell? ⟨gb417, 2, none⟩ = some (.int .i64 0) := (blk_cell BK417.out 2).trans rfl
             have hfz117_0 := blk_frozen BK417.out 0
             have hfz117_1 := blk_frozen BK417.out 1
             have hfz117_2 := blk_frozen BK417.out 2
             go_wp2
             go_meet
             case rel => exact ⟨_, (true), (by first | rfl | (simp; done) | (simp [*]; done)), H', ⟨by have := HK1.out; have := HK2.out; have := HJ53.out; have := HK4.out; have := HK5.out; first | omega | exact Nat.le_refl _⟩, ⟨by (try simp only [hl14_4]); (with_reducible repeat (first | apply Kd.R_alloc | apply Kd.R_drewN | apply Kd.R_drew)); exact Kd.R_mono (Kd.R_far (p := ⟨gb417, 2, none⟩) (Kd.R_far (p := ⟨gb417, 1, none⟩) (Kd.R_far (p := ⟨gb417, 0, none⟩) (Kd.R_types HO_14.out BK417.out (by decide)) (fun _ hk => hk.2) (.int .i64 ((rd_T31 x385001_2 x18_5).f0))) (fun _ hk => hk.2) (.int .i64 ((rd_T31 x385001_2 x18_5).f1))) (fun _ hk => hk.2) (.int .i64 ((rd_T31 x385001_2 x18_5).f2))) (fun _ hk => trivial)⟩, ⟨by (try simp only [hl14_4]); (with_reducible repeat (first | apply Kd.R_alloc | apply Kd.R_drewN | apply Kd.R_drew)); exact Kd.R_mono (Kd.R_far (p := ⟨gb417, 2, none⟩) (Kd.R_far (p := ⟨gb417, 1, none⟩) (Kd.R_far (p := ⟨gb417, 0, none⟩) (Kd.R_mono HO_385001.out (fun k_ hk => (⟨hk, hk.2⟩ : _ ∧ k_ ≠ gb417))) (fun _ hk => hk.2) (.int .i64 ((rd_T31 x385001_2 x18_5).f0))) (fun _ hk => hk.2) (.int .i64 ((rd_T31 x385001_2 x18_5).f1))) (fun _ hk => hk.2) (.int .i64 ((rd_T31 x385001_2 x18_5).f2))) (fun _ hk => hk.1.2)⟩, ⟨by (try simp only [hl14_4]); (with_reducible repeat (first | refine blk_drewN ?_ _ | refine blk_drew ?_ | refine blk_alloc ?_ _)); refine blk_far ?_ NB384_417.out _; (with_reducible repeat (first | refine blk_drewN ?_ _ | refine blk_drew ?_ | refine blk_alloc ?_ _)); refine blk_far ?_ NB384_417.out _; (with_reducible repeat (first | refine blk_drewN ?_ _ | refine blk_drew ?_ | refine blk_alloc ?_ _)); refine blk_far ?_ NB384_417.out _; (with_reducible repeat (first | refine blk_drewN ?_ _ | refine blk_drew ?_ | refine blk_alloc ?_ _)); exact BK384.out⟩, ⟨by (try simp only [hl14_4]); (with_reducible repeat (first | refine blk_drewN ?_ _ | refine blk_drew ?_ | refine blk_alloc ?_ _)); refine blk_put (cs := #[.int .i64 ((rd_T31 x385001_2 x18_5).f0), .int .i64 ((rd_T31 x385001_2 x18_5).f1), .int .i64 0]) ?_ 2 _ rfl; (with_reducible repeat (first | refine blk_drewN ?_ _ | refine blk_drew ?_ | refine blk_alloc ?_ _)); refine blk_put (cs := #[.int .i64 ((rd_T31 x385001_2 x18_5).f0), .int .i64 0, .int .i64 0]) ?_ 1 _ rfl; (with_reducible repeat (first | refine blk_drewN ?_ _ | refine blk_drew ?_ | refine blk_alloc ?_ _)); refine blk_put (cs := #[.int .i64 0, .int .i64 0, .int .i64 0]) ?_ 0 _ rfl; (with_reducible repeat (first | refine blk_drewN ?_ _ | refine blk_drew ?_ | refine blk_alloc ?_ _)); exact BK417.out⟩, ⟨by repeat (first | (with_reducible first | exact HB.out | apply below_alloc | apply pw_below_drewN | apply below_drew1 | refine below_set ?_ GE384.out | refine below_set ?_ GE417.out) | exact HB.out)⟩⟩
            rw [if_neg c115] at H
            have c115b0 : decide (((rd_T31 x385001_2 x18_5).f1) < 0) = false := decide_eq_false c115
            clear c115
            (first | rw [c115b0] | rw [c115b1] | (simp only [i64_w, i32_w]; rw [c115b0]) | skip)
            by_cases c118 : ((rd_T31 x385001_2 x18_5).f2) > (x385000_2.size : Int)
            ·rw [if_pos c118] at H
             have c118b0 : decide ((x385000_2.size : Int) < ((rd_T31 x385001_2 x18_5).f2)) = true := decide_eq_true c118
             clear c118
             have H' := Aside0.mk H
             clear H
             have hnb119 := NB417_384.out
             have hnc119 := NB384_417.out
             have hcz120_0 : w112.cell? ⟨gb417, 0, none⟩ = some (.int .i64 0) := (blk_cell BK417.out 0).trans rfl
             have hcz120_1 : w112.cell? ⟨gb417, 1, none⟩ = some (.int .i64 0) := (blk_cell BK417.out 1).trans rfl
             have hcz120_2 : w112.cell? ⟨gb417, 2, none⟩ = some (.int .i64 0) := (blk_cell BK417.out 2).trans rfl
             have hfz120_0 := blk_frozen BK417.out 0
             have hfz120_1 := blk_frozen BK417.out 1
             have hfz120_2 := blk_frozen BK417.out 2
             have hcz121_0 : w112.cell? ⟨gb384, 0, none⟩ = some (.string x385000_2) := (blk_cell BK384.out 0).trans rfl
             have hcz121_1 : w112.cell? ⟨gb384, 1, none⟩ = some (.slice (some ad416) x385001_2.length co56) := (blk_cell BK384.out 1).trans rfl
             have hfz121_0 := blk_frozen BK384.out 0
             have hfz121_1 := blk_frozen BK384.out 1
             go_wp2
             go_meet
             case rel => exact ⟨_, (true), (by first | rfl | (simp; done) | (simp [*]; done)), H', ⟨by have := HK1.out; have := HK2.out; have := HJ53.out; have := HK4.out; have := HK5.out; first | omega | exact Nat.le_refl _⟩, ⟨by (try simp only [hl14_4]); (with_reducible repeat (first | apply Kd.R_alloc | apply Kd.R_drewN | apply Kd.R_drew)); exact Kd.R_mono (Kd.R_far (p := ⟨gb417, 2, none⟩) (Kd.R_far (p := ⟨gb417, 1, none⟩) (Kd.R_far (p := ⟨gb417, 0, none⟩) (Kd.R_types HO_14.out BK417.out (by decide)) (fun _ hk => hk.2) (.int .i64 ((rd_T31 x385001_2 x18_5).f0))) (fun _ hk => hk.2) (.int .i64 ((rd_T31 x385001_2 x18_5).f1))) (fun _ hk => hk.2) (.int .i64 ((rd_T31 x385001_2 x18_5).f2))) (fun _ hk => trivial)⟩, ⟨by (try simp only [hl14_4]); (with_reducible repeat (first | apply Kd.R_alloc | apply Kd.R_drewN | apply Kd.R_drew)); exact Kd.R_mono (Kd.R_far (p := ⟨gb417, 2, none⟩) (Kd.R_far (p := ⟨gb417, 1, none⟩) (Kd.R_far (p := ⟨gb417, 0, none⟩) (Kd.R_mono HO_385001.out (fun k_ hk => (⟨hk, hk.2⟩ : _ ∧ k_ ≠ gb417))) (fun _ hk => hk.2) (.int .i64 ((rd_T31 x385001_2 x18_5).f0))) (fun _ hk => hk.2) (.int .i64 ((rd_T31 x385001_2 x18_5).f1))) (fun _ hk => hk.2) (.int .i64 ((rd_T31 x385001_2 x18_5).f2))) (fun _ hk => hk.1.2)⟩, ⟨by (try simp only [hl14_4]); (with_reducible repeat (first | refine blk_drewN ?_ _ | refine blk_drew ?_ | refine blk_alloc ?_ _)); refine blk_far ?_ NB384_417.out _; (with_reducible repeat (first | refine blk_drewN ?_ _ | refine blk_drew ?_ | refine blk_alloc ?_ _)); refine blk_far ?_ NB384_417.out _; (with_reducible repeat (first | refine blk_drewN ?_ _ | refine blk_drew ?_ | refine blk_alloc ?_ _)); refine blk_far ?_ NB384_417.out _; (with_reducible repeat (first | refine blk_drewN ?_ _ | refine blk_drew ?_ | refine blk_alloc ?_ _)); exact BK384.out⟩, ⟨by (try simp only [hl14_4]); (with_reducible repeat (first | refine blk_drewN ?_ _ | refine blk_drew ?_ | refine blk_alloc ?_ _)); refine blk_put (cs := #[.int .i64 ((rd_T31 x385001_2 x18_5).f0), .int .i64 ((rd_T31 x385001_2 x18_5).f1), .int .i64 0]) ?_ 2 _ rfl; (with_reducible repeat (first | refine blk_drewN ?_ _ | refine blk_drew ?_ | refine blk_alloc ?_ _)); refine blk_put (cs := #[.int .i64 ((rd_T31 x385001_2 x18_5).f0), .int .i64 0, .int .i64 0]) ?_ 1 _ rfl; (with_reducible repeat (first | refine blk_drewN ?_ _ | refine blk_drew ?_ | refine blk_alloc ?_ _)); refine blk_put (cs := #[.int .i64 0, .int .i64 0, .int .i64 0]) ?_ 0 _ rfl; (with_reducible repeat (first | refine blk_drewN ?_ _ | refine blk_drew ?_ | refine blk_alloc ?_ _)); exact BK417.out⟩, ⟨by repeat (first | (with_reducible first | exact HB.out | apply below_alloc | apply pw_below_drewN | apply below_drew1 | refine below_set ?_ GE384.out | refine below_set ?_ GE417.out) | exact HB.out)⟩⟩
            rw [if_neg c118] at H
            have c118b0 : decide ((x385000_2.size : Int) < ((rd_T31 x385001_2 x18_5).f2)) = false := decide_eq_false c118
            clear c118
            by_cases c122 : ((rd_T31 x385001_2 x18_5).f1) ≥ ((rd_T31 x385001_2 x18_5).f2)
            ·rw [if_pos c122] at H
             have c122b0 : decide (((rd_T31 x385001_2 x18_5).f2) ≤ ((rd_T31 x385001_2 x18_5).f1)) = true := decide_eq_true c122
             clear c122
             have H' := Aside0.mk H
             clear H
             have hnb123 := NB417_384.out
             have hnc123 := NB384_417.out
             have hcz124_0 : w112.cell? ⟨gb417, 0, none⟩ = some (.int .i64 0) := (blk_cell BK417.out 0).trans rfl
             have hcz124_1 : w112.cell? ⟨gb417, 1, none⟩ = some (.int .i64 0) := (blk_cell BK417.out 1).trans rfl
             have hcz124_2 : w112.cell? ⟨gb417, 2, none⟩ = some (.int .i64 0) := (blk_cell BK417.out 2).trans rfl
             have hfz124_0 := blk_frozen BK417.out 0
             have hfz124_1 := blk_frozen BK417.out 1
             have hfz124_2 := blk_frozen BK417.out 2
             have hcz125_0 : w112.cell? ⟨gb384, 0, none⟩ = some (.string x385000_2) := (blk_cell BK384.out 0).trans rfl
             have hcz125_1 : w112.cell? ⟨gb384, 1, none⟩ = some (.slice (some ad416) x385001_2.length co56) := (blk_cell BK384.out 1).trans rfl
             have hfz125_0 := blk_frozen BK384.out 0
             have hfz125_1 := blk_frozen BK384.out 1
             go_wp2
             go_meet
             case rel => exact ⟨_, (true), (by first | rfl | (simp; done) | (simp [*]; done)), H', ⟨by have := HK1.out; have := HK2.out; have := HJ53.out; have := HK4.out; have := HK5.out; first | omega | exact Nat.le_refl _⟩, ⟨by (try simp only [hl14_4]); (with_reducible repeat (first | apply Kd.R_alloc | apply Kd.R_drewN | apply Kd.R_drew)); exact Kd.R_mono (Kd.R_far (p := ⟨gb417, 2, none⟩) (Kd.R_far (p := ⟨gb417, 1, none⟩) (Kd.R_far (p := ⟨gb417, 0, none⟩) (Kd.R_types HO_14.out BK417.out (by decide)) (fun _ hk => hk.2) (.int .i64 ((rd_T31 x385001_2 x18_5).f0))) (fun _ hk => hk.2) (.int .i64 ((rd_T31 x385001_2 x18_5).f1))) (fun _ hk => hk.2) (.int .i64 ((rd_T31 x385001_2 x18_5).f2))) (fun _ hk => trivial)⟩, ⟨by (try simp only [hl14_4]); (with_reducible repeat (first | apply Kd.R_alloc | apply Kd.R_drewN | apply Kd.R_drew)); exact Kd.R_mono (Kd.R_far (p := ⟨gb417, 2, none⟩) (Kd.R_far (p := ⟨gb417, 1, none⟩) (Kd.R_far (p := ⟨gb417, 0, none⟩) (Kd.R_mono HO_385001.out (fun k_ hk => (⟨hk, hk.2⟩ : _ ∧ k_ ≠ gb417))) (fun _ hk => hk.2) (.int .i64 ((rd_T31 x385001_2 x18_5).f0))) (fun _ hk => hk.2) (.int .i64 ((rd_T31 x385001_2 x18_5).f1))) (fun _ hk => hk.2) (.int .i64 ((rd_T31 x385001_2 x18_5).f2))) (fun _ hk => hk.1.2)⟩, ⟨by (try simp only [hl14_4]); (with_reducible repeat (first | refine blk_drewN ?_ _ | refine blk_drew ?_ | refine blk_alloc ?_ _)); refine blk_far ?_ NB384_417.out _; (with_reducible repeat (first | refine blk_drewN ?_ _ | refine blk_drew ?_ | refine blk_alloc ?_ _)); refine blk_far ?_ NB384_417.out _; (with_reducible repeat (first | refine blk_drewN ?_ _ | refine blk_drew ?_ | refine blk_alloc ?_ _)); refine blk_far ?_ NB384_417.out _; (with_reducible repeat (first | refine blk_drewN ?_ _ | refine blk_drew ?_ | refine blk_alloc ?_ _)); exact BK384.out⟩, ⟨by (try simp only [hl14_4]); (with_reducible repeat (first | refine blk_drewN ?_ _ | refine blk_drew ?_ | refine blk_alloc ?_ _)); refine blk_put (cs := #[.int .i64 ((rd_T31 x385001_2 x18_5).f0), .int .i64 ((rd_T31 x385001_2 x18_5).f1), .int .i64 0]) ?_ 2 _ rfl; (with_reducible repeat (first | refine blk_drewN ?_ _ | refine blk_drew ?_ | refine blk_alloc ?_ _)); refine blk_put (cs := #[.int .i64 ((rd_T31 x385001_2 x18_5).f0), .int .i64 0, .int .i64 0]) ?_ 1 _ rfl; (with_reducible repeat (first | refine blk_drewN ?_ _ | refine blk_drew ?_ | refine blk_alloc ?_ _)); refine blk_put (cs := #[.int .i64 0, .int .i64 0, .int .i64 0]) ?_ 0 _ rfl; (with_reducible repeat (first | refine blk_drewN ?_ _ | refine blk_drew ?_ | refine blk_alloc ?_ _)); exact BK417.out⟩, ⟨by repeat (first | (with_reducible first | exact HB.out | apply below_alloc | apply pw_below_drewN | apply below_drew1 | refine below_set ?_ GE384.out | refine below_set ?_ GE417.out) | exact HB.out)⟩⟩
            rw [if_neg c122] at H
            have c122b0 : decide (((rd_T31 x385001_2 x18_5).f2) ≤ ((rd_T31 x385001_2 x18_5).f1)) = false := decide_eq_false c122
            clear c122
            by_cases c126 : 0 ≤ ((rd_T31 x385001_2 x18_5).f1)
            rotate_left
            ·rw [if_neg c126] at H
             exact absurd H (by simp)
            rw [if_pos c126] at H
            have c126b0 : decide (0 ≤ ((rd_T31 x385001_2 x18_5).f1)) = true := decide_eq_true c126
            clear c126
            by_cases c127 : ((rd_T31 x385001_2 x18_5).f1) < (x14_4.length : Int)
            rotate_left
            ·rw [if_neg c127] at H
             exact absurd H (by simp)
            rw [if_pos c127] at H
            have c127b0 : decide (((rd_T31 x385001_2 x18_5).f1) < (x14_4.length : Int)) = true := decide_eq_true c127
            clear c127
            obtain ⟨bq128, hbq128⟩ : ∃ b_ : Bool, b_ = (rdOf false x14_4 ((rd_T31 x385001_2 x18_5).f1)) := ⟨_, rfl⟩
            replace H : (if (bq128 = true) then (if 0 ≤ ((rd_T31 x385001_2 x18_5).f2) then (if ((rd_T31 x385001_2 x18_5).f2) < (x14_4.length : Int) then (fCover.j5 k5 x14_4 x18_5 (!(rdOf false x14_4 ((rd_T31 x385001_2 x18_5).f2))) x385000_2 x385001_2 ((rd_T31 x385001_2 x18_5).f0) ((rd_T31 x385001_2 x18_5).f1) ((rd_T31 x385001_2 x18_5).f2)) else (none)) else (none)) else (fCover.j5 k5 x14_4 x18_5 true x385000_2 x385001_2 ((rd_T31 x385001_2 x18_5).f0) ((rd_T31 x385001_2 x18_5).f1) ((rd_T31 x385001_2 x18_5).f2))) = some true := by rw [← hbq128] at H; exact H
            have Nbq128 := Aside0.mk hbq128
            clear hbq128
            by_cases c129 : (bq128 = true)
            rotate_left
            ·replace c129 := Bool.eq_false_iff.mpr c129
             subst c129
             have H1 : (fCover.j5 k5 x14_4 x18_5 true x385000_2 x385001_2 ((rd_T31 x385001_2 x18_5).f0) ((rd_T31 x385001_2 x18_5).f1) ((rd_T31 x385001_2 x18_5).f2)) = some true := by rw [if_neg (show ¬ (false = true) by decide)] at H; exact H
             clear H
             have H := H1
             clear H1
             have H' := Aside0.mk H
             clear H
             have hnb135 := NB417_384.out
             have hnc135 := NB384_417.out
             have hcz136_0 : w112.cell? ⟨gb417, 0, none⟩ = some (.int .i64 0) := (blk_cell BK417.out 0).trans rfl
             have hcz136_1 : w112.cell? ⟨gb417, 1, none⟩ = some (.int .i64 0) := (blk_cell BK417.out 1).trans rfl
             have hcz136_2 : w112.cell? ⟨gb417, 2, none⟩ = some (.int .i64 0) := (blk_cell BK417.out 2).trans rfl
             have hfz136_0 := blk_frozen BK417.out 0
             have hfz136_1 := blk_frozen BK417.out 1
             have hfz136_2 := blk_frozen BK417.out 2
             have hcz137_0 : w112.cell? ⟨gb384, 0, none⟩ = some (.string x385000_2) := (blk_cell BK384.out 0).trans rfl
             have hcz137_1 : w112.cell? ⟨gb384, 1, none⟩ = some (.slice (some ad416) x385001_2.length co56) := (blk_cell BK384.out 1).trans rfl
             have hfz137_0 := blk_frozen BK384.out 0
             have hfz137_1 := blk_frozen BK384.out 1
             have p418 : 0 ≤ (((rd_T31 x385001_2 x18_5).f1) : Int) := of_decide_eq_true (by first | (with_reducible assumption) | assumption)
             have q418 : ((rd_T31 x385001_2 x18_5).f1) < (x14_4.length : Int) := of_decide_eq_true (by first | (with_reducible assumption) | assumption)
             obtain ⟨ad418, e418, hx418_0⟩ := Kd.at_bool (Kd.R_reads' HO_14.out).2.2 ((rd_T31 x385001_2 x18_5).f1) p418 q418
             (try rw [← Nbq128.out] at hx418_0)
             obtain rfl : (⟨go71, 0, none⟩ : Addr) = ad418 := (by injection e418)
             (first | simp only [add_plain] at hx418_0 | simp only [add_at] at hx418_0 | simp only [Addr.add, Nat.zero_add] at hx418_0 | skip)
             have hn418_0 : (⟨go71, 0, none⟩ : Addr).block ≠ gb417 := Kd.own_blk (Kd.R_ne HO_14.out BK417.out (by decide))
             have hn418_1 : (⟨go71, 0, none⟩ : Addr).block ≠ gb417 := Kd.own_blk (Kd.R_ne HO_14.out BK417.out (by decide))
             have hn418_2 : (⟨go71, 0, none⟩ : Addr).block ≠ gb417 := Kd.own_blk (Kd.R_ne HO_14.out BK417.out (by decide))
             replace hx418_0 := (cell_far (p := ⟨gb417, 0, none⟩) (by first | (rw [add_block]; exact hn418_0) | (show (Addr.add _ _).block ≠ _; rw [add_block]; exact hn418_0) | exact hn418_0) (.int .i64 ((rd_T31 x385001_2 x18_5).f0))).trans hx418_0
             replace hx418_0 := (cell_far (p := ⟨gb417, 1, none⟩) (by first | (rw [add_block]; exact hn418_1) | (show (Addr.add _ _).block ≠ _; rw [add_block]; exact hn418_1) | exact hn418_1) (.int .i64 ((rd_T31 x385001_2 x18_5).f1))).trans hx418_0
             replace hx418_0 := (cell_far (p := ⟨gb417, 2, none⟩) (by first | (rw [add_block]; exact hn418_2) | (show (Addr.add _ _).block ≠ _; rw [add_block]; exact hn418_2) | exact hn418_2) (.int .i64 ((rd_T31 x385001_2 x18_5).f2))).trans hx418_0
             clear hn418_0
             clear hn418_1
             clear hn418_2
             replace p418 := eq_true p418
             replace q418 := eq_true q418
             go_wp2
             go_meet
             case rel => exact ⟨_, (true), (by first | rfl | (simp; done) | (simp [*]; done)), H', ⟨by have := HK1.out; have := HK2.out; have := HJ53.out; have := HK4.out; have := HK5.out; first | omega | exact Nat.le_refl _⟩, ⟨by (try simp only [hl14_4]); (with_reducible repeat (first | apply Kd.R_alloc | apply Kd.R_drewN | apply Kd.R_drew)); exact Kd.R_mono (Kd.R_far (p := ⟨gb417, 2, none⟩) (Kd.R_far (p := ⟨gb417, 1, none⟩) (Kd.R_far (p := ⟨gb417, 0, none⟩) (Kd.R_types HO_14.out BK417.out (by decide)) (fun _ hk => hk.2) (.int .i64 ((rd_T31 x385001_2 x18_5).f0))) (fun _ hk => hk.2) (.int .i64 ((rd_T31 x385001_2 x18_5).f1))) (fun _ hk => hk.2) (.int .i64 ((rd_T31 x385001_2 x18_5).f2))) (fun _ hk => trivial)⟩, ⟨by (try simp only [hl14_4]); (with_reducible repeat (first | apply Kd.R_alloc | apply Kd.R_drewN | apply Kd.R_drew)); exact Kd.R_mono (Kd.R_far (p := ⟨gb417, 2, none⟩) (Kd.R_far (p := ⟨gb417, 1, none⟩) (Kd.R_far (p := ⟨gb417, 0, none⟩) (Kd.R_mono HO_385001.out (fun k_ hk => (⟨hk, hk.2⟩ : _ ∧ k_ ≠ gb417))) (fun _ hk => hk.2) (.int .i64 ((rd_T31 x385001_2 x18_5).f0))) (fun _ hk => hk.2) (.int .i64 ((rd_T31 x385001_2 x18_5).f1))) (fun _ hk => hk.2) (.int .i64 ((rd_T31 x385001_2 x18_5).f2))) (fun _ hk => hk.1.2)⟩, ⟨by (try simp only [hl14_4]); (with_reducible repeat (first | refine blk_drewN ?_ _ | refine blk_drew ?_ | refine blk_alloc ?_ _)); refine blk_far ?_ NB384_417.out _; (with_reducible repeat (first | refine blk_drewN ?_ _ | refine blk_drew ?_ | refine blk_alloc ?_ _)); refine blk_far ?_ NB384_417.out _; (with_reducible repeat (first | refine blk_drewN ?_ _ | refine blk_drew ?_ | refine blk_alloc ?_ _)); refine blk_far ?_ NB384_417.out _; (with_reducible repeat (first | refine blk_drewN ?_ _ | refine blk_drew ?_ | refine blk_alloc ?_ _)); exact BK384.out⟩, ⟨by (try simp only [hl14_4]); (with_reducible repeat (first | refine blk_drewN ?_ _ | refine blk_drew ?_ | refine blk_alloc ?_ _)); refine blk_put (cs := #[.int .i64 ((rd_T31 x385001_2 x18_5).f0), .int .i64 ((rd_T31 x385001_2 x18_5).f1), .int .i64 0]) ?_ 2 _ rfl; (with_reducible repeat (first | refine blk_drewN ?_ _ | refine blk_drew ?_ | refine blk_alloc ?_ _)); refine blk_put (cs := #[.int .i64 ((rd_T31 x385001_2 x18_5).f0), .int .i64 0, .int .i64 0]) ?_ 1 _ rfl; (with_reducible repeat (first | refine blk_drewN ?_ _ | refine blk_drew ?_ | refine blk_alloc ?_ _)); refine blk_put (cs := #[.int .i64 0, .int .i64 0, .int .i64 0]) ?_ 0 _ rfl; (with_reducible repeat (first | refine blk_drewN ?_ _ | refine blk_drew ?_ | refine blk_alloc ?_ _)); exact BK417.out⟩, ⟨by repeat (first | (with_reducible first | exact HB.out | apply below_alloc | apply pw_below_drewN | apply below_drew1 | refine below_set ?_ GE384.out | refine below_set ?_ GE417.out) | exact HB.out)⟩⟩
            subst c129
            have H1 : (if 0 ≤ ((rd_T31 x385001_2 x18_5).f2) then (if ((rd_T31 x385001_2 x18_5).f2) < (x14_4.length : Int) then (fCover.j5 k5 x14_4 x18_5 (!(rdOf false x14_4 ((rd_T31 x385001_2 x18_5).f2))) x385000_2 x385001_2 ((rd_T31 x385001_2 x18_5).f0) ((rd_T31 x385001_2 x18_5).f1) ((rd_T31 x385001_2 x18_5).f2)) else (none)) else (none)) = some true := by rw [if_pos rfl] at H; exact H
            clear H
            have H := H1
            clear H1
            by_cases c130 : 0 ≤ ((rd_T31 x385001_2 x18_5).f2)
            rotate_left
            ·rw [if_neg c130] at H
             exact absurd H (by simp)
            rw [if_pos c130] at H
            have c130b0 : decide (0 ≤ ((rd_T31 x385001_2 x18_5).f2)) = true := decide_eq_true c130
            clear c130
            by_cases c131 : ((rd_T31 x385001_2 x18_5).f2) < (x14_4.length : Int)
            rotate_left
            ·rw [if_neg c131] at H
             exact absurd H (by simp)
            rw [if_pos c131] at H
            have c131b0 : decide (((rd_T31 x385001_2 x18_5).f2) < (x14_4.length : Int)) = true := decide_eq_true c131
            clear c131
            have H' := Aside0.mk H
            clear H
            have hnb132 := NB417_384.out
            have hnc132 := NB384_417.out
            have hcz133_0 : w112.cell? ⟨gb417, 0, none⟩ = some (.int .i64 0) := (blk_cell BK417.out 0).trans rfl
            have hcz133_1 : w112.cell? ⟨gb417, 1, none⟩ = some (.int .i64 0) := (blk_cell BK417.out 1).trans rfl
            have hcz133_2 : w112.cell? ⟨gb417, 2, none⟩ = some (.int .i64 0) := (blk_cell BK417.out 2).trans rfl
            have hfz133_0 := blk_frozen BK417.out 0
            have hfz133_1 := blk_frozen BK417.out 1
            have hfz133_2 := blk_frozen BK417.out 2
            have hcz134_0 : w112.cell? ⟨gb384, 0, none⟩ = some (.string x385000_2) := (blk_cell BK384.out 0).trans rfl
            have hcz134_1 : w112.cell? ⟨gb384, 1, none⟩ = some (.slice (some ad416) x385001_2.length co56) := (blk_cell BK384.out 1).trans rfl
            have hfz134_0 := blk_frozen BK384.out 0
            have hfz134_1 := blk_frozen BK384.out 1
            have p418 : 0 ≤ (((rd_T31 x385001_2 x18_5).f1) : Int) := of_decide_eq_true (by first | (with_reducible assumption) | assumption)
            have q418 : ((rd_T31 x385001_2 x18_5).f1) < (x14_4.length : Int) := of_decide_eq_true (by first | (with_reducible assumption) | assumption)
            obtain ⟨ad418, e418, hx418_0⟩ := Kd.at_bool (Kd.R_reads' HO_14.out).2.2 ((rd_T31 x385001_2 x18_5).f1) p418 q418
            (try rw [← Nbq128.out] at hx418_0)
            obtain rfl : (⟨go71, 0, none⟩ : Addr) = ad418 := (by injection e418)
            (first | simp only [add_plain] at hx418_0 | simp only [add_at] at hx418_0 | simp only [Addr.add, Nat.zero_add] at hx418_0 | skip)
            have hn418_0 : (⟨go71, 0, none⟩ : Addr).block ≠ gb417 := Kd.own_blk (Kd.R_ne HO_14.out BK417.out (by decide))
            have hn418_1 : (⟨go71, 0, none⟩ : Addr).block ≠ gb417 := Kd.own_blk (Kd.R_ne HO_14.out BK417.out (by decide))
            have hn418_2 : (⟨go71, 0, none⟩ : Addr).block ≠ gb417 := Kd.own_blk (Kd.R_ne HO_14.out BK417.out (by decide))
            replace hx418_0 := (cell_far (p := ⟨gb417, 0, none⟩) (by first | (rw [add_block]; exact hn418_0) | (show (Addr.add _ _).block ≠ _; rw [add_block]; exact hn418_0) | exact hn418_0) (.int .i64 ((rd_T31 x385001_2 x18_5).f0))).trans hx418_0
            replace hx418_0 := (cell_far (p := ⟨gb417, 1, none⟩) (by first | (rw [add_block]; exact hn418_1) | (show (Addr.add _ _).block ≠ _; rw [add_block]; exact hn418_1) | exact hn418_1) (.int .i64 ((rd_T31 x385001_2 x18_5).f1))).trans hx418_0
            replace hx418_0 := (cell_far (p := ⟨gb417, 2, none⟩) (by first | (rw [add_block]; exact hn418_2) | (show (Addr.add _ _).block ≠ _; rw [add_block]; exact hn418_2) | exact hn418_2) (.int .i64 ((rd_T31 x385001_2 x18_5).f2))).trans hx418_0
            clear hn418_0
            clear hn418_1
            clear hn418_2
            replace p418 := eq_true p418
            replace q418 := eq_true q418
            have p419 : 0 ≤ (((rd_T31 x385001_2 x18_5).f2) : Int) := of_decide_eq_true (by first | (with_reducible assumption) | assumption)
            have q419 : ((rd_T31 x385001_2 x18_5).f2) < (x14_4.length : Int) := of_decide_eq_true (by first | (with_reducible assumption) | assumption)
            obtain ⟨ad419, e419, hx419_0⟩ := Kd.at_bool (Kd.R_reads' HO_14.out).2.2 ((rd_T31 x385001_2 x18_5).f2) p419 q419
            (try rw [← Nbq128.out] at hx419_0)
            obtain rfl : (⟨go71, 0, none⟩ : Addr) = ad419 := (by injection e419)
            (first | simp only [add_plain] at hx419_0 | simp only [add_at] at hx419_0 | simp only [Addr.add, Nat.zero_add] at hx419_0 | skip)
            have hn419_0 : (⟨go71, 0, none⟩ : Addr).block ≠ gb417 := Kd.own_blk (Kd.R_ne HO_14.out BK417.out (by decide))
            have hn419_1 : (⟨go71, 0, none⟩ : Addr).block ≠ gb417 := Kd.own_blk (Kd.R_ne HO_14.out BK417.out (by decide))
            have hn419_2 : (⟨go71, 0, none⟩ : Addr).block ≠ gb417 := Kd.own_blk (Kd.R_ne HO_14.out BK417.out (by decide))
            replace hx419_0 := (cell_far (p := ⟨gb417, 0, none⟩) (by first | (rw [add_block]; exact hn419_0) | (show (Addr.add _ _).block ≠ _; rw [add_block]; exact hn419_0) | exact hn419_0) (.int .i64 ((rd_T31 x385001_2 x18_5).f0))).trans hx419_0
            replace hx419_0 := (cell_far (p := ⟨gb417, 1, none⟩) (by first | (rw [add_block]; exact hn419_1) | (show (Addr.add _ _).block ≠ _; rw [add_block]; exact hn419_1) | exact hn419_1) (.int .i64 ((rd_T31 x385001_2 x18_5).f1))).trans hx419_0
            replace hx419_0 := (cell_far (p := ⟨gb417, 2, none⟩) (by first | (rw [add_block]; exact hn419_2) | (show (Addr.add _ _).block ≠ _; rw [add_block]; exact hn419_2) | exact hn419_2) (.int .i64 ((rd_T31 x385001_2 x18_5).f2))).trans hx419_0
            clear hn419_0
            clear hn419_1
            clear hn419_2
            replace p419 := eq_true p419
            replace q419 := eq_true q419
            go_wp2
            go_meet
            case rel => exact ⟨_, (!(rdOf false x14_4 ((rd_T31 x385001_2 x18_5).f2))), (by first | rfl | (simp; done) | (simp [*]; done)), H', ⟨by have := HK1.out; have := HK2.out; have := HJ53.out; have := HK4.out; have := HK5.out; first | omega | exact Nat.le_refl _⟩, ⟨by (try simp only [hl14_4]); (with_reducible repeat (first | apply Kd.R_alloc | apply Kd.R_drewN | apply Kd.R_drew)); exact Kd.R_mono (Kd.R_far (p := ⟨gb417, 2, none⟩) (Kd.R_far (p := ⟨gb417, 1, none⟩) (Kd.R_far (p := ⟨gb417, 0, none⟩) (Kd.R_types HO_14.out BK417.out (by decide)) (fun _ hk => hk.2) (.int .i64 ((rd_T31 x385001_2 x18_5).f0))) (fun _ hk => hk.2) (.int .i64 ((rd_T31 x385001_2 x18_5).f1))) (fun _ hk => hk.2) (.int .i64 ((rd_T31 x385001_2 x18_5).f2))) (fun _ hk => trivial)⟩, ⟨by (try simp only [hl14_4]); (with_reducible repeat (first | apply Kd.R_alloc | apply Kd.R_drewN | apply Kd.R_drew)); exact Kd.R_mono (Kd.R_far (p := ⟨gb417, 2, none⟩) (Kd.R_far (p := ⟨gb417, 1, none⟩) (Kd.R_far (p := ⟨gb417, 0, none⟩) (Kd.R_mono HO_385001.out (fun k_ hk => (⟨hk, hk.2⟩ : _ ∧ k_ ≠ gb417))) (fun _ hk => hk.2) (.int .i64 ((rd_T31 x385001_2 x18_5).f0))) (fun _ hk => hk.2) (.int .i64 ((rd_T31 x385001_2 x18_5).f1))) (fun _ hk => hk.2) (.int .i64 ((rd_T31 x385001_2 x18_5).f2))) (fun _ hk => hk.1.2)⟩, ⟨by (try simp only [hl14_4]); (with_reducible repeat (first | refine blk_drewN ?_ _ | refine blk_drew ?_ | refine blk_alloc ?_ _)); refine blk_far ?_ NB384_417.out _; (with_reducible repeat (first | refine blk_drewN ?_ _ | refine blk_drew ?_ | refine blk_alloc ?_ _)); refine blk_far ?_ NB384_417.out _; (with_reducible repeat (first | refine blk_drewN ?_ _ | refine blk_drew ?_ | refine blk_alloc ?_ _)); refine blk_far ?_ NB384_417.out _; (with_reducible repeat (first | refine blk_drewN ?_ _ | refine blk_drew ?_ | refine blk_alloc ?_ _)); exact BK384.out⟩, ⟨by (try simp only [hl14_4]); (with_reducible repeat (first | refine blk_drewN ?_ _ | refine blk_drew ?_ | refine blk_alloc ?_ _)); refine blk_put (cs := #[.int .i64 ((rd_T31 x385001_2 x18_5).f0), .int .i64 ((rd_T31 x385001_2 x18_5).f1), .int .i64 0]) ?_ 2 _ rfl; (with_reducible repeat (first | refine blk_drewN ?_ _ | refine blk_drew ?_ | refine blk_alloc ?_ _)); refine blk_put (cs := #[.int .i64 ((rd_T31 x385001_2 x18_5).f0), .int .i64 0, .int .i64 0]) ?_ 1 _ rfl; (with_reducible repeat (first | refine blk_drewN ?_ _ | refine blk_drew ?_ | refine blk_alloc ?_ _)); refine blk_put (cs := #[.int .i64 0, .int .i64 0, .int .i64 0]) ?_ 0 _ rfl; (with_reducible repeat (first | refine blk_drewN ?_ _ | refine blk_drew ?_ | refine blk_alloc ?_ _)); exact BK417.out⟩, ⟨by repeat (first | (with_reducible first | exact HB.out | apply below_alloc | apply pw_below_drewN | apply below_drew1 | refine below_set ?_ GE384.out | refine below_set ?_ GE417.out) | exact HB.out)⟩⟩
           case rest => as_aux_lemma =>
            clear HC110
            (try clear c1); (try clear q1); (try clear p2); (try clear p4); (try clear q4); (try clear hx4); (try clear p6); (try clear c7); (try clear c8); (try clear c9); (try clear p9); (try clear q9); (try clear hx9); (try clear hf9); (try clear c10); (try clear c11); (try clear c12); (try clear q12); (try clear c13); (try clear p41); (try clear q41); (try clear hx41); (try clear p64); (try clear c77); (try clear c77b0); (try clear c78); (try clear c85); (try clear c86); (try clear c87); (try clear c88); (try clear c88b0); (try clear c88b1); (try clear c96); (try clear c97); (try clear p98); (try clear q98); (try clear hx98); (try clear hf98); (try clear c105); (try clear c105b0); (try clear c105b1); (try clear c108); (try clear c108b0); (try clear c109); (try clear c109b0); (try clear c113); (try clear c115); (try clear c115b0); (try clear c115b1); (try clear c116); (try clear c118); (try clear c118b0); (try clear c119); (try clear c122); (try clear c122b0); (try clear c123); (try clear c126); (try clear c126b0); (try clear c127); (try clear c127b0); (try clear q128); (try clear c129); (try clear c130); (try clear c130b0); (try clear c131); (try clear c131b0); (try clear c132); (try clear c135); (try clear hcz107_0); (try clear hcz107_1); (try clear hcz111_0); (try clear hcz111_1); (try clear hcz114_0); (try clear hcz114_1); (try clear hcz114_2); (try clear hcz117_0); (try clear hcz117_1); (try clear hcz117_2); (try clear hcz120_0); (try clear hcz120_1); (try clear hcz120_2); (try clear hcz121_0); (try clear hcz121_1); (try clear hcz124_0); (try clear hcz124_1); (try clear hcz124_2); (try clear hcz125_0); (try clear hcz125_1); (try clear hcz133_0); (try clear hcz133_1); (try clear hcz133_2); (try clear hcz134_0); (try clear hcz134_1); (try clear hcz136_0); (try clear hcz136_1); (try clear hcz136_2); (try clear hcz137_0); (try clear hcz137_1); (try clear hfz107_0); (try clear hfz107_1); (try clear hfz111_0); (try clear hfz111_1); (try clear hfz114_0); (try clear hfz114_1); (try clear hfz114_2); (try clear hfz117_0); (try clear hfz117_1); (try clear hfz117_2); (try clear hfz120_0); (try clear hfz120_1); (try clear hfz120_2); (try clear hfz121_0); (try clear hfz121_1); (try clear hfz124_0); (try clear hfz124_1); (try clear hfz124_2); (try clear hfz125_0); (try clear hfz125_1); (try clear hfz133_0); (try clear hfz133_1); (try clear hfz133_2); (try clear hfz134_0); (try clear hfz134_1); (try clear hfz136_0); (try clear hfz136_1); (try clear hfz136_2); (try clear hfz137_0); (try clear hfz137_1); (try clear hx411_0); (try clear hx411_1); (try clear hx412_0); (try clear hx412_1); (try clear hx416_0); (try clear hx416_1); (try clear hx416_2); (try clear hx418_0); (try clear hx419_0); (try clear hx98_0); (try clear p2); (try clear p4); (try clear p41); (try clear p411); (try clear p412); (try clear p416); (try clear p418); (try clear p419); (try clear p6); (try clear p64); (try clear p9); (try clear p98); (try clear q4); (try clear q41); (try clear q411)
            (try clear q412); (try clear q416); (try clear q418); (try clear q419); (try clear q9); (try clear q98)
            obtain ⟨kq, x231_109, rfl, HA, HJ109, HO_14, HO_385001, BK384, BK417, HB⟩ := hcut
            cases kq with
            | zero => exact absurd HA.out (by simp [fCover.j5])
            | succ kj109 =>
             have H := HA.out
             clear HA
             simp only [fCover.j5] at H
             by_cases c138 : x231_109 = true
             ·subst c138
              have H1 : (some false) = some true := by rw [if_pos rfl] at H; exact H
              clear H
              have H := H1
              clear H1
              exact absurd H (by simp)
             replace c138 := Bool.eq_false_iff.mpr c138
             subst c138
             have H1 : (fCover.l4 kj109 x14_4 x18_5 0 x385000_2 x385001_2 ((rd_T31 x385001_2 x18_5).f0) ((rd_T31 x385001_2 x18_5).f1) ((rd_T31 x385001_2 x18_5).f2)) = some true := by rw [if_neg (show ¬ (false = true) by decide)] at H; exact H
             clear H
             have H := H1
             clear H1
             have H' := Aside0.mk H
             clear H
             go_wp2
             go_loopg [20] kj109 (fun kq v20 w' => ∃ (x20_7 : Int), v20 = .int .i64 x20_7 ∧ Aside0 (fCover.l4 kq x14_4 x18_5 x20_7 x385000_2 x385001_2 ((rd_T31 x385001_2 x18_5).f0) ((rd_T31 x385001_2 x18_5).f1) ((rd_T31 x385001_2 x18_5).f2) = some true) ∧ Aside0 (kq ≤ kj109) ∧ Aside0 (Kd.R Kd.bool 4 w' w.heap.size (fun _ => True) (.slice (some ⟨go71, 0, none⟩) x14_4.length co71) x14_4) ∧ Aside0 (Kd.R k31 31 w' w.heap.size (fun k_ => k_ ≠ gb417) (.slice (some ad416) x385001_2.length co56) x385001_2) ∧ Aside0 (w'.heap[gb384]? = some (.cells #[.string x385000_2, (.slice (some ad416) x385001_2.length co56)] 25 (0, 0))) ∧ Aside0 (w'.heap[gb417]? = some (.cells #[.int .i64 ((rd_T31 x385001_2 x18_5).f0), .int .i64 ((rd_T31 x385001_2 x18_5).f1), .int .i64 ((rd_T31 x385001_2 x18_5).f2)] 31 (0, 0))) ∧ Aside0 (Below w.heap.size w w'))
             case atStart => exact ⟨(0), (by first | rfl | (simp; done) | (simp [*]; done)), H', ⟨Nat.le_refl _⟩, ⟨by (try simp only [hl14_4]); (with_reducible repeat (first | apply Kd.R_alloc | apply Kd.R_drewN | apply Kd.R_drew)); exact HO_14.out⟩, ⟨by (try simp only [hl14_4]); (with_reducible repeat (first | apply Kd.R_alloc | apply Kd.R_drewN | apply Kd.R_drew)); exact HO_385001.out⟩, ⟨by (try simp only [hl14_4]); (with_reducible repeat (first | refine blk_drewN ?_ _ | refine blk_drew ?_ | refine blk_alloc ?_ _)); exact BK384.out⟩, ⟨by (try simp only [hl14_4]); (with_reducible repeat (first | refine blk_drewN ?_ _ | refine blk_drew ?_ | refine blk_alloc ?_ _)); exact BK417.out⟩, ⟨by repeat (first | (with_reducible first | exact HB.out | apply below_alloc | apply pw_below_drewN | apply below_drew1 | refine below_set ?_ GE384.out | refine below_set ?_ GE417.out) | exact HB.out)⟩⟩
             case round => as_aux_lemma =>
              clear H'
              (try clear c1); (try clear q1); (try clear p2); (try clear p4); (try clear q4); (try clear hx4); (try clear p6); (try clear c7); (try clear c8); (try clear c9); (try clear p9); (try clear q9); (try clear hx9); (try clear hf9); (try clear c10); (try clear c11); (try clear c12); (try clear q12); (try clear c13); (try clear p41); (try clear q41); (try clear hx41); (try clear p64); (try clear c77); (try clear c77b0); (try clear c78); (try clear c85); (try clear c86); (try clear c87); (try clear c88); (try clear c88b0); (try clear c88b1); (try clear c96); (try clear c97); (try clear p98); (try clear q98); (try clear hx98); (try clear hf98); (try clear c105); (try clear c105b0); (try clear c105b1); (try clear c108); (try clear c108b0); (try clear c109); (try clear c109b0); (try clear c113); (try clear c115); (try clear c115b0); (try clear c115b1); (try clear c116); (try clear c118); (try clear c118b0); (try clear c119); (try clear c122); (try clear c122b0); (try clear c123); (try clear c126); (try clear c126b0); (try clear c127); (try clear c127b0); (try clear q128); (try clear c129); (try clear c130); (try clear c130b0); (try clear c131); (try clear c131b0); (try clear c132); (try clear c135); (try clear c138); (try clear hcz107_0); (try clear hcz107_1); (try clear hcz111_0); (try clear hcz111_1); (try clear hcz114_0); (try clear hcz114_1); (try clear hcz114_2); (try clear hcz117_0); (try clear hcz117_1); (try clear hcz117_2); (try clear hcz120_0); (try clear hcz120_1); (try clear hcz120_2); (try clear hcz121_0); (try clear hcz121_1); (try clear hcz124_0); (try clear hcz124_1); (try clear hcz124_2); (try clear hcz125_0); (try clear hcz125_1); (try clear hcz133_0); (try clear hcz133_1); (try clear hcz133_2); (try clear hcz134_0); (try clear hcz134_1); (try clear hcz136_0); (try clear hcz136_1); (try clear hcz136_2); (try clear hcz137_0); (try clear hcz137_1); (try clear hfz107_0); (try clear hfz107_1); (try clear hfz111_0); (try clear hfz111_1); (try clear hfz114_0); (try clear hfz114_1); (try clear hfz114_2); (try clear hfz117_0); (try clear hfz117_1); (try clear hfz117_2); (try clear hfz120_0); (try clear hfz120_1); (try clear hfz120_2); (try clear hfz121_0); (try clear hfz121_1); (try clear hfz124_0); (try clear hfz124_1); (try clear hfz124_2); (try clear hfz125_0); (try clear hfz125_1); (try clear hfz133_0); (try clear hfz133_1); (try clear hfz133_2); (try clear hfz134_0); (try clear hfz134_1); (try clear hfz136_0); (try clear hfz136_1); (try clear hfz136_2); (try clear hfz137_0); (try clear hfz137_1); (try clear hx411_0); (try clear hx411_1); (try clear hx412_0); (try clear hx412_1); (try clear hx416_0); (try clear hx416_1); (try clear hx416_2); (try clear hx418_0); (try clear hx419_0); (try clear hx98_0); (try clear p2); (try clear p4); (try clear p41); (try clear p411); (try clear p412); (try clear p416); (try clear p418); (try clear p419); (try clear p6); (try clear p64); (try clear p9); (try clear p98); (try clear q1); (try clear q12)
              (try clear q128); (try clear q4); (try clear q41); (try clear q411); (try clear q412); (try clear q416); (try clear q418); (try clear q419); (try clear q9); (try clear q98)
              obtain ⟨x20_7, rfl, HA, HK7, HO_14, HO_385001, BK384, BK417, HB⟩ := hrel
              cases gk with
              | zero => exact absurd HA.out (by simp [fCover.l4])
              | succ k7 =>
               have H := HA.out
               clear HA
               simp only [fCover.l4] at H
               by_cases c139 : x20_7 < x18_5
               rotate_left
               ·rw [if_neg c139] at H
                have c139b0 : decide (x20_7 < x18_5) = false := decide_eq_false c139
                clear c139
                have H' := Aside0.mk H
                clear H
                go_wp2
                go_roundg k7
                case measure => have := HK1.out; have := HK2.out; have := HJ53.out; have := HK4.out; have := HK5.out; have := HJ109.out; have := HK7.out; omega
                case rel => exact ⟨(wrap64 (x18_5 + 1)), (by first | rfl | (simp; done) | (simp [*]; done)), H', ⟨by have := HK1.out; have := HK2.out; have := HJ53.out; have := HK4.out; have := HK5.out; have := HJ109.out; have := HK7.out; omega⟩, ⟨by (try simp only [hl14_4]); (with_reducible repeat (first | apply Kd.R_alloc | apply Kd.R_drewN | apply Kd.R_drew)); exact HO_14.out⟩, ⟨by (try simp only [hl14_4]); (with_reducible repeat (first | apply Kd.R_alloc | apply Kd.R_drewN | apply Kd.R_drew)); exact Kd.R_mono HO_385001.out (fun _ hk => trivial)⟩, ⟨by (try simp only [hl14_4]); (with_reducible repeat (first | refine blk_drewN ?_ _ | refine blk_drew ?_ | refine blk_alloc ?_ _)); exact BK384.out⟩, ⟨by repeat (first | (with_reducible first | exact HB.out | apply below_alloc | apply pw_below_drewN | apply below_drew1 | refine below_set ?_ GE384.out | refine below_set ?_ GE417.out) | exact HB.out)⟩⟩
               rw [if_pos c139] at H
               have c139b0 : decide (x20_7 < x18_5) = true := decide_eq_true c139
               clear c139
               by_cases c140 : 0 ≤ x20_7
               rotate_left
               ·rw [if_neg c140] at H
                exact absurd H (by simp)
               rw [if_pos c140] at H
               have c140b0 : decide (0 ≤ x20_7) = true := decide_eq_true c140
               clear c140
               by_cases c141 : x20_7 < (x385001_2.length : Int)
               rotate_left
               ·rw [if_neg c141] at H
                exact absurd H (by simp)
               rw [if_pos c141] at H
               have c141b0 : decide (x20_7 < (x385001_2.length : Int)) = true := decide_eq_true c141
               clear c141
               by_cases c142 : ((rd_T31 x385001_2 x20_7).f1) > ((rd_T31 x385001_2 x18_5).f1)
               ·rw [if_pos c142] at H
                exact absurd H (by simp)
               rw [if_neg c142] at H
               have c142b0 : decide (((rd_T31 x385001_2 x18_5).f1) < ((rd_T31 x385001_2 x20_7).f1)) = false := decide_eq_false c142
               clear c142
               by_cases c150 : ((rd_T31 x385001_2 x20_7).f1) = ((rd_T31 x385001_2 x18_5).f1)
               rotate_left
               ·rw [if_neg c150] at H
                have c150b0 : (((rd_T31 x385001_2 x20_7).f1) == ((rd_T31 x385001_2 x18_5).f1)) = false := beq_eq_false_iff_ne.mpr c150
                have c150b1 : (((rd_T31 x385001_2 x20_7).f1) != ((rd_T31 x385001_2 x18_5).f1)) = true := bne_iff_ne.mpr c150
                by_cases c174 : ((rd_T31 x385001_2 x20_7).f2) > ((rd_T31 x385001_2 x18_5).f1)
                rotate_left
                ·rw [if_neg c174] at H
                 have c174b0 : decide (((rd_T31 x385001_2 x18_5).f1) < ((rd_T31 x385001_2 x20_7).f2)) = false := decide_eq_false c174
                 clear c174
                 have H' := Aside0.mk H
                 clear H
                 have hnb190 := NB384_417.out
                 have hnc190 := NB417_384.out
                 have hcz191_0 : wr.cell? ⟨gb384, 0, none⟩ = some (.string x385000_2) := (blk_cell BK384.out 0).trans rfl
                 have hcz191_1 : wr.cell? ⟨gb384, 1, none⟩ = some (.slice (some ad416) x385001_2.length co56) := (blk_cell BK384.out 1).trans rfl
                 have hfz191_0 := blk_frozen BK384.out 0
                 have hfz191_1 := blk_frozen BK384.out 1
                 have p420 : 0 ≤ (x20_7 : Int) := of_decide_eq_true (by first | (with_reducible assumption) | assumption)
                 have q420 : x20_7 < (x385001_2.length : Int) := of_decide_eq_true (by first | (with_reducible assumption) | assumption)
                 obtain ⟨ad420, e420, hx420_0, hx420_1, hx420_2⟩ := at_T31 (Kd.R_reads' HO_385001.out).2.2 x20_7 p420 q420
                 obtain rfl : ad416 = ad420 := (by injection e420)
                 replace p420 := eq_true p420
                 replace q420 := eq_true q420
                 go_wp2_with (first | ((with_reducible refine gate_dst (N := 21) rfl ?_); (try (refine gate_guard (by rfl) ?_; dsimp only)); refine box_event ?hg (N := 21) ?hd (cs := #[.int .i64 0, .int .i64 0, .int .i64 0]) (t := 31) ?hr ?_; (case hd => rfl); (case hg => rfl); (case hr => first | (go_simp; done) | (go_simp; rfl)); intro gb421 hg w192 hbox hb; have n0_ := Aside0.mk (Kd.R_below (by (with_reducible repeat (first | apply Kd.R_alloc | apply Kd.R_drewN | apply Kd.R_drew)); exact HO_14.out) hb); have n1_ := Aside0.mk (Kd.R_below (Kd.R_elderB (by (with_reducible repeat (first | apply Kd.R_alloc | apply Kd.R_drewN | apply Kd.R_drew)); exact HO_385001.out) gb421 (Nat.le_of_eq hg.symm)) hb); have n2_ := Aside0.mk (blk_below (g := gb384) (o := .cells #[.string x385000_2, .slice (some ad416) x385001_2.length co56] 25 (0, 0)) (by (with_reducible repeat (first | refine blk_drewN ?_ _ | refine blk_drew ?_ | refine blk_alloc ?_ _)); exact BK384.out) hb); have n3_ := Aside0.mk (blk_below (g := gb417) (o := .cells #[.int .i64 ((rd_T31 x385001_2 x18_5).f0), .int .i64 ((rd_T31 x385001_2 x18_5).f1), .int .i64 ((rd_T31 x385001_2 x18_5).f2)] 31 (0, 0)) (by (with_reducible repeat (first | refine blk_drewN ?_ _ | refine blk_drew ?_ | refine blk_alloc ?_ _)); exact BK417.out) hb); have n4_ := Aside0.mk (below_step (by repeat (first | (with_reducible first | exact HB.out | apply below_alloc | apply pw_below_drewN | apply below_drew1 | refine below_set ?_ GE384.out | refine below_set ?_ GE417.out) | exact HB.out)) hb); have n5_ := Aside0.mk (hbox); have n6_ := Aside0.mk ((by rw [hg]; exact (below_size (by repeat (first | (with_reducible first | exact HB.out | apply below_alloc | apply pw_below_drewN | apply below_drew1 | refine below_set ?_ GE384.out | refine below_set ?_ GE417.out) | exact HB.out))) : w.heap.size ≤ gb421)); have n7_ := Aside0.mk ((by rw [hg]; exact (below_size (by repeat (first | (with_reducible first | exact HB.out | apply below_alloc | apply pw_below_drewN | apply below_drew1 | refine below_set ?_ GE384.out | refine below_set ?_ GE417.out) | exact HB.out))) : w.heap.size ≤ gb421)); have n8_ := Aside0.mk ((by rw [hg]; exact Nat.ne_of_lt (blk_lt (g := gb384) (o := .cells #[.string x385000_2, .slice (some ad416) x385001_2.length co56] 25 (0, 0)) (by (with_reducible repeat (first | refine blk_drewN ?_ _ | refine blk_drew ?_ | refine blk_alloc ?_ _)); exact BK384.out)) : gb384 ≠ gb421)); have n9_ := Aside0.mk ((by rw [hg]; exact Nat.ne_of_gt (blk_lt (g := gb384) (o := .cells #[.string x385000_2, .slice (some ad416) x385001_2.length co56] 25 (0, 0)) (by (with_reducible repeat (first | refine blk_drewN ?_ _ | refine blk_drew ?_ | refine blk_alloc ?_ _)); exact BK384.out)) : gb421 ≠ gb384)); have n10_ := Aside0.mk ((by rw [hg]; exact Nat.ne_of_lt (blk_lt (g := gb417) (o := .cells #[.int .i64 ((rd_T31 x385001_2 x18_5).f0), .int .i64 ((rd_T31 x385001_2 x18_5).f1), .int .i64 ((rd_T31 x385001_2 x18_5).f2)] 31 (0, 0)) (by (with_reducible repeat (first | refine blk_drewN ?_ _ | refine blk_drew ?_ | refine blk_alloc ?_ _)); exact BK417.out)) : gb417 ≠ gb421)); have n11_ := Aside0.mk ((by rw [hg]; exact Nat.ne_of_gt (blk_lt (g := gb417) (o := .cells #[.int .i64 ((rd_T31 x385001_2 x18_5).f0), .int .i64 ((rd_T31 x385001_2 x18_5).f1), .int .i64 ((rd_T31 x385001_2 x18_5).f2)] 31 (0, 0)) (by (with_reducible repeat (first | refine blk_drewN ?_ _ | refine blk_drew ?_ | refine blk_alloc ?_ _)); exact BK417.out)) : gb421 ≠ gb417)); clear HO_14; clear HO_385001; clear BK384; clear BK417; clear HB; have HO_14 := n0_; have HO_385001 := n1_; have BK384 := n2_; have BK417 := n3_; have HB := n4_; have BK421 := n5_; have GW421 := n6_; have GE421 := n7_; have NB384_421 := n8_; have NB421_384 := n9_; have NB417_421 := n10_; have NB421_417 := n11_; clear n0_ n1_ n2_ n3_ n4_ n5_ n6_ n7_ n8_ n9_ n10_ n11_; clear hb hbox hg; have hnb193 := NB421_384.out; have hnc193 := NB384_421.out; have hnb194 := NB421_417.out; have hnc194 := NB417_421.out; have hcz195_0 : w192.cell? ⟨gb421, 0, none⟩ = some (.int .i64 0) := (blk_cell BK421.out 0).trans rfl; have hcz195_1 : w192.cell? ⟨gb421, 1, none⟩ = some (.int .i64 0) := (blk_cell BK421.out 1).trans rfl; have hcz195_2 : w192.cell? ⟨gb421, 2, none⟩ = some (.int .i64 0) := (blk_cell BK421.out 2).trans rfl; have hfz195_0 := blk_frozen BK421.out 0; have hfz195_1 := blk_frozen BK421.out 1; have hfz195_2 := blk_frozen BK421.out 2; have hcz196_0 : w192.cell? ⟨gb417, 0, none⟩ = some (.int .i64 ((rd_T31 x385001_2 x18_5).f0)) := (blk_cell BK417.out 0).trans rfl; have hcz196_1 : w192.cell? ⟨gb417, 1, none⟩ = some (.int .i64 ((rd_T31 x385001_2 x18_5).f1)) := (blk_cell BK417.out 1).trans rfl; have hcz196_2 : w192.cell? ⟨gb417, 2, none⟩ = some (.int .i64 ((rd_T31 x385001_2 x18_5).f2)) := (blk_cell BK417.out 2).trans rfl; have hfz196_0 := blk_frozen BK417.out 0; have hfz196_1 := blk_frozen BK417.out 1; have hfz196_2 := blk_frozen BK417.out 2))
                 go_roundg k7
                 case measure => have := HK1.out; have := HK2.out; have := HJ53.out; have := HK4.out; have := HK5.out; have := HJ109.out; have := HK7.out; omega
                 case rel => exact ⟨(wrap64 (x20_7 + 1)), (by first | rfl | (simp; done) | (simp [*]; done)), H', ⟨by have := HK1.out; have := HK2.out; have := HJ53.out; have := HK4.out; have := HK5.out; have := HJ109.out; have := HK7.out; omega⟩, ⟨by (try simp only [hl14_4]); (with_reducible repeat (first | apply Kd.R_alloc | apply Kd.R_drewN | apply Kd.R_drew)); exact Kd.R_mono (Kd.R_far (p := ⟨gb421, 2, none⟩) (Kd.R_far (p := ⟨gb421, 1, none⟩) (Kd.R_far (p := ⟨gb421, 0, none⟩) (Kd.R_types HO_14.out BK421.out (by decide)) (fun _ hk => hk.2) (.int .i64 ((rd_T31 x385001_2 x20_7).f0))) (fun _ hk => hk.2) (.int .i64 ((rd_T31 x385001_2 x20_7).f1))) (fun _ hk => hk.2) (.int .i64 ((rd_T31 x385001_2 x20_7).f2))) (fun _ hk => trivial)⟩, ⟨by (try simp only [hl14_4]); (with_reducible repeat (first | apply Kd.R_alloc | apply Kd.R_drewN | apply Kd.R_drew)); exact Kd.R_mono (Kd.R_far (p := ⟨gb421, 2, none⟩) (Kd.R_far (p := ⟨gb421, 1, none⟩) (Kd.R_far (p := ⟨gb421, 0, none⟩) (Kd.R_mono HO_385001.out (fun k_ hk => (⟨hk, hk.2⟩ : _ ∧ k_ ≠ gb421))) (fun _ hk => hk.2) (.int .i64 ((rd_T31 x385001_2 x20_7).f0))) (fun _ hk => hk.2) (.int .i64 ((rd_T31 x385001_2 x20_7).f1))) (fun _ hk => hk.2) (.int .i64 ((rd_T31 x385001_2 x20_7).f2))) (fun _ hk => hk.1.1)⟩, ⟨by (try simp only [hl14_4]); (with_reducible repeat (first | refine blk_drewN ?_ _ | refine blk_drew ?_ | refine blk_alloc ?_ _)); refine blk_far ?_ NB384_421.out _; (with_reducible repeat (first | refine blk_drewN ?_ _ | refine blk_drew ?_ | refine blk_alloc ?_ _)); refine blk_far ?_ NB384_421.out _; (with_reducible repeat (first | refine blk_drewN ?_ _ | refine blk_drew ?_ | refine blk_alloc ?_ _)); refine blk_far ?_ NB384_421.out _; (with_reducible repeat (first | refine blk_drewN ?_ _ | refine blk_drew ?_ | refine blk_alloc ?_ _)); exact BK384.out⟩, ⟨by (try simp only [hl14_4]); (with_reducible repeat (first | refine blk_drewN ?_ _ | refine blk_drew ?_ | refine blk_alloc ?_ _)); refine blk_far ?_ NB417_421.out _; (with_reducible repeat (first | refine blk_drewN ?_ _ | refine blk_drew ?_ | refine blk_alloc ?_ _)); refine blk_far ?_ NB417_421.out _; (with_reducible repeat (first | refine blk_drewN ?_ _ | refine blk_drew ?_ | refine blk_alloc ?_ _)); refine blk_far ?_ NB417_421.out _; (with_reducible repeat (first | refine blk_drewN ?_ _ | refine blk_drew ?_ | refine blk_alloc ?_ _)); exact BK417.out⟩, ⟨by repeat (first | (with_reducible first | exact HB.out | apply below_alloc | apply pw_below_drewN | apply below_drew1 | refine below_set ?_ GE384.out | refine below_set ?_ GE417.out | refine below_set ?_ GE421.out) | exact HB.out)⟩⟩
                rw [if_pos c174] at H
                have c174b0 : decide (((rd_T31 x385001_2 x18_5).f1) < ((rd_T31 x385001_2 x20_7).f2)) = true := decide_eq_true c174
                clear c174
                by_cases c175 : ((rd_T31 x385001_2 x20_7).f2) < ((rd_T31 x385001_2 x18_5).f2)
                ·rw [if_pos c175] at H
                 exact absurd H (by simp)
                rw [if_neg c175] at H
                have c175b0 : decide (((rd_T31 x385001_2 x20_7).f2) < ((rd_T31 x385001_2 x18_5).f2)) = false := decide_eq_false c175
                clear c175
                have H' := Aside0.mk H
                clear H
                have hnb183 := NB384_417.out
                have hnc183 := NB417_384.out
                have hcz184_0 : wr.cell? ⟨gb384, 0, none⟩ = some (.string x385000_2) := (blk_cell BK384.out 0).trans rfl
                have hcz184_1 : wr.cell? ⟨gb384, 1, none⟩ = some (.slice (some ad416) x385001_2.length co56) := (blk_cell BK384.out 1).trans rfl
                have hfz184_0 := blk_frozen BK384.out 0
                have hfz184_1 := blk_frozen BK384.out 1
                have p420 : 0 ≤ (x20_7 : Int) := of_decide_eq_true (by first | (with_reducible assumption) | assumption)
                have q420 : x20_7 < (x385001_2.length : Int) := of_decide_eq_true (by first | (with_reducible assumption) | assumption)
                obtain ⟨ad420, e420, hx420_0, hx420_1, hx420_2⟩ := at_T31 (Kd.R_reads' HO_385001.out).2.2 x20_7 p420 q420
                obtain rfl : ad416 = ad420 := (by injection e420)
                replace p420 := eq_true p420
                replace q420 := eq_true q420
                go_wp2_with (first | ((with_reducible refine gate_dst (N := 21) rfl ?_); (try (refine gate_guard (by rfl) ?_; dsimp only)); refine box_event ?hg (N := 21) ?hd (cs := #[.int .i64 0, .int .i64 0, .int .i64 0]) (t := 31) ?hr ?_; (case hd => rfl); (case hg => rfl); (case hr => first | (go_simp; done) | (go_simp; rfl)); intro gb421 hg w185 hbox hb; have n0_ := Aside0.mk (Kd.R_below (by (with_reducible repeat (first | apply Kd.R_alloc | apply Kd.R_drewN | apply Kd.R_drew)); exact HO_14.out) hb); have n1_ := Aside0.mk (Kd.R_below (Kd.R_elderB (by (with_reducible repeat (first | apply Kd.R_alloc | apply Kd.R_drewN | apply Kd.R_drew)); exact HO_385001.out) gb421 (Nat.le_of_eq hg.symm)) hb); have n2_ := Aside0.mk (blk_below (g := gb384) (o := .cells #[.string x385000_2, .slice (some ad416) x385001_2.length co56] 25 (0, 0)) (by (with_reducible repeat (first | refine blk_drewN ?_ _ | refine blk_drew ?_ | refine blk_alloc ?_ _)); exact BK384.out) hb); have n3_ := Aside0.mk (blk_below (g := gb417) (o := .cells #[.int .i64 ((rd_T31 x385001_2 x18_5).f0), .int .i64 ((rd_T31 x385001_2 x18_5).f1), .int .i64 ((rd_T31 x385001_2 x18_5).f2)] 31 (0, 0)) (by (with_reducible repeat (first | refine blk_drewN ?_ _ | refine blk_drew ?_ | refine blk_alloc ?_ _)); exact BK417.out) hb); have n4_ := Aside0.mk (below_step (by repeat (first | (with_reducible first | exact HB.out | apply below_alloc | apply pw_below_drewN | apply below_drew1 | refine below_set ?_ GE384.out | refine below_set ?_ GE417.out) | exact HB.out)) hb); have n5_ := Aside0.mk (hbox); have n6_ := Aside0.mk ((by rw [hg]; exact (below_size (by repeat (first | (with_reducible first | exact HB.out | apply below_alloc | apply pw_below_drewN | apply below_drew1 | refine below_set ?_ GE384.out | refine below_set ?_ GE417.out) | exact HB.out))) : w.heap.size ≤ gb421)); have n7_ := Aside0.mk ((by rw [hg]; exact (below_size (by repeat (first | (with_reducible first | exact HB.out | apply below_alloc | apply pw_below_drewN | apply below_drew1 | refine below_set ?_ GE384.out | refine below_set ?_ GE417.out) | exact HB.out))) : w.heap.size ≤ gb421)); have n8_ := Aside0.mk ((by rw [hg]; exact Nat.ne_of_lt (blk_lt (g := gb384) (o := .cells #[.string x385000_2, .slice (some ad416) x385001_2.length co56] 25 (0, 0)) (by (with_reducible repeat (first | refine blk_drewN ?_ _ | refine blk_drew ?_ | refine blk_alloc ?_ _)); exact BK384.out)) : gb384 ≠ gb421)); have n9_ := Aside0.mk ((by rw [hg]; exact Nat.ne_of_gt (blk_lt (g := gb384) (o := .cells #[.string x385000_2, .slice (some ad416) x385001_2.length co56] 25 (0, 0)) (by (with_reducible repeat (first | refine blk_drewN ?_ _ | refine blk_drew ?_ | refine blk_alloc ?_ _)); exact BK384.out)) : gb421 ≠ gb384)); have n10_ := Aside0.mk ((by rw [hg]; exact Nat.ne_of_lt (blk_lt (g := gb417) (o := .cells #[.int .i64 ((rd_T31 x385001_2 x18_5).f0), .int .i64 ((rd_T31 x385001_2 x18_5).f1), .int .i64 ((rd_T31 x385001_2 x18_5).f2)] 31 (0, 0)) (by (with_reducible repeat (first | refine blk_drewN ?_ _ | refine blk_drew ?_ | refine blk_alloc ?_ _)); exact BK417.out)) : gb417 ≠ gb421)); have n11_ := Aside0.mk ((by rw [hg]; exact Nat.ne_of_gt (blk_lt (g := gb417) (o := .cells #[.int .i64 ((rd_T31 x385001_2 x18_5).f0), .int .i64 ((rd_T31 x385001_2 x18_5).f1), .int .i64 ((rd_T31 x385001_2 x18_5).f2)] 31 (0, 0)) (by (with_reducible repeat (first | refine blk_drewN ?_ _ | refine blk_drew ?_ | refine blk_alloc ?_ _)); exact BK417.out)) : gb421 ≠ gb417)); clear HO_14; clear HO_385001; clear BK384; clear BK417; clear HB; have HO_14 := n0_; have HO_385001 := n1_; have BK384 := n2_; have BK417 := n3_; have HB := n4_; have BK421 := n5_; have GW421 := n6_; have GE421 := n7_; have NB384_421 := n8_; have NB421_384 := n9_; have NB417_421 := n10_; have NB421_417 := n11_; clear n0_ n1_ n2_ n3_ n4_ n5_ n6_ n7_ n8_ n9_ n10_ n11_; clear hb hbox hg; have hnb186 := NB421_384.out; have hnc186 := NB384_421.out; have hnb187 := NB421_417.out; have hnc187 := NB417_421.out; have hcz188_0 : w185.cell? ⟨gb421, 0, none⟩ = some (.int .i64 0) := (blk_cell BK421.out 0).trans rfl; have hcz188_1 : w185.cell? ⟨gb421, 1, none⟩ = some (.int .i64 0) := (blk_cell BK421.out 1).trans rfl; have hcz188_2 : w185.cell? ⟨gb421, 2, none⟩ = some (.int .i64 0) := (blk_cell BK421.out 2).trans rfl; have hfz188_0 := blk_frozen BK421.out 0; have hfz188_1 := blk_frozen BK421.out 1; have hfz188_2 := blk_frozen BK421.out 2; have hcz189_0 : w185.cell? ⟨gb417, 0, none⟩ = some (.int .i64 ((rd_T31 x385001_2 x18_5).f0)) := (blk_cell BK417.out 0).trans rfl; have hcz189_1 : w185.cell? ⟨gb417, 1, none⟩ = some (.int .i64 ((rd_T31 x385001_2 x18_5).f1)) := (blk_cell BK417.out 1).trans rfl; have hcz189_2 : w185.cell? ⟨gb417, 2, none⟩ = some (.int .i64 ((rd_T31 x385001_2 x18_5).f2)) := (blk_cell BK417.out 2).trans rfl; have hfz189_0 := blk_frozen BK417.out 0; have hfz189_1 := blk_frozen BK417.out 1; have hfz189_2 := blk_frozen BK417.out 2))
                go_roundg k7
                case measure => have := HK1.out; have := HK2.out; have := HJ53.out; have := HK4.out; have := HK5.out; have := HJ109.out; have := HK7.out; omega
                case rel => exact ⟨(wrap64 (x20_7 + 1)), (by first | rfl | (simp; done) | (simp [*]; done)), H', ⟨by have := HK1.out; have := HK2.out; have := HJ53.out; have := HK4.out; have := HK5.out; have := HJ109.out; have := HK7.out; omega⟩, ⟨by (try simp only [hl14_4]); (with_reducible repeat (first | apply Kd.R_alloc | apply Kd.R_drewN | apply Kd.R_drew)); exact Kd.R_mono (Kd.R_far (p := ⟨gb421, 2, none⟩) (Kd.R_far (p := ⟨gb421, 1, none⟩) (Kd.R_far (p := ⟨gb421, 0, none⟩) (Kd.R_types HO_14.out BK421.out (by decide)) (fun _ hk => hk.2) (.int .i64 ((rd_T31 x385001_2 x20_7).f0))) (fun _ hk => hk.2) (.int .i64 ((rd_T31 x385001_2 x20_7).f1))) (fun _ hk => hk.2) (.int .i64 ((rd_T31 x385001_2 x20_7).f2))) (fun _ hk => trivial)⟩, ⟨by (try simp only [hl14_4]); (with_reducible repeat (first | apply Kd.R_alloc | apply Kd.R_drewN | apply Kd.R_drew)); exact Kd.R_mono (Kd.R_far (p := ⟨gb421, 2, none⟩) (Kd.R_far (p := ⟨gb421, 1, none⟩) (Kd.R_far (p := ⟨gb421, 0, none⟩) (Kd.R_mono HO_385001.out (fun k_ hk => (⟨hk, hk.2⟩ : _ ∧ k_ ≠ gb421))) (fun _ hk => hk.2) (.int .i64 ((rd_T31 x385001_2 x20_7).f0))) (fun _ hk => hk.2) (.int .i64 ((rd_T31 x385001_2 x20_7).f1))) (fun _ hk => hk.2) (.int .i64 ((rd_T31 x385001_2 x20_7).f2))) (fun _ hk => hk.1.1)⟩, ⟨by (try simp only [hl14_4]); (with_reducible repeat (first | refine blk_drewN ?_ _ | refine blk_drew ?_ | refine blk_alloc ?_ _)); refine blk_far ?_ NB384_421.out _; (with_reducible repeat (first | refine blk_drewN ?_ _ | refine blk_drew ?_ | refine blk_alloc ?_ _)); refine blk_far ?_ NB384_421.out _; (with_reducible repeat (first | refine blk_drewN ?_ _ | refine blk_drew ?_ | refine blk_alloc ?_ _)); refine blk_far ?_ NB384_421.out _; (with_reducible repeat (first | refine blk_drewN ?_ _ | refine blk_drew ?_ | refine blk_alloc ?_ _)); exact BK384.out⟩, ⟨by (try simp only [hl14_4]); (with_reducible repeat (first | refine blk_drewN ?_ _ | refine blk_drew ?_ | refine blk_alloc ?_ _)); refine blk_far ?_ NB417_421.out _; (with_reducible repeat (first | refine blk_drewN ?_ _ | refine blk_drew ?_ | refine blk_alloc ?_ _)); refine blk_far ?_ NB417_421.out _; (with_reducible repeat (first | refine blk_drewN ?_ _ | refine blk_drew ?_ | refine blk_alloc ?_ _)); refine blk_far ?_ NB417_421.out _; (with_reducible repeat (first | refine blk_drewN ?_ _ | refine blk_drew ?_ | refine blk_alloc ?_ _)); exact BK417.out⟩, ⟨by repeat (first | (with_reducible first | exact HB.out | apply below_alloc | apply pw_below_drewN | apply below_drew1 | refine below_set ?_ GE384.out | refine below_set ?_ GE417.out | refine below_set ?_ GE421.out) | exact HB.out)⟩⟩
               rw [if_pos c150] at H
               have c150b0 : (((rd_T31 x385001_2 x20_7).f1) == ((rd_T31 x385001_2 x18_5).f1)) = true := beq_iff_eq.mpr c150
               have c150b1 : (((rd_T31 x385001_2 x20_7).f1) != ((rd_T31 x385001_2 x18_5).f1)) = false := bne_eq_false_iff_eq.mpr c150
               clear c150
               by_cases c151 : ((rd_T31 x385001_2 x20_7).f2) < ((rd_T31 x385001_2 x18_5).f2)
               ·rw [if_pos c151] at H
                exact absurd H (by simp)
               rw [if_neg c151] at H
               have c151b0 : decide (((rd_T31 x385001_2 x20_7).f2) < ((rd_T31 x385001_2 x18_5).f2)) = false := decide_eq_false c151
               clear c151
               by_cases c159 : ((rd_T31 x385001_2 x20_7).f2) > ((rd_T31 x385001_2 x18_5).f1)
               ·rw [if_pos c159] at H
                have c159b0 : decide (((rd_T31 x385001_2 x18_5).f1) < ((rd_T31 x385001_2 x20_7).f2)) = true := decide_eq_true c159
                clear c159
                have H' := Aside0.mk H
                clear H
                have hnb160 := NB384_417.out
                have hnc160 := NB417_384.out
                have hcz161_0 : wr.cell? ⟨gb384, 0, none⟩ = some (.string x385000_2) := (blk_cell BK384.out 0).trans rfl
                have hcz161_1 : wr.cell? ⟨gb384, 1, none⟩ = some (.slice (some ad416) x385001_2.length co56) := (blk_cell BK384.out 1).trans rfl
                have hfz161_0 := blk_frozen BK384.out 0
                have hfz161_1 := blk_frozen BK384.out 1
                have p420 : 0 ≤ (x20_7 : Int) := of_decide_eq_true (by first | (with_reducible assumption) | assumption)
                have q420 : x20_7 < (x385001_2.length : Int) := of_decide_eq_true (by first | (with_reducible assumption) | assumption)
                obtain ⟨ad420, e420, hx420_0, hx420_1, hx420_2⟩ := at_T31 (Kd.R_reads' HO_385001.out).2.2 x20_7 p420 q420
                obtain rfl : ad416 = ad420 := (by injection e420)
                replace p420 := eq_true p420
                replace q420 := eq_true q420
                go_wp2_with (first | ((with_reducible refine gate_dst (N := 21) rfl ?_); (try (refine gate_guard (by rfl) ?_; dsimp only)); refine box_event ?hg (N := 21) ?hd (cs := #[.int .i64 0, .int .i64 0, .int .i64 0]) (t := 31) ?hr ?_; (case hd => rfl); (case hg => rfl); (case hr => first | (go_simp; done) | (go_simp; rfl)); intro gb421 hg w162 hbox hb; have n0_ := Aside0.mk (Kd.R_below (by (with_reducible repeat (first | apply Kd.R_alloc | apply Kd.R_drewN | apply Kd.R_drew)); exact HO_14.out) hb); have n1_ := Aside0.mk (Kd.R_below (Kd.R_elderB (by (with_reducible repeat (first | apply Kd.R_alloc | apply Kd.R_drewN | apply Kd.R_drew)); exact HO_385001.out) gb421 (Nat.le_of_eq hg.symm)) hb); have n2_ := Aside0.mk (blk_below (g := gb384) (o := .cells #[.string x385000_2, .slice (some ad416) x385001_2.length co56] 25 (0, 0)) (by (with_reducible repeat (first | refine blk_drewN ?_ _ | refine blk_drew ?_ | refine blk_alloc ?_ _)); exact BK384.out) hb); have n3_ := Aside0.mk (blk_below (g := gb417) (o := .cells #[.int .i64 ((rd_T31 x385001_2 x18_5).f0), .int .i64 ((rd_T31 x385001_2 x18_5).f1), .int .i64 ((rd_T31 x385001_2 x18_5).f2)] 31 (0, 0)) (by (with_reducible repeat (first | refine blk_drewN ?_ _ | refine blk_drew ?_ | refine blk_alloc ?_ _)); exact BK417.out) hb); have n4_ := Aside0.mk (below_step (by repeat (first | (with_reducible first | exact HB.out | apply below_alloc | apply pw_below_drewN | apply below_drew1 | refine below_set ?_ GE384.out | refine below_set ?_ GE417.out) | exact HB.out)) hb); have n5_ := Aside0.mk (hbox); have n6_ := Aside0.mk ((by rw [hg]; exact (below_size (by repeat (first | (with_reducible first | exact HB.out | apply below_alloc | apply pw_below_drewN | apply below_drew1 | refine below_set ?_ GE384.out | refine below_set ?_ GE417.out) | exact HB.out))) : w.heap.size ≤ gb421)); have n7_ := Aside0.mk ((by rw [hg]; exact (below_size (by repeat (first | (with_reducible first | exact HB.out | apply below_alloc | apply pw_below_drewN | apply below_drew1 | refine below_set ?_ GE384.out | refine below_set ?_ GE417.out) | exact HB.out))) : w.heap.size ≤ gb421)); have n8_ := Aside0.mk ((by rw [hg]; exact Nat.ne_of_lt (blk_lt (g := gb384) (o := .cells #[.string x385000_2, .slice (some ad416) x385001_2.length co56] 25 (0, 0)) (by (with_reducible repeat (first | refine blk_drewN ?_ _ | refine blk_drew ?_ | refine blk_alloc ?_ _)); exact BK384.out)) : gb384 ≠ gb421)); have n9_ := Aside0.mk ((by rw [hg]; exact Nat.ne_of_gt (blk_lt (g := gb384) (o := .cells #[.string x385000_2, .slice (some ad416) x385001_2.length co56] 25 (0, 0)) (by (with_reducible repeat (first | refine blk_drewN ?_ _ | refine blk_drew ?_ | refine blk_alloc ?_ _)); exact BK384.out)) : gb421 ≠ gb384)); have n10_ := Aside0.mk ((by rw [hg]; exact Nat.ne_of_lt (blk_lt (g := gb417) (o := .cells #[.int .i64 ((rd_T31 x385001_2 x18_5).f0), .int .i64 ((rd_T31 x385001_2 x18_5).f1), .int .i64 ((rd_T31 x385001_2 x18_5).f2)] 31 (0, 0)) (by (with_reducible repeat (first | refine blk_drewN ?_ _ | refine blk_drew ?_ | refine blk_alloc ?_ _)); exact BK417.out)) : gb417 ≠ gb421)); have n11_ := Aside0.mk ((by rw [hg]; exact Nat.ne_of_gt (blk_lt (g := gb417) (o := .cells #[.int .i64 ((rd_T31 x385001_2 x18_5).f0), .int .i64 ((rd_T31 x385001_2 x18_5).f1), .int .i64 ((rd_T31 x385001_2 x18_5).f2)] 31 (0, 0)) (by (with_reducible repeat (first | refine blk_drewN ?_ _ | refine blk_drew ?_ | refine blk_alloc ?_ _)); exact BK417.out)) : gb421 ≠ gb417)); clear HO_14; clear HO_385001; clear BK384; clear BK417; clear HB; have HO_14 := n0_; have HO_385001 := n1_; have BK384 := n2_; have BK417 := n3_; have HB := n4_; have BK421 := n5_; have GW421 := n6_; have GE421 := n7_; have NB384_421 := n8_; have NB421_384 := n9_; have NB417_421 := n10_; have NB421_417 := n11_; clear n0_ n1_ n2_ n3_ n4_ n5_ n6_ n7_ n8_ n9_ n10_ n11_; clear hb hbox hg; have hnb163 := NB421_384.out; have hnc163 := NB384_421.out; have hnb164 := NB421_417.out; have hnc164 := NB417_421.out; have hcz165_0 : w162.cell? ⟨gb421, 0, none⟩ = some (.int .i64 0) := (blk_cell BK421.out 0).trans rfl; have hcz165_1 : w162.cell? ⟨gb421, 1, none⟩ = some (.int .i64 0) := (blk_cell BK421.out 1).trans rfl; have hcz165_2 : w162.cell? ⟨gb421, 2, none⟩ = some (.int .i64 0) := (blk_cell BK421.out 2).trans rfl; have hfz165_0 := blk_frozen BK421.out 0; have hfz165_1 := blk_frozen BK421.out 1; have hfz165_2 := blk_frozen BK421.out 2; have hcz166_0 : w162.cell? ⟨gb417, 0, none⟩ = some (.int .i64 ((rd_T31 x385001_2 x18_5).f0)) := (blk_cell BK417.out 0).trans rfl; have hcz166_1 : w162.cell? ⟨gb417, 1, none⟩ = some (.int .i64 ((rd_T31 x385001_2 x18_5).f1)) := (blk_cell BK417.out 1).trans rfl; have hcz166_2 : w162.cell? ⟨gb417, 2, none⟩ = some (.int .i64 ((rd_T31 x385001_2 x18_5).f2)) := (blk_cell BK417.out 2).trans rfl; have hfz166_0 := blk_frozen BK417.out 0; have hfz166_1 := blk_frozen BK417.out 1; have hfz166_2 := blk_frozen BK417.out 2))
                go_roundg k7
                case measure => have := HK1.out; have := HK2.out; have := HJ53.out; have := HK4.out; have := HK5.out; have := HJ109.out; have := HK7.out; omega
                case rel => exact ⟨(wrap64 (x20_7 + 1)), (by first | rfl | (simp; done) | (simp [*]; done)), H', ⟨by have := HK1.out; have := HK2.out; have := HJ53.out; have := HK4.out; have := HK5.out; have := HJ109.out; have := HK7.out; omega⟩, ⟨by (try simp only [hl14_4]); (with_reducible repeat (first | apply Kd.R_alloc | apply Kd.R_drewN | apply Kd.R_drew)); exact Kd.R_mono (Kd.R_far (p := ⟨gb421, 2, none⟩) (Kd.R_far (p := ⟨gb421, 1, none⟩) (Kd.R_far (p := ⟨gb421, 0, none⟩) (Kd.R_types HO_14.out BK421.out (by decide)) (fun _ hk => hk.2) (.int .i64 ((rd_T31 x385001_2 x20_7).f0))) (fun _ hk => hk.2) (.int .i64 ((rd_T31 x385001_2 x20_7).f1))) (fun _ hk => hk.2) (.int .i64 ((rd_T31 x385001_2 x20_7).f2))) (fun _ hk => trivial)⟩, ⟨by (try simp only [hl14_4]); (with_reducible repeat (first | apply Kd.R_alloc | apply Kd.R_drewN | apply Kd.R_drew)); exact Kd.R_mono (Kd.R_far (p := ⟨gb421, 2, none⟩) (Kd.R_far (p := ⟨gb421, 1, none⟩) (Kd.R_far (p := ⟨gb421, 0, none⟩) (Kd.R_mono HO_385001.out (fun k_ hk => (⟨hk, hk.2⟩ : _ ∧ k_ ≠ gb421))) (fun _ hk => hk.2) (.int .i64 ((rd_T31 x385001_2 x20_7).f0))) (fun _ hk => hk.2) (.int .i64 ((rd_T31 x385001_2 x20_7).f1))) (fun _ hk => hk.2) (.int .i64 ((rd_T31 x385001_2 x20_7).f2))) (fun _ hk => hk.1.1)⟩, ⟨by (try simp only [hl14_4]); (with_reducible repeat (first | refine blk_drewN ?_ _ | refine blk_drew ?_ | refine blk_alloc ?_ _)); refine blk_far ?_ NB384_421.out _; (with_reducible repeat (first | refine blk_drewN ?_ _ | refine blk_drew ?_ | refine blk_alloc ?_ _)); refine blk_far ?_ NB384_421.out _; (with_reducible repeat (first | refine blk_drewN ?_ _ | refine blk_drew ?_ | refine blk_alloc ?_ _)); refine blk_far ?_ NB384_421.out _; (with_reducible repeat (first | refine blk_drewN ?_ _ | refine blk_drew ?_ | refine blk_alloc ?_ _)); exact BK384.out⟩, ⟨by (try simp only [hl14_4]); (with_reducible repeat (first | refine blk_drewN ?_ _ | refine blk_drew ?_ | refine blk_alloc ?_ _)); refine blk_far ?_ NB417_421.out _; (with_reducible repeat (first | refine blk_drewN ?_ _ | refine blk_drew ?_ | refine blk_alloc ?_ _)); refine blk_far ?_ NB417_421.out _; (with_reducible repeat (first | refine blk_drewN ?_ _ | refine blk_drew ?_ | refine blk_alloc ?_ _)); refine blk_far ?_ NB417_421.out _; (with_reducible repeat (first | refine blk_drewN ?_ _ | refine blk_drew ?_ | refine blk_alloc ?_ _)); exact BK417.out⟩, ⟨by repeat (first | (with_reducible first | exact HB.out | apply below_alloc | apply pw_below_drewN | apply below_drew1 | refine below_set ?_ GE384.out | refine below_set ?_ GE417.out | refine below_set ?_ GE421.out) | exact HB.out)⟩⟩
               rw [if_neg c159] at H
               have c159b0 : decide (((rd_T31 x385001_2 x18_5).f1) < ((rd_T31 x385001_2 x20_7).f2)) = false := decide_eq_false c159
               clear c159
               have H' := Aside0.mk H
               clear H
               have hnb167 := NB384_417.out
               have hnc167 := NB417_384.out
               have hcz168_0 : wr.cell? ⟨gb384, 0, none⟩ = some (.string x385000_2) := (blk_cell BK384.out 0).trans rfl
               have hcz168_1 : wr.cell? ⟨gb384, 1, none⟩ = some (.slice (some ad416) x385001_2.length co56) := (blk_cell BK384.out 1).trans rfl
               have hfz168_0 := blk_frozen BK384.out 0
               have hfz168_1 := blk_frozen BK384.out 1
               have p420 : 0 ≤ (x20_7 : Int) := of_decide_eq_true (by first | (with_reducible assumption) | assumption)
               have q420 : x20_7 < (x385001_2.length : Int) := of_decide_eq_true (by first | (with_reducible assumption) | assumption)
               obtain ⟨ad420, e420, hx420_0, hx420_1, hx420_2⟩ := at_T31 (Kd.R_reads' HO_385001.out).2.2 x20_7 p420 q420
               obtain rfl : ad416 = ad420 := (by injection e420)
               replace p420 := eq_true p420
               replace q420 := eq_true q420
               go_wp2_with (first | ((with_reducible refine gate_dst (N := 21) rfl ?_); (try (refine gate_guard (by rfl) ?_; dsimp only)); refine box_event ?hg (N := 21) ?hd (cs := #[.int .i64 0, .int .i64 0, .int .i64 0]) (t := 31) ?hr ?_; (case hd => rfl); (case hg => rfl); (case hr => first | (go_simp; done) | (go_simp; rfl)); intro gb421 hg w169 hbox hb; have n0_ := Aside0.mk (Kd.R_below (by (with_reducible repeat (first | apply Kd.R_alloc | apply Kd.R_drewN | apply Kd.R_drew)); exact HO_14.out) hb); have n1_ := Aside0.mk (Kd.R_below (Kd.R_elderB (by (with_reducible repeat (first | apply Kd.R_alloc | apply Kd.R_drewN | apply Kd.R_drew)); exact HO_385001.out) gb421 (Nat.le_of_eq hg.symm)) hb); have n2_ := Aside0.mk (blk_below (g := gb384) (o := .cells #[.string x385000_2, .slice (some ad416) x385001_2.length co56] 25 (0, 0)) (by (with_reducible repeat (first | refine blk_drewN ?_ _ | refine blk_drew ?_ | refine blk_alloc ?_ _)); exact BK384.out) hb); have n3_ := Aside0.mk (blk_below (g := gb417) (o := .cells #[.int .i64 ((rd_T31 x385001_2 x18_5).f0), .int .i64 ((rd_T31 x385001_2 x18_5).f1), .int .i64 ((rd_T31 x385001_2 x18_5).f2)] 31 (0, 0)) (by (with_reducible repeat (first | refine blk_drewN ?_ _ | refine blk_drew ?_ | refine blk_alloc ?_ _)); exact BK417.out) hb); have n4_ := Aside0.mk (below_step (by repeat (first | (with_reducible first | exact HB.out | apply below_alloc | apply pw_below_drewN | apply below_drew1 | refine below_set ?_ GE384.out | refine below_set ?_ GE417.out) | exact HB.out)) hb); have n5_ := Aside0.mk (hbox); have n6_ := Aside0.mk ((by rw [hg]; exact (below_size (by repeat (first | (with_reducible first | exact HB.out | apply below_alloc | apply pw_below_drewN | apply below_drew1 | refine below_set ?_ GE384.out | refine below_set ?_ GE417.out) | exact HB.out))) : w.heap.size ≤ gb421)); have n7_ := Aside0.mk ((by rw [hg]; exact (below_size (by repeat (first | (with_reducible first | exact HB.out | apply below_alloc | apply pw_below_drewN | apply below_drew1 | refine below_set ?_ GE384.out | refine below_set ?_ GE417.out) | exact HB.out))) : w.heap.size ≤ gb421)); have n8_ := Aside0.mk ((by rw [hg]; exact Nat.ne_of_lt (blk_lt (g := gb384) (o := .cells #[.string x385000_2, .slice (some ad416) x385001_2.length co56] 25 (0, 0)) (by (with_reducible repeat (first | refine blk_drewN ?_ _ | refine blk_drew ?_ | refine blk_alloc ?_ _)); exact BK384.out)) : gb384 ≠ gb421)); have n9_ := Aside0.mk ((by rw [hg]; exact Nat.ne_of_gt (blk_lt (g := gb384) (o := .cells #[.string x385000_2, .slice (some ad416) x385001_2.length co56] 25 (0, 0)) (by (with_reducible repeat (first | refine blk_drewN ?_ _ | refine blk_drew ?_ | refine blk_alloc ?_ _)); exact BK384.out)) : gb421 ≠ gb384)); have n10_ := Aside0.mk ((by rw [hg]; exact Nat.ne_of_lt (blk_lt (g := gb417) (o := .cells #[.int .i64 ((rd_T31 x385001_2 x18_5).f0), .int .i64 ((rd_T31 x385001_2 x18_5).f1), .int .i64 ((rd_T31 x385001_2 x18_5).f2)] 31 (0, 0)) (by (with_reducible repeat (first | refine blk_drewN ?_ _ | refine blk_drew ?_ | refine blk_alloc ?_ _)); exact BK417.out)) : gb417 ≠ gb421)); have n11_ := Aside0.mk ((by rw [hg]; exact Nat.ne_of_gt (blk_lt (g := gb417) (o := .cells #[.int .i64 ((rd_T31 x385001_2 x18_5).f0), .int .i64 ((rd_T31 x385001_2 x18_5).f1), .int .i64 ((rd_T31 x385001_2 x18_5).f2)] 31 (0, 0)) (by (with_reducible repeat (first | refine blk_drewN ?_ _ | refine blk_drew ?_ | refine blk_alloc ?_ _)); exact BK417.out)) : gb421 ≠ gb417)); clear HO_14; clear HO_385001; clear BK384; clear BK417; clear HB; have HO_14 := n0_; have HO_385001 := n1_; have BK384 := n2_; have BK417 := n3_; have HB := n4_; have BK421 := n5_; have GW421 := n6_; have GE421 := n7_; have NB384_421 := n8_; have NB421_384 := n9_; have NB417_421 := n10_; have NB421_417 := n11_; clear n0_ n1_ n2_ n3_ n4_ n5_ n6_ n7_ n8_ n9_ n10_ n11_; clear hb hbox hg; have hnb170 := NB421_384.out; have hnc170 := NB384_421.out; have hnb171 := NB421_417.out; have hnc171 := NB417_421.out; have hcz172_0 : w169.cell? ⟨gb421, 0, none⟩ = some (.int .i64 0) := (blk_cell BK421.out 0).trans rfl; have hcz172_1 : w169.cell? ⟨gb421, 1, none⟩ = some (.int .i64 0) := (blk_cell BK421.out 1).trans rfl; have hcz172_2 : w169.cell? ⟨gb421, 2, none⟩ = some (.int .i64 0) := (blk_cell BK421.out 2).trans rfl; have hfz172_0 := blk_frozen BK421.out 0; have hfz172_1 := blk_frozen BK421.out 1; have hfz172_2 := blk_frozen BK421.out 2; have hcz173_0 : w169.cell? ⟨gb417, 0, none⟩ = some (.int .i64 ((rd_T31 x385001_2 x18_5).f0)) := (blk_cell BK417.out 0).trans rfl; have hcz173_1 : w169.cell? ⟨gb417, 1, none⟩ = some (.int .i64 ((rd_T31 x385001_2 x18_5).f1)) := (blk_cell BK417.out 1).trans rfl; have hcz173_2 : w169.cell? ⟨gb417, 2, none⟩ = some (.int .i64 ((rd_T31 x385001_2 x18_5).f2)) := (blk_cell BK417.out 2).trans rfl; have hfz173_0 := blk_frozen BK417.out 0; have hfz173_1 := blk_frozen BK417.out 1; have hfz173_2 := blk_frozen BK417.out 2))
               go_roundg k7
               case measure => have := HK1.out; have := HK2.out; have := HJ53.out; have := HK4.out; have := HK5.out; have := HJ109.out; have := HK7.out; omega
               case rel => exact ⟨(wrap64 (x20_7 + 1)), (by first | rfl | (simp; done) | (simp [*]; done)), H', ⟨by have := HK1.out; have := HK2.out; have := HJ53.out; have := HK4.out; have := HK5.out; have := HJ109.out; have := HK7.out; omega⟩, ⟨by (try simp only [hl14_4]); (with_reducible repeat (first | apply Kd.R_alloc | apply Kd.R_drewN | apply Kd.R_drew)); exact Kd.R_mono (Kd.R_far (p := ⟨gb421, 2, none⟩) (Kd.R_far (p := ⟨gb421, 1, none⟩) (Kd.R_far (p := ⟨gb421, 0, none⟩) (Kd.R_types HO_14.out BK421.out (by decide)) (fun _ hk => hk.2) (.int .i64 ((rd_T31 x385001_2 x20_7).f0))) (fun _ hk => hk.2) (.int .i64 ((rd_T31 x385001_2 x20_7).f1))) (fun _ hk => hk.2) (.int .i64 ((rd_T31 x385001_2 x20_7).f2))) (fun _ hk => trivial)⟩, ⟨by (try simp only [hl14_4]); (with_reducible repeat (first | apply Kd.R_alloc | apply Kd.R_drewN | apply Kd.R_drew)); exact Kd.R_mono (Kd.R_far (p := ⟨gb421, 2, none⟩) (Kd.R_far (p := ⟨gb421, 1, none⟩) (Kd.R_far (p := ⟨gb421, 0, none⟩) (Kd.R_mono HO_385001.out (fun k_ hk => (⟨hk, hk.2⟩ : _ ∧ k_ ≠ gb421))) (fun _ hk => hk.2) (.int .i64 ((rd_T31 x385001_2 x20_7).f0))) (fun _ hk => hk.2) (.int .i64 ((rd_T31 x385001_2 x20_7).f1))) (fun _ hk => hk.2) (.int .i64 ((rd_T31 x385001_2 x20_7).f2))) (fun _ hk => hk.1.1)⟩, ⟨by (try simp only [hl14_4]); (with_reducible repeat (first | refine blk_drewN ?_ _ | refine blk_drew ?_ | refine blk_alloc ?_ _)); refine blk_far ?_ NB384_421.out _; (with_reducible repeat (first | refine blk_drewN ?_ _ | refine blk_drew ?_ | refine blk_alloc ?_ _)); refine blk_far ?_ NB384_421.out _; (with_reducible repeat (first | refine blk_drewN ?_ _ | refine blk_drew ?_ | refine blk_alloc ?_ _)); refine blk_far ?_ NB384_421.out _; (with_reducible repeat (first | refine blk_drewN ?_ _ | refine blk_drew ?_ | refine blk_alloc ?_ _)); exact BK384.out⟩, ⟨by (try simp only [hl14_4]); (with_reducible repeat (first | refine blk_drewN ?_ _ | refine blk_drew ?_ | refine blk_alloc ?_ _)); refine blk_far ?_ NB417_421.out _; (with_reducible repeat (first | refine blk_drewN ?_ _ | refine blk_drew ?_ | refine blk_alloc ?_ _)); refine blk_far ?_ NB417_421.out _; (with_reducible repeat (first | refine blk_drewN ?_ _ | refine blk_drew ?_ | refine blk_alloc ?_ _)); refine blk_far ?_ NB417_421.out _; (with_reducible repeat (first | refine blk_drewN ?_ _ | refine blk_drew ?_ | refine blk_alloc ?_ _)); exact BK417.out⟩, ⟨by repeat (first | (with_reducible first | exact HB.out | apply below_alloc | apply pw_below_drewN | apply below_drew1 | refine below_set ?_ GE384.out | refine below_set ?_ GE417.out | refine below_set ?_ GE421.out) | exact HB.out)⟩⟩
end Go.Proofs.YtffldajbnhbkkaaDoor.Q
