import Derived.Test.YtnkggincckdoiaaDoorKl1
import Derived.Test.YtnkggincckdoiaaDoorKl24
import Derived.Test.YtnkggincckdoiaaDoorKl26
import Derived.Test.YtnkggincckdoiaaDoorKl28
import Derived.Test.YtnkggincckdoiaaDoorKl29
namespace Go.Proofs.YtnkggincckdoiaaDoor.Q
open Go.RowKit Go.Proofs.YtnkggincckdoiaaDoorW.PrintWords Go.Proofs.YtnkggincckdoiaaDoorW.PrintLast Go.Proofs.YtnkggincckdoiaaDoorW.PrintMore
attribute [local go_sem] max2_int min2_int max_two min_two max_three min_three max_four min_four   -- for this text's walks alone
set_option linter.unusedVariables false
set_option linter.unusedSimpArgs false
theorem lg_or : (⟨#[32, 111, 114, 32]⟩ : ByteArray).size = 4 := rfl
theorem lg_and : (⟨#[32, 97, 110, 100, 32]⟩ : ByteArray).size = 5 := rfl
theorem lg43 {a b : ByteArray} (h : ((a ++ (⟨#[32, 111, 114, 32]⟩ : ByteArray)) ++ b).size + 5 ≤ 9223372036854775807) : (9223372036854775807 < a.size + 4 + b.size + 5) = False := eq_false (by simp only [ByteArray.size_append, lg_or] at h; omega)
theorem lg44 {a b c : ByteArray} (h : (((a ++ (⟨#[32, 111, 114, 32]⟩ : ByteArray)) ++ b) ++ (⟨#[32, 97, 110, 100, 32]⟩ : ByteArray)).size + c.size ≤ 9223372036854775807) : (9223372036854775807 < a.size + 4 + b.size + 5 + c.size) = False := eq_false (by simp only [ByteArray.size_append, lg_or, lg_and] at h; omega)
theorem lg46 {a b : ByteArray} (h : ((a ++ (⟨#[32, 97, 110, 100, 32]⟩ : ByteArray)) ++ b).size + 4 ≤ 9223372036854775807) : (9223372036854775807 < a.size + 5 + b.size + 4) = False := eq_false (by simp only [ByteArray.size_append, lg_and] at h; omega)
theorem lg47 {a b c : ByteArray} (h : (((a ++ (⟨#[32, 97, 110, 100, 32]⟩ : ByteArray)) ++ b) ++ (⟨#[32, 111, 114, 32]⟩ : ByteArray)).size + c.size ≤ 9223372036854775807) : (9223372036854775807 < a.size + 5 + b.size + 4 + c.size) = False := eq_false (by simp only [ByteArray.size_append, lg_or, lg_and] at h; omega)
theorem lg41 {a b : ByteArray} (h : (a ++ (⟨#[32, 111, 114, 32]⟩ : ByteArray)).size + b.size ≤ 9223372036854775807) : (9223372036854775807 < a.size + 4 + b.size) = False := eq_false (by simp only [ByteArray.size_append, lg_or] at h; omega)
theorem lg38 {a b : ByteArray} (h : (a ++ (⟨#[32, 97, 110, 100, 32]⟩ : ByteArray)).size + b.size ≤ 9223372036854775807) : (9223372036854775807 < a.size + 5 + b.size) = False := eq_false (by simp only [ByteArray.size_append, lg_and] at h; omega)
mutual
def quipulaw09_RuleLogic.j0 : Nat → ByteArray → ByteArray → ByteArray → Bool → Bool → Bool → Bool → ByteArray → Int → Int → ByteArray → ByteArray → Int → Option (Bool)
  | 0, _, _, _, _, _, _, _, _, _, _, _, _, _ => none
  | k + 1, x0, x1, x7, x9, x11, x13, x84, x240000, x240001, x240002, x240003, x240004, x240005 => if x84 = true then (some true) else (if x0.size + 5 ≤ 9223372036854775807 then (if (x0 ++ (⟨#[32, 97, 110, 100, 32]⟩ : ByteArray)).size + x1.size ≤ 9223372036854775807 then ((quipulaw09_alone.f ((x0 ++ (⟨#[32, 97, 110, 100, 32]⟩ : ByteArray)) ++ x1) x240000 x240001 x240002 x240003 x240004 x240005).bind fun bt250 => (if x0.size + 4 ≤ 9223372036854775807 then (if (x0 ++ (⟨#[32, 111, 114, 32]⟩ : ByteArray)).size + x1.size ≤ 9223372036854775807 then ((quipulaw09_alone.f ((x0 ++ (⟨#[32, 111, 114, 32]⟩ : ByteArray)) ++ x1) x240000 x240001 x240002 x240003 x240004 x240005).bind fun bt252 => (if ((x0 ++ (⟨#[32, 111, 114, 32]⟩ : ByteArray)) ++ x1).size + 5 ≤ 9223372036854775807 then (if (((x0 ++ (⟨#[32, 111, 114, 32]⟩ : ByteArray)) ++ x1) ++ (⟨#[32, 97, 110, 100, 32]⟩ : ByteArray)).size + x7.size ≤ 9223372036854775807 then ((quipulaw09_alone.f ((((x0 ++ (⟨#[32, 111, 114, 32]⟩ : ByteArray)) ++ x1) ++ (⟨#[32, 97, 110, 100, 32]⟩ : ByteArray)) ++ x7) x240000 x240001 x240002 x240003 x240004 x240005).bind fun bt254 => (if ((x0 ++ (⟨#[32, 97, 110, 100, 32]⟩ : ByteArray)) ++ x1).size + 4 ≤ 9223372036854775807 then (if (((x0 ++ (⟨#[32, 97, 110, 100, 32]⟩ : ByteArray)) ++ x1) ++ (⟨#[32, 111, 114, 32]⟩ : ByteArray)).size + x7.size ≤ 9223372036854775807 then ((quipulaw09_alone.f ((((x0 ++ (⟨#[32, 97, 110, 100, 32]⟩ : ByteArray)) ++ x1) ++ (⟨#[32, 111, 114, 32]⟩ : ByteArray)) ++ x7) x240000 x240001 x240002 x240003 x240004 x240005).bind fun bt256 => (if bt250.2 = true then (if bt252.2 = true then (if bt254.2 = true then (if bt256.2 = true then (if x9 = true then (if (bt250.1 != x11) = true then (quipulaw09_RuleLogic.j1 k x0 x9 true x240000 x240001 x240002 x240003 x240004 x240005) else (if (bt252.1 != true) = true then (quipulaw09_RuleLogic.j1 k x0 x9 true x240000 x240001 x240002 x240003 x240004 x240005) else (if (bt254.1 != true) = true then (quipulaw09_RuleLogic.j1 k x0 x9 true x240000 x240001 x240002 x240003 x240004 x240005) else (if x11 = true then (quipulaw09_RuleLogic.j1 k x0 x9 (bt256.1 != true) x240000 x240001 x240002 x240003 x240004 x240005) else (quipulaw09_RuleLogic.j1 k x0 x9 (bt256.1 != x13) x240000 x240001 x240002 x240003 x240004 x240005))))) else (if (bt250.1 != false) = true then (quipulaw09_RuleLogic.j1 k x0 x9 true x240000 x240001 x240002 x240003 x240004 x240005) else (if (bt252.1 != x11) = true then (quipulaw09_RuleLogic.j1 k x0 x9 true x240000 x240001 x240002 x240003 x240004 x240005) else (if x11 = true then (if (bt254.1 != x13) = true then (quipulaw09_RuleLogic.j1 k x0 x9 true x240000 x240001 x240002 x240003 x240004 x240005) else (quipulaw09_RuleLogic.j1 k x0 x9 (bt256.1 != x13) x240000 x240001 x240002 x240003 x240004 x240005)) else (if (bt254.1 != false) = true then (quipulaw09_RuleLogic.j1 k x0 x9 true x240000 x240001 x240002 x240003 x240004 x240005) else (quipulaw09_RuleLogic.j1 k x0 x9 (bt256.1 != x13) x240000 x240001 x240002 x240003 x240004 x240005)))))) else (quipulaw09_RuleLogic.j1 k x0 x9 true x240000 x240001 x240002 x240003 x240004 x240005)) else (quipulaw09_RuleLogic.j1 k x0 x9 true x240000 x240001 x240002 x240003 x240004 x240005)) else (quipulaw09_RuleLogic.j1 k x0 x9 true x240000 x240001 x240002 x240003 x240004 x240005)) else (quipulaw09_RuleLogic.j1 k x0 x9 true x240000 x240001 x240002 x240003 x240004 x240005))) else (none)) else (none))) else (none)) else (none))) else (none)) else (none))) else (none)) else (none))
def quipulaw09_RuleLogic.j1 : Nat → ByteArray → Bool → Bool → ByteArray → Int → Int → ByteArray → ByteArray → Int → Option (Bool)
  | 0, _, _, _, _, _, _, _, _, _ => none
  | k + 1, x0, x9, x178, x240000, x240001, x240002, x240003, x240004, x240005 => if x178 = true then (some false) else ((quipulaw09_other.f k x0).bind fun t258 => ((quipulaw09_alone.f t258 x240000 x240001 x240002 x240003 x240004 x240005).bind fun bt259 => (if bt259.2 = true then (some (bt259.1 != x9)) else (some false))))
end
def quipulaw09_RuleLogic.f (k : Nat) (a0 : ByteArray) (a1 : ByteArray) (a2_0 : ByteArray) (a2_1 : ByteArray) (a2_2 : Int) (a2_3 : Int) (a2_4 : ByteArray) (a2_5 : ByteArray) (a2_6 : Int) : Option (Bool) := (quipulaw09_alone.f a0 a2_1 a2_2 a2_3 a2_4 a2_5 a2_6).bind fun bt240 => ((quipulaw09_alone.f a1 a2_1 a2_2 a2_3 a2_4 a2_5 a2_6).bind fun bt242 => ((quipulaw09_alone.f a2_0 a2_1 a2_2 a2_3 a2_4 a2_5 a2_6).bind fun bt244 => ((quipulaw09_awake.f).bind fun t246 => (if t246 = true then (if bt240.2 = true then (if bt242.2 = true then (if bt244.2 = true then ((quipulaw09_single.f k a0).bind fun t247 => (if t247 = true then ((quipulaw09_single.f k a1).bind fun t248 => (if t248 = true then ((quipulaw09_single.f k a2_0).bind fun t249 => (if t249 = true then (quipulaw09_RuleLogic.j0 k a0 a1 a2_0 bt240.1 bt242.1 bt244.1 (decide ((wrap64 ((wrap64 ((a0.size : Int) + (a1.size : Int))) + (a2_0.size : Int))) > 900)) a2_1 a2_2 a2_3 a2_4 a2_5 a2_6) else (quipulaw09_RuleLogic.j0 k a0 a1 a2_0 bt240.1 bt242.1 bt244.1 true a2_1 a2_2 a2_3 a2_4 a2_5 a2_6))) else (quipulaw09_RuleLogic.j0 k a0 a1 a2_0 bt240.1 bt242.1 bt244.1 true a2_1 a2_2 a2_3 a2_4 a2_5 a2_6))) else (quipulaw09_RuleLogic.j0 k a0 a1 a2_0 bt240.1 bt242.1 bt244.1 true a2_1 a2_2 a2_3 a2_4 a2_5 a2_6))) else (quipulaw09_RuleLogic.j0 k a0 a1 a2_0 bt240.1 bt242.1 bt244.1 true a2_1 a2_2 a2_3 a2_4 a2_5 a2_6)) else (quipulaw09_RuleLogic.j0 k a0 a1 a2_0 bt240.1 bt242.1 bt244.1 true a2_1 a2_2 a2_3 a2_4 a2_5 a2_6)) else (quipulaw09_RuleLogic.j0 k a0 a1 a2_0 bt240.1 bt242.1 bt244.1 true a2_1 a2_2 a2_3 a2_4 a2_5 a2_6)) else (some false)))))
def quipulaw09_RuleLogic.T15 : Bool × List (List Nat × List Nat) := (true, [([], []), ([0], [0]), ([], []), ([1, 2, 1], [1, 2]), ([3], [3]), ([4], [4]), ([4], [4]), ([5, 3, 0, 1, 2, 3, 4, 5], [5]), ([6, 7, 0, 1, 2, 3, 4, 5, 6, 7], [6])])
def quipulaw09_RuleLogic.B15 : List Nat := [0, 1, 0, 7, 15, 31, 31, 63, 255]
theorem quipulaw09_RuleLogic.tab15 : rtab .any (opsOf Tryd.f4 15) = quipulaw09_RuleLogic.T15 := by kernel_rfl
theorem quipulaw09_RuleLogic.bits15 : waitsOk quipulaw09_RuleLogic.T15.2 quipulaw09_RuleLogic.B15 = true := by kernel_rfl
theorem no_j1 (k : Nat) (a : ByteArray) (p : Bool) (x0 : ByteArray) (x1 x2 : Int) (x3 x4 : ByteArray) (x5 : Int) : ¬ (quipulaw09_RuleLogic.j1 k a p true x0 x1 x2 x3 x4 x5 = some true) := by
  cases k <;> simp [quipulaw09_RuleLogic.j1]
set_option maxHeartbeats 8000000 in
set_option maxRecDepth 100000 in
theorem quipulaw09_RuleLogic.calls (k : Nat) (a0 : ByteArray) (a1 : ByteArray) (a2_0 : ByteArray) (a2_1 : ByteArray) (a2_2 : Int) (a2_3 : Int) (a2_4 : ByteArray) (a2_5 : ByteArray) (a2_6 : Int) (w : World) (hG : Gd w) (h : quipulaw09_RuleLogic.f k a0 a1 a2_0 a2_1 a2_2 a2_3 a2_4 a2_5 a2_6 = some true) :
    Calls Tryd.prog 4 #[.string a0, .string a1, .agg #[.string a2_0, .string a2_1, .int .i64 a2_2, .int .i64 a2_3, .string a2_4, .string a2_5, .int .i64 a2_6]] w fun e w' => e = .returned (.bool true) ∧ Below w.heap.size w w' := by
  have hu31 := Tryd.underlying31
  have hu29 := Tryd.underlying29
  have HB := Aside0.mk (Below.refl w.heap.size w)
  have HG := Aside0.mk hG
  clear hG
  have H : ((quipulaw09_alone.f a0 a2_1 a2_2 a2_3 a2_4 a2_5 a2_6).bind fun bt240 => ((quipulaw09_alone.f a1 a2_1 a2_2 a2_3 a2_4 a2_5 a2_6).bind fun bt242 => ((quipulaw09_alone.f a2_0 a2_1 a2_2 a2_3 a2_4 a2_5 a2_6).bind fun bt244 => ((quipulaw09_awake.f).bind fun t246 => (if t246 = true then (if bt240.2 = true then (if bt242.2 = true then (if bt244.2 = true then ((quipulaw09_single.f k a0).bind fun t247 => (if t247 = true then ((quipulaw09_single.f k a1).bind fun t248 => (if t248 = true then ((quipulaw09_single.f k a2_0).bind fun t249 => (if t249 = true then (quipulaw09_RuleLogic.j0 k a0 a1 a2_0 bt240.1 bt242.1 bt244.1 (decide ((wrap64 ((wrap64 ((a0.size : Int) + (a1.size : Int))) + (a2_0.size : Int))) > 900)) a2_1 a2_2 a2_3 a2_4 a2_5 a2_6) else (quipulaw09_RuleLogic.j0 k a0 a1 a2_0 bt240.1 bt242.1 bt244.1 true a2_1 a2_2 a2_3 a2_4 a2_5 a2_6))) else (quipulaw09_RuleLogic.j0 k a0 a1 a2_0 bt240.1 bt242.1 bt244.1 true a2_1 a2_2 a2_3 a2_4 a2_5 a2_6))) else (quipulaw09_RuleLogic.j0 k a0 a1 a2_0 bt240.1 bt242.1 bt244.1 true a2_1 a2_2 a2_3 a2_4 a2_5 a2_6))) else (quipulaw09_RuleLogic.j0 k a0 a1 a2_0 bt240.1 bt242.1 bt244.1 true a2_1 a2_2 a2_3 a2_4 a2_5 a2_6)) else (quipulaw09_RuleLogic.j0 k a0 a1 a2_0 bt240.1 bt242.1 bt244.1 true a2_1 a2_2 a2_3 a2_4 a2_5 a2_6)) else (quipulaw09_RuleLogic.j0 k a0 a1 a2_0 bt240.1 bt242.1 bt244.1 true a2_1 a2_2 a2_3 a2_4 a2_5 a2_6)) else (some false)))))) = some true := h
  clear h
  replace H := Option.bind_eq_some_iff.mp H
  obtain ⟨⟨t240, t241⟩, A40, H⟩ := H
  replace H : ((quipulaw09_alone.f a1 a2_1 a2_2 a2_3 a2_4 a2_5 a2_6).bind fun bt242 => ((quipulaw09_alone.f a2_0 a2_1 a2_2 a2_3 a2_4 a2_5 a2_6).bind fun bt244 => ((quipulaw09_awake.f).bind fun t246 => (if t246 = true then (if t241 = true then (if bt242.2 = true then (if bt244.2 = true then ((quipulaw09_single.f k a0).bind fun t247 => (if t247 = true then ((quipulaw09_single.f k a1).bind fun t248 => (if t248 = true then ((quipulaw09_single.f k a2_0).bind fun t249 => (if t249 = true then (quipulaw09_RuleLogic.j0 k a0 a1 a2_0 t240 bt242.1 bt244.1 (decide ((wrap64 ((wrap64 ((a0.size : Int) + (a1.size : Int))) + (a2_0.size : Int))) > 900)) a2_1 a2_2 a2_3 a2_4 a2_5 a2_6) else (quipulaw09_RuleLogic.j0 k a0 a1 a2_0 t240 bt242.1 bt244.1 true a2_1 a2_2 a2_3 a2_4 a2_5 a2_6))) else (quipulaw09_RuleLogic.j0 k a0 a1 a2_0 t240 bt242.1 bt244.1 true a2_1 a2_2 a2_3 a2_4 a2_5 a2_6))) else (quipulaw09_RuleLogic.j0 k a0 a1 a2_0 t240 bt242.1 bt244.1 true a2_1 a2_2 a2_3 a2_4 a2_5 a2_6))) else (quipulaw09_RuleLogic.j0 k a0 a1 a2_0 t240 bt242.1 bt244.1 true a2_1 a2_2 a2_3 a2_4 a2_5 a2_6)) else (quipulaw09_RuleLogic.j0 k a0 a1 a2_0 t240 bt242.1 bt244.1 true a2_1 a2_2 a2_3 a2_4 a2_5 a2_6)) else (quipulaw09_RuleLogic.j0 k a0 a1 a2_0 t240 bt242.1 bt244.1 true a2_1 a2_2 a2_3 a2_4 a2_5 a2_6)) else (some false))))) = some true := H
  have A4 := Aside0.mk A40
  clear A40
  replace H := Option.bind_eq_some_iff.mp H
  obtain ⟨⟨t242, t243⟩, A50, H⟩ := H
  replace H : ((quipulaw09_alone.f a2_0 a2_1 a2_2 a2_3 a2_4 a2_5 a2_6).bind fun bt244 => ((quipulaw09_awake.f).bind fun t246 => (if t246 = true then (if t241 = true then (if t243 = true then (if bt244.2 = true then ((quipulaw09_single.f k a0).bind fun t247 => (if t247 = true then ((quipulaw09_single.f k a1).bind fun t248 => (if t248 = true then ((quipulaw09_single.f k a2_0).bind fun t249 => (if t249 = true then (quipulaw09_RuleLogic.j0 k a0 a1 a2_0 t240 t242 bt244.1 (decide ((wrap64 ((wrap64 ((a0.size : Int) + (a1.size : Int))) + (a2_0.size : Int))) > 900)) a2_1 a2_2 a2_3 a2_4 a2_5 a2_6) else (quipulaw09_RuleLogic.j0 k a0 a1 a2_0 t240 t242 bt244.1 true a2_1 a2_2 a2_3 a2_4 a2_5 a2_6))) else (quipulaw09_RuleLogic.j0 k a0 a1 a2_0 t240 t242 bt244.1 true a2_1 a2_2 a2_3 a2_4 a2_5 a2_6))) else (quipulaw09_RuleLogic.j0 k a0 a1 a2_0 t240 t242 bt244.1 true a2_1 a2_2 a2_3 a2_4 a2_5 a2_6))) else (quipulaw09_RuleLogic.j0 k a0 a1 a2_0 t240 t242 bt244.1 true a2_1 a2_2 a2_3 a2_4 a2_5 a2_6)) else (quipulaw09_RuleLogic.j0 k a0 a1 a2_0 t240 t242 bt244.1 true a2_1 a2_2 a2_3 a2_4 a2_5 a2_6)) else (quipulaw09_RuleLogic.j0 k a0 a1 a2_0 t240 t242 bt244.1 true a2_1 a2_2 a2_3 a2_4 a2_5 a2_6)) else (some false)))) = some true := H
  have A5 := Aside0.mk A50
  clear A50
  replace H := Option.bind_eq_some_iff.mp H
  obtain ⟨⟨t244, t245⟩, A60, H⟩ := H
  replace H : ((quipulaw09_awake.f).bind fun t246 => (if t246 = true then (if t241 = true then (if t243 = true then (if t245 = true then ((quipulaw09_single.f k a0).bind fun t247 => (if t247 = true then ((quipulaw09_single.f k a1).bind fun t248 => (if t248 = true then ((quipulaw09_single.f k a2_0).bind fun t249 => (if t249 = true then (quipulaw09_RuleLogic.j0 k a0 a1 a2_0 t240 t242 t244 (decide ((wrap64 ((wrap64 ((a0.size : Int) + (a1.size : Int))) + (a2_0.size : Int))) > 900)) a2_1 a2_2 a2_3 a2_4 a2_5 a2_6) else (quipulaw09_RuleLogic.j0 k a0 a1 a2_0 t240 t242 t244 true a2_1 a2_2 a2_3 a2_4 a2_5 a2_6))) else (quipulaw09_RuleLogic.j0 k a0 a1 a2_0 t240 t242 t244 true a2_1 a2_2 a2_3 a2_4 a2_5 a2_6))) else (quipulaw09_RuleLogic.j0 k a0 a1 a2_0 t240 t242 t244 true a2_1 a2_2 a2_3 a2_4 a2_5 a2_6))) else (quipulaw09_RuleLogic.j0 k a0 a1 a2_0 t240 t242 t244 true a2_1 a2_2 a2_3 a2_4 a2_5 a2_6)) else (quipulaw09_RuleLogic.j0 k a0 a1 a2_0 t240 t242 t244 true a2_1 a2_2 a2_3 a2_4 a2_5 a2_6)) else (quipulaw09_RuleLogic.j0 k a0 a1 a2_0 t240 t242 t244 true a2_1 a2_2 a2_3 a2_4 a2_5 a2_6)) else (some false))) = some true := H
  have A6 := Aside0.mk A60
  clear A60
  replace H := Option.bind_eq_some_iff.mp H
  obtain ⟨t246, A70, H⟩ := H
  replace H : (if t246 = true then (if t241 = true then (if t243 = true then (if t245 = true then ((quipulaw09_single.f k a0).bind fun t247 => (if t247 = true then ((quipulaw09_single.f k a1).bind fun t248 => (if t248 = true then ((quipulaw09_single.f k a2_0).bind fun t249 => (if t249 = true then (quipulaw09_RuleLogic.j0 k a0 a1 a2_0 t240 t242 t244 (decide ((wrap64 ((wrap64 ((a0.size : Int) + (a1.size : Int))) + (a2_0.size : Int))) > 900)) a2_1 a2_2 a2_3 a2_4 a2_5 a2_6) else (quipulaw09_RuleLogic.j0 k a0 a1 a2_0 t240 t242 t244 true a2_1 a2_2 a2_3 a2_4 a2_5 a2_6))) else (quipulaw09_RuleLogic.j0 k a0 a1 a2_0 t240 t242 t244 true a2_1 a2_2 a2_3 a2_4 a2_5 a2_6))) else (quipulaw09_RuleLogic.j0 k a0 a1 a2_0 t240 t242 t244 true a2_1 a2_2 a2_3 a2_4 a2_5 a2_6))) else (quipulaw09_RuleLogic.j0 k a0 a1 a2_0 t240 t242 t244 true a2_1 a2_2 a2_3 a2_4 a2_5 a2_6)) else (quipulaw09_RuleLogic.j0 k a0 a1 a2_0 t240 t242 t244 true a2_1 a2_2 a2_3 a2_4 a2_5 a2_6)) else (quipulaw09_RuleLogic.j0 k a0 a1 a2_0 t240 t242 t244 true a2_1 a2_2 a2_3 a2_4 a2_5 a2_6)) else (some false)) = some true := H
  have A7 := Aside0.mk A70
  clear A70
  by_cases c8 : t246 = true
  · subst c8
    have H1 : (if t241 = true then (if t243 = true then (if t245 = true then ((quipulaw09_single.f k a0).bind fun t247 => (if t247 = true then ((quipulaw09_single.f k a1).bind fun t248 => (if t248 = true then ((quipulaw09_single.f k a2_0).bind fun t249 => (if t249 = true then (quipulaw09_RuleLogic.j0 k a0 a1 a2_0 t240 t242 t244 (decide ((wrap64 ((wrap64 ((a0.size : Int) + (a1.size : Int))) + (a2_0.size : Int))) > 900)) a2_1 a2_2 a2_3 a2_4 a2_5 a2_6) else (quipulaw09_RuleLogic.j0 k a0 a1 a2_0 t240 t242 t244 true a2_1 a2_2 a2_3 a2_4 a2_5 a2_6))) else (quipulaw09_RuleLogic.j0 k a0 a1 a2_0 t240 t242 t244 true a2_1 a2_2 a2_3 a2_4 a2_5 a2_6))) else (quipulaw09_RuleLogic.j0 k a0 a1 a2_0 t240 t242 t244 true a2_1 a2_2 a2_3 a2_4 a2_5 a2_6))) else (quipulaw09_RuleLogic.j0 k a0 a1 a2_0 t240 t242 t244 true a2_1 a2_2 a2_3 a2_4 a2_5 a2_6)) else (quipulaw09_RuleLogic.j0 k a0 a1 a2_0 t240 t242 t244 true a2_1 a2_2 a2_3 a2_4 a2_5 a2_6)) else (quipulaw09_RuleLogic.j0 k a0 a1 a2_0 t240 t242 t244 true a2_1 a2_2 a2_3 a2_4 a2_5 a2_6)) = some true := by rw [if_pos rfl] at H; exact H
    clear H
    have H := H1
    clear H1
    have HC9 := Aside0.mk H
    clear H
    go_enter Tryd.func4, Tryd.ntmps4
    try go_wp2_with (first | ((with_reducible refine gate_dst (N := 5) rfl ?_); (try (refine gate_guard (by rfl) ?_; dsimp only)); refine box_event ?hg (N := 5) ?hd (cs := #[.string a2_0, .string a2_1, .int .i64 a2_2, .int .i64 a2_3, .string a2_4, .string a2_5, .int .i64 a2_6]) (t := 31) ?hr ?_; (case hd => rfl); (case hg => rfl); (case hr => first | (go_simp; done) | (go_simp; rfl)); intro gb238 hg w10 hbox hb; have n0_ := Aside0.mk (below_step (by repeat (first | (with_reducible first | exact HB.out | apply below_alloc | apply pw_below_drewN | apply below_drew1) | exact HB.out)) hb); have n1_ := Aside0.mk (hbox); have n2_ := Aside0.mk ((by rw [hg]; exact (below_size (by repeat (first | (with_reducible first | exact HB.out | apply below_alloc | apply pw_below_drewN | apply below_drew1) | exact HB.out))) : w.heap.size ≤ gb238)); have n3_ := Aside0.mk ((by rw [hg]; exact (below_size (by repeat (first | (with_reducible first | exact HB.out | apply below_alloc | apply pw_below_drewN | apply below_drew1) | exact HB.out))) : w.heap.size ≤ gb238)); clear HB; have HB := n0_; have BK238 := n1_; have GW238 := n2_; have GE238 := n3_; clear n0_ n1_ n2_ n3_; clear hb hbox hg))
    have n0_ := Aside0.mk (blk_drew BK238.out)
    have n1_ := Aside0.mk (below_drew1 HB.out)
    clear BK238
    clear HB
    have BK238 := n0_
    have HB := n1_
    clear n0_ n1_
    refine start_ (n := 7) (S := fun w' => w'.cell? ⟨gb238, 0, none⟩ = some (.string a2_0) ∧ w'.cell? ⟨gb238, 1, none⟩ = some (.string a2_1) ∧ w'.cell? ⟨gb238, 2, none⟩ = some (.int .i64 a2_2) ∧ w'.cell? ⟨gb238, 3, none⟩ = some (.int .i64 a2_3) ∧ w'.cell? ⟨gb238, 4, none⟩ = some (.string a2_4) ∧ w'.cell? ⟨gb238, 5, none⟩ = some (.string a2_5) ∧ w'.cell? ⟨gb238, 6, none⟩ = some (.int .i64 a2_6)) (ds := []) #[false, false, false, false, false, false, false] (by kernel_rfl) rfl rfl ⟨(blk_cell BK238.out 0).trans rfl, (blk_cell BK238.out 1).trans rfl, (blk_cell BK238.out 2).trans rfl, (blk_cell BK238.out 3).trans rfl, (blk_cell BK238.out 4).trans rfl, (blk_cell BK238.out 5).trans rfl, (blk_cell BK238.out 6).trans rfl⟩ (fun hHeld => ?_)
    generalize w10.drew = w11 at BK238 HB hHeld ⊢
    refine pure_ (i := 0) (N := some 25) (v := ?_) (a' := ?_) #[true, false, false, false, false, false, false] rfl rfl (by kernel_rfl) (fun _ _ _ h => h) (Or.inl ⟨by rfl, ?_⟩) ?_ ?_
    rotate_left
    · intro w'
      go_simp
      with_reducible rfl
    rotate_left
    · simp only [Act.put, List.setIfInBounds_toArray, List.set_cons_zero, List.set_cons_succ, i64_w, i32_w]
      rfl
    refine pure_ (i := 2) (N := some 27) (v := ?_) (a' := ?_) #[true, false, true, false, false, false, false] rfl rfl (by kernel_rfl) (fun _ _ _ h => h) (Or.inl ⟨by rfl, ?_⟩) ?_ ?_
    rotate_left
    · intro w'
      go_simp
      with_reducible rfl
    rotate_left
    · simp only [Act.put, List.setIfInBounds_toArray, List.set_cons_zero, List.set_cons_succ, i64_w, i32_w]
      rfl
    refine take_ (i := 1) (N := some 26) (v := ?_) (a' := ?_) #[true, true, true, false, false, false, false] rfl rfl (by kernel_rfl) (fun _ _ _ h => h) (Or.inl ⟨by rfl, ?_⟩) hHeld ?_ ?_
    rotate_left
    · rintro w' ⟨s0, s1, s2, s3, s4, s5, s6⟩
      go_simp
      with_reducible rfl
    rotate_left
    · simp only [Act.put, List.setIfInBounds_toArray, List.set_cons_zero, List.set_cons_succ, i64_w, i32_w]
      rfl
    refine take_ (i := 3) (N := some 28) (v := ?_) (a' := ?_) #[true, true, true, true, false, false, false] rfl rfl (by kernel_rfl) (fun _ _ _ h => h) (Or.inl ⟨by rfl, ?_⟩) hHeld ?_ ?_
    rotate_left
    · rintro w' ⟨s0, s1, s2, s3, s4, s5, s6⟩
      go_simp
      with_reducible rfl
    rotate_left
    · simp only [Act.put, List.setIfInBounds_toArray, List.set_cons_zero, List.set_cons_succ, i64_w, i32_w]
      rfl
    refine one_ (i := 4) (N := some 8) #[true, true, true, true, true, false, false] rfl rfl (by kernel_rfl) (by decide) (fun K hK => ?_)
    refine box_step ?hg (N := 8) ?hd (cs := #[.string (⟨#[]⟩ : ByteArray), .int .i64 0, .int .i64 0, .string (⟨#[]⟩ : ByteArray), .string (⟨#[]⟩ : ByteArray), .int .i64 0]) (t := 29) ?hr ?_; (case hd => rfl); (case hg => rfl); (case hr => first | (go_simp; done) | (go_simp; rfl))
    intro gb239 hg w12 hbox hb
    have n0_ := Aside0.mk (blk_below (g := gb238) (o := .cells #[.string a2_0, .string a2_1, .int .i64 a2_2, .int .i64 a2_3, .string a2_4, .string a2_5, .int .i64 a2_6] 31 (0, 0)) (by (with_reducible repeat (first | refine blk_drewN ?_ _ | refine blk_drew ?_ | refine blk_alloc ?_ _)); exact BK238.out) hb)
    have n1_ := Aside0.mk (below_step (by repeat (first | (with_reducible first | exact HB.out | apply below_alloc | apply pw_below_drewN | apply below_drew1 | refine below_set ?_ GE238.out) | exact HB.out)) hb)
    have n2_ := Aside0.mk (hbox)
    have n3_ := Aside0.mk ((by rw [hg]; exact (below_size (by repeat (first | (with_reducible first | exact HB.out | apply below_alloc | apply pw_below_drewN | apply below_drew1 | refine below_set ?_ GE238.out) | exact HB.out))) : w.heap.size ≤ gb239))
    have n4_ := Aside0.mk ((by rw [hg]; exact (below_size (by repeat (first | (with_reducible first | exact HB.out | apply below_alloc | apply pw_below_drewN | apply below_drew1 | refine below_set ?_ GE238.out) | exact HB.out))) : w.heap.size ≤ gb239))
    have n5_ := Aside0.mk ((by rw [hg]; exact Nat.ne_of_lt (blk_lt (g := gb238) (o := .cells #[.string a2_0, .string a2_1, .int .i64 a2_2, .int .i64 a2_3, .string a2_4, .string a2_5, .int .i64 a2_6] 31 (0, 0)) (by (with_reducible repeat (first | refine blk_drewN ?_ _ | refine blk_drew ?_ | refine blk_alloc ?_ _)); exact BK238.out)) : gb238 ≠ gb239))
    have n6_ := Aside0.mk ((by rw [hg]; exact Nat.ne_of_gt (blk_lt (g := gb238) (o := .cells #[.string a2_0, .string a2_1, .int .i64 a2_2, .int .i64 a2_3, .string a2_4, .string a2_5, .int .i64 a2_6] 31 (0, 0)) (by (with_reducible repeat (first | refine blk_drewN ?_ _ | refine blk_drew ?_ | refine blk_alloc ?_ _)); exact BK238.out)) : gb239 ≠ gb238))
    clear BK238
    clear HB
    have BK238 := n0_
    have HB := n1_
    have BK239 := n2_
    have GW239 := n3_
    have GE239 := n4_
    have NB238_239 := n5_
    have NB239_238 := n6_
    clear n0_ n1_ n2_ n3_ n4_ n5_ n6_
    clear hb hbox hg
    refine hK.out _ _ ⟨(blk_cell BK238.out 0).trans rfl, (blk_cell BK238.out 1).trans rfl, (blk_cell BK238.out 2).trans rfl, (blk_cell BK238.out 3).trans rfl, (blk_cell BK238.out 4).trans rfl, (blk_cell BK238.out 5).trans rfl, (blk_cell BK238.out 6).trans rfl⟩ (fun hHeld => ?_)
    clear hK K
    refine norm_ (a' := ?_) ?_ ?_
    rotate_left
    · show Act.put _ (some 8) _ = _
      simp only [Act.put, List.setIfInBounds_toArray, List.set_cons_zero, List.set_cons_succ, i64_w, i32_w]
      rfl
    refine pure_ (i := 5) (N := some 7) (v := ?_) (a' := ?_) #[true, true, true, true, true, true, false] rfl rfl (by kernel_rfl) (fun _ _ _ h => h) (Or.inl ⟨by rfl, ?_⟩) ?_ ?_
    rotate_left
    · intro w'
      go_simp
      with_reducible rfl
    rotate_left
    · simp only [Act.put, List.setIfInBounds_toArray, List.set_cons_zero, List.set_cons_succ, i64_w, i32_w]
      rfl
    refine one_ (i := 6) (N := none) #[true, true, true, true, true, true, true] rfl rfl (by kernel_rfl) (by decide) (fun K hK => ?_)
    have hs13 : w12.cell? ⟨gb239, 0, none⟩ = some (.string (⟨#[]⟩ : ByteArray)) := (blk_cell BK239.out 0).trans rfl
    have hfs13 := blk_frozen BK239.out 0
    have hns13_0 := NB238_239.out
    have hms13_0 := NB239_238.out
    have hs14 : w12.cell? ⟨gb239, 1, none⟩ = some (.int .i64 0) := (blk_cell BK239.out 1).trans rfl
    have hfs14 := blk_frozen BK239.out 1
    have hns14_0 := NB238_239.out
    have hms14_0 := NB239_238.out
    have hs15 : w12.cell? ⟨gb239, 2, none⟩ = some (.int .i64 0) := (blk_cell BK239.out 2).trans rfl
    have hfs15 := blk_frozen BK239.out 2
    have hns15_0 := NB238_239.out
    have hms15_0 := NB239_238.out
    have hs16 : w12.cell? ⟨gb239, 3, none⟩ = some (.string (⟨#[]⟩ : ByteArray)) := (blk_cell BK239.out 3).trans rfl
    have hfs16 := blk_frozen BK239.out 3
    have hns16_0 := NB238_239.out
    have hms16_0 := NB239_238.out
    have hs17 : w12.cell? ⟨gb239, 4, none⟩ = some (.string (⟨#[]⟩ : ByteArray)) := (blk_cell BK239.out 4).trans rfl
    have hfs17 := blk_frozen BK239.out 4
    have hns17_0 := NB238_239.out
    have hms17_0 := NB239_238.out
    have hs18 : w12.cell? ⟨gb239, 5, none⟩ = some (.int .i64 0) := (blk_cell BK239.out 5).trans rfl
    have hfs18 := blk_frozen BK239.out 5
    have hns18_0 := NB238_239.out
    have hms18_0 := NB239_238.out
    refine skip_ (w1 := ?_) (by rfl) rfl ?_ ?_
    rotate_left
    · go_simp
      rfl
    refine hK.out _ _ ⟨((cell_far (p := ⟨gb239, _, none⟩) NB238_239.out _).trans (((cell_far (p := ⟨gb239, _, none⟩) NB238_239.out _).trans (((cell_far (p := ⟨gb239, _, none⟩) NB238_239.out _).trans (((cell_far (p := ⟨gb239, _, none⟩) NB238_239.out _).trans (((cell_far (p := ⟨gb239, _, none⟩) NB238_239.out _).trans (((cell_far (p := ⟨gb239, _, none⟩) NB238_239.out _).trans (hHeld.1)))))))))))), ((cell_far (p := ⟨gb239, _, none⟩) NB238_239.out _).trans (((cell_far (p := ⟨gb239, _, none⟩) NB238_239.out _).trans (((cell_far (p := ⟨gb239, _, none⟩) NB238_239.out _).trans (((cell_far (p := ⟨gb239, _, none⟩) NB238_239.out _).trans (((cell_far (p := ⟨gb239, _, none⟩) NB238_239.out _).trans (((cell_far (p := ⟨gb239, _, none⟩) NB238_239.out _).trans (hHeld.2.1)))))))))))), ((cell_far (p := ⟨gb239, _, none⟩) NB238_239.out _).trans (((cell_far (p := ⟨gb239, _, none⟩) NB238_239.out _).trans (((cell_far (p := ⟨gb239, _, none⟩) NB238_239.out _).trans (((cell_far (p := ⟨gb239, _, none⟩) NB238_239.out _).trans (((cell_far (p := ⟨gb239, _, none⟩) NB238_239.out _).trans (((cell_far (p := ⟨gb239, _, none⟩) NB238_239.out _).trans (hHeld.2.2.1)))))))))))), ((cell_far (p := ⟨gb239, _, none⟩) NB238_239.out _).trans (((cell_far (p := ⟨gb239, _, none⟩) NB238_239.out _).trans (((cell_far (p := ⟨gb239, _, none⟩) NB238_239.out _).trans (((cell_far (p := ⟨gb239, _, none⟩) NB238_239.out _).trans (((cell_far (p := ⟨gb239, _, none⟩) NB238_239.out _).trans (((cell_far (p := ⟨gb239, _, none⟩) NB238_239.out _).trans (hHeld.2.2.2.1)))))))))))), ((cell_far (p := ⟨gb239, _, none⟩) NB238_239.out _).trans (((cell_far (p := ⟨gb239, _, none⟩) NB238_239.out _).trans (((cell_far (p := ⟨gb239, _, none⟩) NB238_239.out _).trans (((cell_far (p := ⟨gb239, _, none⟩) NB238_239.out _).trans (((cell_far (p := ⟨gb239, _, none⟩) NB238_239.out _).trans (((cell_far (p := ⟨gb239, _, none⟩) NB238_239.out _).trans (hHeld.2.2.2.2.1)))))))))))), ((cell_far (p := ⟨gb239, _, none⟩) NB238_239.out _).trans (((cell_far (p := ⟨gb239, _, none⟩) NB238_239.out _).trans (((cell_far (p := ⟨gb239, _, none⟩) NB238_239.out _).trans (((cell_far (p := ⟨gb239, _, none⟩) NB238_239.out _).trans (((cell_far (p := ⟨gb239, _, none⟩) NB238_239.out _).trans (((cell_far (p := ⟨gb239, _, none⟩) NB238_239.out _).trans (hHeld.2.2.2.2.2.1)))))))))))), ((cell_far (p := ⟨gb239, _, none⟩) NB238_239.out _).trans (((cell_far (p := ⟨gb239, _, none⟩) NB238_239.out _).trans (((cell_far (p := ⟨gb239, _, none⟩) NB238_239.out _).trans (((cell_far (p := ⟨gb239, _, none⟩) NB238_239.out _).trans (((cell_far (p := ⟨gb239, _, none⟩) NB238_239.out _).trans (((cell_far (p := ⟨gb239, _, none⟩) NB238_239.out _).trans (hHeld.2.2.2.2.2.2))))))))))))⟩ (fun hHeld => ?_)
    clear hK K
    refine done_ (by kernel_rfl) ?_
    have hnb19 := NB239_238.out
    have hnc19 := NB238_239.out
    have hcz20_0 : w12.cell? ⟨gb239, 0, none⟩ = some (.string (⟨#[]⟩ : ByteArray)) := (blk_cell BK239.out 0).trans rfl
    have hcz20_1 : w12.cell? ⟨gb239, 1, none⟩ = some (.int .i64 0) := (blk_cell BK239.out 1).trans rfl
    have hcz20_2 : w12.cell? ⟨gb239, 2, none⟩ = some (.int .i64 0) := (blk_cell BK239.out 2).trans rfl
    have hcz20_3 : w12.cell? ⟨gb239, 3, none⟩ = some (.string (⟨#[]⟩ : ByteArray)) := (blk_cell BK239.out 3).trans rfl
    have hcz20_4 : w12.cell? ⟨gb239, 4, none⟩ = some (.string (⟨#[]⟩ : ByteArray)) := (blk_cell BK239.out 4).trans rfl
    have hcz20_5 : w12.cell? ⟨gb239, 5, none⟩ = some (.int .i64 0) := (blk_cell BK239.out 5).trans rfl
    have hfz20_0 := blk_frozen BK239.out 0
    have hfz20_1 := blk_frozen BK239.out 1
    have hfz20_2 := blk_frozen BK239.out 2
    have hfz20_3 := blk_frozen BK239.out 3
    have hfz20_4 := blk_frozen BK239.out 4
    have hfz20_5 := blk_frozen BK239.out 5
    go_upto_region 7 with (first | ((with_reducible refine gate_callee (f := 13) rfl ?_); refine goesL_ (some 32) rfl rfl Tryd.func13 (by kernel_rfl) rfl #[.string a0, .agg #[.string a2_1, .int .i64 a2_2, .int .i64 a2_3, .string a2_4, .string a2_5, .int .i64 a2_6]] rfl (by (try simp only [List.map_toArray, List.map_cons, List.map_nil]); first | done | rfl | (simp only [List.length_drop, List.length_take]; rfl)) ?_; (with_reducible refine (quipulaw09_alone.calls a0 a2_1 a2_2 a2_3 a2_4 a2_5 a2_6 t240 t241 _ (Gd.below HG.out (by repeat (first | (with_reducible first | exact HB.out | apply below_alloc | apply pw_below_drewN | apply below_drew1 | refine below_set ?_ GE238.out | refine below_set ?_ GE239.out) | exact HB.out))) A4.out).mono ?_); rintro e w21 ⟨rfl, hb⟩; refine ⟨_, rfl, ?_⟩; have n0_ := Aside0.mk (blk_below (g := gb238) (o := .cells #[.string a2_0, .string a2_1, .int .i64 a2_2, .int .i64 a2_3, .string a2_4, .string a2_5, .int .i64 a2_6] 31 (0, 0)) (by (with_reducible repeat (first | refine blk_drewN ?_ _ | refine blk_drew ?_ | refine blk_alloc ?_ _)); refine blk_far ?_ NB238_239.out _; (with_reducible repeat (first | refine blk_drewN ?_ _ | refine blk_drew ?_ | refine blk_alloc ?_ _)); refine blk_far ?_ NB238_239.out _; (with_reducible repeat (first | refine blk_drewN ?_ _ | refine blk_drew ?_ | refine blk_alloc ?_ _)); refine blk_far ?_ NB238_239.out _; (with_reducible repeat (first | refine blk_drewN ?_ _ | refine blk_drew ?_ | refine blk_alloc ?_ _)); refine blk_far ?_ NB238_239.out _; (with_reducible repeat (first | refine blk_drewN ?_ _ | refine blk_drew ?_ | refine blk_alloc ?_ _)); refine blk_far ?_ NB238_239.out _; (with_reducible repeat (first | refine blk_drewN ?_ _ | refine blk_drew ?_ | refine blk_alloc ?_ _)); refine blk_far ?_ NB238_239.out _; (with_reducible repeat (first | refine blk_drewN ?_ _ | refine blk_drew ?_ | refine blk_alloc ?_ _)); exact BK238.out) hb); have n1_ := Aside0.mk (blk_below (g := gb239) (o := .cells #[.string a2_1, .int .i64 a2_2, .int .i64 a2_3, .string a2_4, .string a2_5, .int .i64 a2_6] 29 (0, 0)) (by (with_reducible repeat (first | refine blk_drewN ?_ _ | refine blk_drew ?_ | refine blk_alloc ?_ _)); refine blk_put (cs := #[.string a2_1, .int .i64 a2_2, .int .i64 a2_3, .string a2_4, .string a2_5, .int .i64 0]) ?_ 5 _ rfl; (with_reducible repeat (first | refine blk_drewN ?_ _ | refine blk_drew ?_ | refine blk_alloc ?_ _)); refine blk_put (cs := #[.string a2_1, .int .i64 a2_2, .int .i64 a2_3, .string a2_4, .string (⟨#[]⟩ : ByteArray), .int .i64 0]) ?_ 4 _ rfl; (with_reducible repeat (first | refine blk_drewN ?_ _ | refine blk_drew ?_ | refine blk_alloc ?_ _)); refine blk_put (cs := #[.string a2_1, .int .i64 a2_2, .int .i64 a2_3, .string (⟨#[]⟩ : ByteArray), .string (⟨#[]⟩ : ByteArray), .int .i64 0]) ?_ 3 _ rfl; (with_reducible repeat (first | refine blk_drewN ?_ _ | refine blk_drew ?_ | refine blk_alloc ?_ _)); refine blk_put (cs := #[.string a2_1, .int .i64 a2_2, .int .i64 0, .string (⟨#[]⟩ : ByteArray), .string (⟨#[]⟩ : ByteArray), .int .i64 0]) ?_ 2 _ rfl; (with_reducible repeat (first | refine blk_drewN ?_ _ | refine blk_drew ?_ | refine blk_alloc ?_ _)); refine blk_put (cs := #[.string a2_1, .int .i64 0, .int .i64 0, .string (⟨#[]⟩ : ByteArray), .string (⟨#[]⟩ : ByteArray), .int .i64 0]) ?_ 1 _ rfl; (with_reducible repeat (first | refine blk_drewN ?_ _ | refine blk_drew ?_ | refine blk_alloc ?_ _)); refine blk_put (cs := #[.string (⟨#[]⟩ : ByteArray), .int .i64 0, .int .i64 0, .string (⟨#[]⟩ : ByteArray), .string (⟨#[]⟩ : ByteArray), .int .i64 0]) ?_ 0 _ rfl; (with_reducible repeat (first | refine blk_drewN ?_ _ | refine blk_drew ?_ | refine blk_alloc ?_ _)); exact BK239.out) hb); have n2_ := Aside0.mk (below_step (by repeat (first | (with_reducible first | exact HB.out | apply below_alloc | apply pw_below_drewN | apply below_drew1 | refine below_set ?_ GE238.out | refine below_set ?_ GE239.out) | exact HB.out)) hb); clear BK238; clear BK239; clear HB; have BK238 := n0_; have BK239 := n1_; have HB := n2_; clear n0_ n1_ n2_; (try clear hb); (try clear hb2); (try clear hk); (try clear hi); have hcz22_0 : w21.cell? ⟨gb239, 0, none⟩ = some (.string a2_1) := (blk_cell BK239.out 0).trans rfl; have hcz22_1 : w21.cell? ⟨gb239, 1, none⟩ = some (.int .i64 a2_2) := (blk_cell BK239.out 1).trans rfl; have hcz22_2 : w21.cell? ⟨gb239, 2, none⟩ = some (.int .i64 a2_3) := (blk_cell BK239.out 2).trans rfl; have hcz22_3 : w21.cell? ⟨gb239, 3, none⟩ = some (.string a2_4) := (blk_cell BK239.out 3).trans rfl; have hcz22_4 : w21.cell? ⟨gb239, 4, none⟩ = some (.string a2_5) := (blk_cell BK239.out 4).trans rfl; have hcz22_5 : w21.cell? ⟨gb239, 5, none⟩ = some (.int .i64 a2_6) := (blk_cell BK239.out 5).trans rfl; have hfz22_0 := blk_frozen BK239.out 0; have hfz22_1 := blk_frozen BK239.out 1; have hfz22_2 := blk_frozen BK239.out 2; have hfz22_3 := blk_frozen BK239.out 3; have hfz22_4 := blk_frozen BK239.out 4; have hfz22_5 := blk_frozen BK239.out 5) | ((with_reducible refine gate_callee (f := 13) rfl ?_); refine goesL_ (some 38) rfl rfl Tryd.func13 (by kernel_rfl) rfl #[.string a1, .agg #[.string a2_1, .int .i64 a2_2, .int .i64 a2_3, .string a2_4, .string a2_5, .int .i64 a2_6]] rfl (by (try simp only [List.map_toArray, List.map_cons, List.map_nil]); first | done | rfl | (simp only [List.length_drop, List.length_take]; rfl)) ?_; (with_reducible refine (quipulaw09_alone.calls a1 a2_1 a2_2 a2_3 a2_4 a2_5 a2_6 t242 t243 _ (Gd.below HG.out (by repeat (first | (with_reducible first | exact HB.out | apply below_alloc | apply pw_below_drewN | apply below_drew1 | refine below_set ?_ GE238.out | refine below_set ?_ GE239.out) | exact HB.out))) A5.out).mono ?_); rintro e w23 ⟨rfl, hb⟩; refine ⟨_, rfl, ?_⟩; have n0_ := Aside0.mk (blk_below (g := gb238) (o := .cells #[.string a2_0, .string a2_1, .int .i64 a2_2, .int .i64 a2_3, .string a2_4, .string a2_5, .int .i64 a2_6] 31 (0, 0)) (by (with_reducible repeat (first | refine blk_drewN ?_ _ | refine blk_drew ?_ | refine blk_alloc ?_ _)); exact BK238.out) hb); have n1_ := Aside0.mk (blk_below (g := gb239) (o := .cells #[.string a2_1, .int .i64 a2_2, .int .i64 a2_3, .string a2_4, .string a2_5, .int .i64 a2_6] 29 (0, 0)) (by (with_reducible repeat (first | refine blk_drewN ?_ _ | refine blk_drew ?_ | refine blk_alloc ?_ _)); exact BK239.out) hb); have n2_ := Aside0.mk (below_step (by repeat (first | (with_reducible first | exact HB.out | apply below_alloc | apply pw_below_drewN | apply below_drew1 | refine below_set ?_ GE238.out | refine below_set ?_ GE239.out) | exact HB.out)) hb); clear BK238; clear BK239; clear HB; have BK238 := n0_; have BK239 := n1_; have HB := n2_; clear n0_ n1_ n2_; (try clear hb); (try clear hb2); (try clear hk); (try clear hi); have hcz24_0 : w23.cell? ⟨gb239, 0, none⟩ = some (.string a2_1) := (blk_cell BK239.out 0).trans rfl; have hcz24_1 : w23.cell? ⟨gb239, 1, none⟩ = some (.int .i64 a2_2) := (blk_cell BK239.out 1).trans rfl; have hcz24_2 : w23.cell? ⟨gb239, 2, none⟩ = some (.int .i64 a2_3) := (blk_cell BK239.out 2).trans rfl; have hcz24_3 : w23.cell? ⟨gb239, 3, none⟩ = some (.string a2_4) := (blk_cell BK239.out 3).trans rfl; have hcz24_4 : w23.cell? ⟨gb239, 4, none⟩ = some (.string a2_5) := (blk_cell BK239.out 4).trans rfl; have hcz24_5 : w23.cell? ⟨gb239, 5, none⟩ = some (.int .i64 a2_6) := (blk_cell BK239.out 5).trans rfl; have hfz24_0 := blk_frozen BK239.out 0; have hfz24_1 := blk_frozen BK239.out 1; have hfz24_2 := blk_frozen BK239.out 2; have hfz24_3 := blk_frozen BK239.out 3; have hfz24_4 := blk_frozen BK239.out 4; have hfz24_5 := blk_frozen BK239.out 5) | ((with_reducible refine gate_callee (f := 13) rfl ?_); refine goesL_ (some 44) rfl rfl Tryd.func13 (by kernel_rfl) rfl #[.string a2_0, .agg #[.string a2_1, .int .i64 a2_2, .int .i64 a2_3, .string a2_4, .string a2_5, .int .i64 a2_6]] rfl (by (try simp only [List.map_toArray, List.map_cons, List.map_nil]); first | done | rfl | (simp only [List.length_drop, List.length_take]; rfl)) ?_; (with_reducible refine (quipulaw09_alone.calls a2_0 a2_1 a2_2 a2_3 a2_4 a2_5 a2_6 t244 t245 _ (Gd.below HG.out (by repeat (first | (with_reducible first | exact HB.out | apply below_alloc | apply pw_below_drewN | apply below_drew1 | refine below_set ?_ GE238.out | refine below_set ?_ GE239.out) | exact HB.out))) A6.out).mono ?_); rintro e w25 ⟨rfl, hb⟩; refine ⟨_, rfl, ?_⟩; have n0_ := Aside0.mk (blk_below (g := gb238) (o := .cells #[.string a2_0, .string a2_1, .int .i64 a2_2, .int .i64 a2_3, .string a2_4, .string a2_5, .int .i64 a2_6] 31 (0, 0)) (by (with_reducible repeat (first | refine blk_drewN ?_ _ | refine blk_drew ?_ | refine blk_alloc ?_ _)); exact BK238.out) hb); have n1_ := Aside0.mk (blk_below (g := gb239) (o := .cells #[.string a2_1, .int .i64 a2_2, .int .i64 a2_3, .string a2_4, .string a2_5, .int .i64 a2_6] 29 (0, 0)) (by (with_reducible repeat (first | refine blk_drewN ?_ _ | refine blk_drew ?_ | refine blk_alloc ?_ _)); exact BK239.out) hb); have n2_ := Aside0.mk (below_step (by repeat (first | (with_reducible first | exact HB.out | apply below_alloc | apply pw_below_drewN | apply below_drew1 | refine below_set ?_ GE238.out | refine below_set ?_ GE239.out) | exact HB.out)) hb); clear BK238; clear BK239; clear HB; have BK238 := n0_; have BK239 := n1_; have HB := n2_; clear n0_ n1_ n2_; (try clear hb); (try clear hb2); (try clear hk); (try clear hi)) | ((with_reducible refine gate_callee (f := 10) rfl ?_); refine goesL_ (some 47) rfl rfl Tryd.func10 (by kernel_rfl) rfl #[] rfl (by (try simp only [List.map_toArray, List.map_cons, List.map_nil]); first | done | rfl | (simp only [List.length_drop, List.length_take]; rfl)) ?_; (with_reducible refine (quipulaw09_awake.calls  true _ (Gd.below HG.out (by repeat (first | (with_reducible first | exact HB.out | apply below_alloc | apply pw_below_drewN | apply below_drew1 | refine below_set ?_ GE238.out | refine below_set ?_ GE239.out) | exact HB.out))) A7.out).mono ?_); rintro e w26 ⟨rfl, hb⟩; refine ⟨_, rfl, ?_⟩; have n0_ := Aside0.mk (blk_below (g := gb238) (o := .cells #[.string a2_0, .string a2_1, .int .i64 a2_2, .int .i64 a2_3, .string a2_4, .string a2_5, .int .i64 a2_6] 31 (0, 0)) (by (with_reducible repeat (first | refine blk_drewN ?_ _ | refine blk_drew ?_ | refine blk_alloc ?_ _)); exact BK238.out) hb); have n1_ := Aside0.mk (blk_below (g := gb239) (o := .cells #[.string a2_1, .int .i64 a2_2, .int .i64 a2_3, .string a2_4, .string a2_5, .int .i64 a2_6] 29 (0, 0)) (by (with_reducible repeat (first | refine blk_drewN ?_ _ | refine blk_drew ?_ | refine blk_alloc ?_ _)); exact BK239.out) hb); have n2_ := Aside0.mk (below_step (by repeat (first | (with_reducible first | exact HB.out | apply below_alloc | apply pw_below_drewN | apply below_drew1 | refine below_set ?_ GE238.out | refine below_set ?_ GE239.out) | exact HB.out)) hb); clear BK238; clear BK239; clear HB; have BK238 := n0_; have BK239 := n1_; have HB := n2_; clear n0_ n1_ n2_; (try clear hb); (try clear hb2); (try clear hk); (try clear hi)))
    (try simp only [Act.put, List.setIfInBounds_toArray, List.set_cons_zero, List.set_cons_succ])
    go_cut [84] (fun v84 wc => ∃ (kq : Nat) (x84_8 : Bool), v84 = .bool x84_8 ∧ Aside0 (quipulaw09_RuleLogic.j0 kq a0 a1 a2_0 t240 t242 t244 x84_8 a2_1 a2_2 a2_3 a2_4 a2_5 a2_6 = some true) ∧ Aside0 (kq ≤ k) ∧ Aside0 (wc.heap[gb238]? = some (.cells #[.string a2_0, .string a2_1, .int .i64 a2_2, .int .i64 a2_3, .string a2_4, .string a2_5, .int .i64 a2_6] 31 (0, 0))) ∧ Aside0 (wc.heap[gb239]? = some (.cells #[.string a2_1, .int .i64 a2_2, .int .i64 a2_3, .string a2_4, .string a2_5, .int .i64 a2_6] 29 (0, 0))) ∧ Aside0 (Below w.heap.size w wc))
    case first =>
      have H := HC9.out
      clear HC9
      by_cases c27 : t241 = true
      · subst c27
        have H1 : (if t243 = true then (if t245 = true then ((quipulaw09_single.f k a0).bind fun t247 => (if t247 = true then ((quipulaw09_single.f k a1).bind fun t248 => (if t248 = true then ((quipulaw09_single.f k a2_0).bind fun t249 => (if t249 = true then (quipulaw09_RuleLogic.j0 k a0 a1 a2_0 t240 t242 t244 (decide ((wrap64 ((wrap64 ((a0.size : Int) + (a1.size : Int))) + (a2_0.size : Int))) > 900)) a2_1 a2_2 a2_3 a2_4 a2_5 a2_6) else (quipulaw09_RuleLogic.j0 k a0 a1 a2_0 t240 t242 t244 true a2_1 a2_2 a2_3 a2_4 a2_5 a2_6))) else (quipulaw09_RuleLogic.j0 k a0 a1 a2_0 t240 t242 t244 true a2_1 a2_2 a2_3 a2_4 a2_5 a2_6))) else (quipulaw09_RuleLogic.j0 k a0 a1 a2_0 t240 t242 t244 true a2_1 a2_2 a2_3 a2_4 a2_5 a2_6))) else (quipulaw09_RuleLogic.j0 k a0 a1 a2_0 t240 t242 t244 true a2_1 a2_2 a2_3 a2_4 a2_5 a2_6)) else (quipulaw09_RuleLogic.j0 k a0 a1 a2_0 t240 t242 t244 true a2_1 a2_2 a2_3 a2_4 a2_5 a2_6)) = some true := by rw [if_pos rfl] at H; exact H
        clear H
        have H := H1
        clear H1
        by_cases c28 : t243 = true
        · subst c28
          have H1 : (if t245 = true then ((quipulaw09_single.f k a0).bind fun t247 => (if t247 = true then ((quipulaw09_single.f k a1).bind fun t248 => (if t248 = true then ((quipulaw09_single.f k a2_0).bind fun t249 => (if t249 = true then (quipulaw09_RuleLogic.j0 k a0 a1 a2_0 t240 t242 t244 (decide ((wrap64 ((wrap64 ((a0.size : Int) + (a1.size : Int))) + (a2_0.size : Int))) > 900)) a2_1 a2_2 a2_3 a2_4 a2_5 a2_6) else (quipulaw09_RuleLogic.j0 k a0 a1 a2_0 t240 t242 t244 true a2_1 a2_2 a2_3 a2_4 a2_5 a2_6))) else (quipulaw09_RuleLogic.j0 k a0 a1 a2_0 t240 t242 t244 true a2_1 a2_2 a2_3 a2_4 a2_5 a2_6))) else (quipulaw09_RuleLogic.j0 k a0 a1 a2_0 t240 t242 t244 true a2_1 a2_2 a2_3 a2_4 a2_5 a2_6))) else (quipulaw09_RuleLogic.j0 k a0 a1 a2_0 t240 t242 t244 true a2_1 a2_2 a2_3 a2_4 a2_5 a2_6)) = some true := by rw [if_pos rfl] at H; exact H
          clear H
          have H := H1
          clear H1
          by_cases c29 : t245 = true
          · subst c29
            have H1 : ((quipulaw09_single.f k a0).bind fun t247 => (if t247 = true then ((quipulaw09_single.f k a1).bind fun t248 => (if t248 = true then ((quipulaw09_single.f k a2_0).bind fun t249 => (if t249 = true then (quipulaw09_RuleLogic.j0 k a0 a1 a2_0 t240 t242 t244 (decide ((wrap64 ((wrap64 ((a0.size : Int) + (a1.size : Int))) + (a2_0.size : Int))) > 900)) a2_1 a2_2 a2_3 a2_4 a2_5 a2_6) else (quipulaw09_RuleLogic.j0 k a0 a1 a2_0 t240 t242 t244 true a2_1 a2_2 a2_3 a2_4 a2_5 a2_6))) else (quipulaw09_RuleLogic.j0 k a0 a1 a2_0 t240 t242 t244 true a2_1 a2_2 a2_3 a2_4 a2_5 a2_6))) else (quipulaw09_RuleLogic.j0 k a0 a1 a2_0 t240 t242 t244 true a2_1 a2_2 a2_3 a2_4 a2_5 a2_6))) = some true := by rw [if_pos rfl] at H; exact H
            clear H
            have H := H1
            clear H1
            replace H := Option.bind_eq_some_iff.mp H
            obtain ⟨t247, A300, H⟩ := H
            replace H : (if t247 = true then ((quipulaw09_single.f k a1).bind fun t248 => (if t248 = true then ((quipulaw09_single.f k a2_0).bind fun t249 => (if t249 = true then (quipulaw09_RuleLogic.j0 k a0 a1 a2_0 t240 t242 t244 (decide ((wrap64 ((wrap64 ((a0.size : Int) + (a1.size : Int))) + (a2_0.size : Int))) > 900)) a2_1 a2_2 a2_3 a2_4 a2_5 a2_6) else (quipulaw09_RuleLogic.j0 k a0 a1 a2_0 t240 t242 t244 true a2_1 a2_2 a2_3 a2_4 a2_5 a2_6))) else (quipulaw09_RuleLogic.j0 k a0 a1 a2_0 t240 t242 t244 true a2_1 a2_2 a2_3 a2_4 a2_5 a2_6))) else (quipulaw09_RuleLogic.j0 k a0 a1 a2_0 t240 t242 t244 true a2_1 a2_2 a2_3 a2_4 a2_5 a2_6)) = some true := H
            have A30 := Aside0.mk A300
            clear A300
            by_cases c31 : t247 = true
            · subst c31
              have H1 : ((quipulaw09_single.f k a1).bind fun t248 => (if t248 = true then ((quipulaw09_single.f k a2_0).bind fun t249 => (if t249 = true then (quipulaw09_RuleLogic.j0 k a0 a1 a2_0 t240 t242 t244 (decide ((wrap64 ((wrap64 ((a0.size : Int) + (a1.size : Int))) + (a2_0.size : Int))) > 900)) a2_1 a2_2 a2_3 a2_4 a2_5 a2_6) else (quipulaw09_RuleLogic.j0 k a0 a1 a2_0 t240 t242 t244 true a2_1 a2_2 a2_3 a2_4 a2_5 a2_6))) else (quipulaw09_RuleLogic.j0 k a0 a1 a2_0 t240 t242 t244 true a2_1 a2_2 a2_3 a2_4 a2_5 a2_6))) = some true := by rw [if_pos rfl] at H; exact H
              clear H
              have H := H1
              clear H1
              replace H := Option.bind_eq_some_iff.mp H
              obtain ⟨t248, A320, H⟩ := H
              replace H : (if t248 = true then ((quipulaw09_single.f k a2_0).bind fun t249 => (if t249 = true then (quipulaw09_RuleLogic.j0 k a0 a1 a2_0 t240 t242 t244 (decide ((wrap64 ((wrap64 ((a0.size : Int) + (a1.size : Int))) + (a2_0.size : Int))) > 900)) a2_1 a2_2 a2_3 a2_4 a2_5 a2_6) else (quipulaw09_RuleLogic.j0 k a0 a1 a2_0 t240 t242 t244 true a2_1 a2_2 a2_3 a2_4 a2_5 a2_6))) else (quipulaw09_RuleLogic.j0 k a0 a1 a2_0 t240 t242 t244 true a2_1 a2_2 a2_3 a2_4 a2_5 a2_6)) = some true := H
              have A32 := Aside0.mk A320
              clear A320
              by_cases c33 : t248 = true
              · subst c33
                have H1 : ((quipulaw09_single.f k a2_0).bind fun t249 => (if t249 = true then (quipulaw09_RuleLogic.j0 k a0 a1 a2_0 t240 t242 t244 (decide ((wrap64 ((wrap64 ((a0.size : Int) + (a1.size : Int))) + (a2_0.size : Int))) > 900)) a2_1 a2_2 a2_3 a2_4 a2_5 a2_6) else (quipulaw09_RuleLogic.j0 k a0 a1 a2_0 t240 t242 t244 true a2_1 a2_2 a2_3 a2_4 a2_5 a2_6))) = some true := by rw [if_pos rfl] at H; exact H
                clear H
                have H := H1
                clear H1
                replace H := Option.bind_eq_some_iff.mp H
                obtain ⟨t249, A340, H⟩ := H
                replace H : (if t249 = true then (quipulaw09_RuleLogic.j0 k a0 a1 a2_0 t240 t242 t244 (decide ((wrap64 ((wrap64 ((a0.size : Int) + (a1.size : Int))) + (a2_0.size : Int))) > 900)) a2_1 a2_2 a2_3 a2_4 a2_5 a2_6) else (quipulaw09_RuleLogic.j0 k a0 a1 a2_0 t240 t242 t244 true a2_1 a2_2 a2_3 a2_4 a2_5 a2_6)) = some true := H
                have A34 := Aside0.mk A340
                clear A340
                by_cases c35 : t249 = true
                · subst c35
                  have H1 : (quipulaw09_RuleLogic.j0 k a0 a1 a2_0 t240 t242 t244 (decide ((wrap64 ((wrap64 ((a0.size : Int) + (a1.size : Int))) + (a2_0.size : Int))) > 900)) a2_1 a2_2 a2_3 a2_4 a2_5 a2_6) = some true := by rw [if_pos rfl] at H; exact H
                  clear H
                  have H := H1
                  clear H1
                  have H' := Aside0.mk H
                  clear H
                  go_wp2_with (first | (go_at_call 14; (with_reducible refine (quipulaw09_single.calls k a0 true _ A30.out).mono ?_); rintro e w' ⟨rfl, ⟨nd, rfl⟩⟩) | (go_at_call 14; (with_reducible refine (quipulaw09_single.calls k a1 true _ A32.out).mono ?_); rintro e w' ⟨rfl, ⟨nd, rfl⟩⟩) | (go_at_call 14; (with_reducible refine (quipulaw09_single.calls k a2_0 true _ A34.out).mono ?_); rintro e w' ⟨rfl, ⟨nd, rfl⟩⟩))
                  go_meet
                  case rel => exact ⟨_, (decide ((wrap64 ((wrap64 ((a0.size : Int) + (a1.size : Int))) + (a2_0.size : Int))) > 900)), (by first | rfl | (simp; done) | (simp [*]; done)), H', ⟨by first | exact Nat.le_refl _ | omega⟩, ⟨by (with_reducible repeat (first | refine blk_drewN ?_ _ | refine blk_drew ?_ | refine blk_alloc ?_ _)); exact BK238.out⟩, ⟨by (with_reducible repeat (first | refine blk_drewN ?_ _ | refine blk_drew ?_ | refine blk_alloc ?_ _)); exact BK239.out⟩, ⟨by repeat (first | (with_reducible first | exact HB.out | apply below_alloc | apply pw_below_drewN | apply below_drew1 | refine below_set ?_ GE238.out | refine below_set ?_ GE239.out) | exact HB.out)⟩⟩
                · replace c35 := Bool.eq_false_iff.mpr c35
                  subst c35
                  have H1 : (quipulaw09_RuleLogic.j0 k a0 a1 a2_0 t240 t242 t244 true a2_1 a2_2 a2_3 a2_4 a2_5 a2_6) = some true := by rw [if_neg (show ¬ (false = true) by decide)] at H; exact H
                  clear H
                  have H := H1
                  clear H1
                  have H' := Aside0.mk H
                  clear H
                  go_wp2_with (first | (go_at_call 14; (with_reducible refine (quipulaw09_single.calls k a0 true _ A30.out).mono ?_); rintro e w' ⟨rfl, ⟨nd, rfl⟩⟩) | (go_at_call 14; (with_reducible refine (quipulaw09_single.calls k a1 true _ A32.out).mono ?_); rintro e w' ⟨rfl, ⟨nd, rfl⟩⟩) | (go_at_call 14; (with_reducible refine (quipulaw09_single.calls k a2_0 false _ A34.out).mono ?_); rintro e w' ⟨rfl, ⟨nd, rfl⟩⟩))
                  go_meet
                  case rel => exact ⟨_, (true), (by first | rfl | (simp; done) | (simp [*]; done)), H', ⟨by first | exact Nat.le_refl _ | omega⟩, ⟨by (with_reducible repeat (first | refine blk_drewN ?_ _ | refine blk_drew ?_ | refine blk_alloc ?_ _)); exact BK238.out⟩, ⟨by (with_reducible repeat (first | refine blk_drewN ?_ _ | refine blk_drew ?_ | refine blk_alloc ?_ _)); exact BK239.out⟩, ⟨by repeat (first | (with_reducible first | exact HB.out | apply below_alloc | apply pw_below_drewN | apply below_drew1 | refine below_set ?_ GE238.out | refine below_set ?_ GE239.out) | exact HB.out)⟩⟩
              · replace c33 := Bool.eq_false_iff.mpr c33
                subst c33
                have H1 : (quipulaw09_RuleLogic.j0 k a0 a1 a2_0 t240 t242 t244 true a2_1 a2_2 a2_3 a2_4 a2_5 a2_6) = some true := by rw [if_neg (show ¬ (false = true) by decide)] at H; exact H
                clear H
                have H := H1
                clear H1
                have H' := Aside0.mk H
                clear H
                go_wp2_with (first | (go_at_call 14; (with_reducible refine (quipulaw09_single.calls k a0 true _ A30.out).mono ?_); rintro e w' ⟨rfl, ⟨nd, rfl⟩⟩) | (go_at_call 14; (with_reducible refine (quipulaw09_single.calls k a1 false _ A32.out).mono ?_); rintro e w' ⟨rfl, ⟨nd, rfl⟩⟩))
                go_meet
                case rel => exact ⟨_, (true), (by first | rfl | (simp; done) | (simp [*]; done)), H', ⟨by first | exact Nat.le_refl _ | omega⟩, ⟨by (with_reducible repeat (first | refine blk_drewN ?_ _ | refine blk_drew ?_ | refine blk_alloc ?_ _)); exact BK238.out⟩, ⟨by (with_reducible repeat (first | refine blk_drewN ?_ _ | refine blk_drew ?_ | refine blk_alloc ?_ _)); exact BK239.out⟩, ⟨by repeat (first | (with_reducible first | exact HB.out | apply below_alloc | apply pw_below_drewN | apply below_drew1 | refine below_set ?_ GE238.out | refine below_set ?_ GE239.out) | exact HB.out)⟩⟩
            · replace c31 := Bool.eq_false_iff.mpr c31
              subst c31
              have H1 : (quipulaw09_RuleLogic.j0 k a0 a1 a2_0 t240 t242 t244 true a2_1 a2_2 a2_3 a2_4 a2_5 a2_6) = some true := by rw [if_neg (show ¬ (false = true) by decide)] at H; exact H
              clear H
              have H := H1
              clear H1
              have H' := Aside0.mk H
              clear H
              go_wp2_with (first | (go_at_call 14; (with_reducible refine (quipulaw09_single.calls k a0 false _ A30.out).mono ?_); rintro e w' ⟨rfl, ⟨nd, rfl⟩⟩))
              go_meet
              case rel => exact ⟨_, (true), (by first | rfl | (simp; done) | (simp [*]; done)), H', ⟨by first | exact Nat.le_refl _ | omega⟩, ⟨by (with_reducible repeat (first | refine blk_drewN ?_ _ | refine blk_drew ?_ | refine blk_alloc ?_ _)); exact BK238.out⟩, ⟨by (with_reducible repeat (first | refine blk_drewN ?_ _ | refine blk_drew ?_ | refine blk_alloc ?_ _)); exact BK239.out⟩, ⟨by repeat (first | (with_reducible first | exact HB.out | apply below_alloc | apply pw_below_drewN | apply below_drew1 | refine below_set ?_ GE238.out | refine below_set ?_ GE239.out) | exact HB.out)⟩⟩
          · replace c29 := Bool.eq_false_iff.mpr c29
            subst c29
            have H1 : (quipulaw09_RuleLogic.j0 k a0 a1 a2_0 t240 t242 t244 true a2_1 a2_2 a2_3 a2_4 a2_5 a2_6) = some true := by rw [if_neg (show ¬ (false = true) by decide)] at H; exact H
            clear H
            have H := H1
            clear H1
            have H' := Aside0.mk H
            clear H
            go_wp2
            go_meet
            case rel => exact ⟨_, (true), (by first | rfl | (simp; done) | (simp [*]; done)), H', ⟨by first | exact Nat.le_refl _ | omega⟩, ⟨by (with_reducible repeat (first | refine blk_drewN ?_ _ | refine blk_drew ?_ | refine blk_alloc ?_ _)); exact BK238.out⟩, ⟨by (with_reducible repeat (first | refine blk_drewN ?_ _ | refine blk_drew ?_ | refine blk_alloc ?_ _)); exact BK239.out⟩, ⟨by repeat (first | (with_reducible first | exact HB.out | apply below_alloc | apply pw_below_drewN | apply below_drew1 | refine below_set ?_ GE238.out | refine below_set ?_ GE239.out) | exact HB.out)⟩⟩
        · replace c28 := Bool.eq_false_iff.mpr c28
          subst c28
          have H1 : (quipulaw09_RuleLogic.j0 k a0 a1 a2_0 t240 t242 t244 true a2_1 a2_2 a2_3 a2_4 a2_5 a2_6) = some true := by rw [if_neg (show ¬ (false = true) by decide)] at H; exact H
          clear H
          have H := H1
          clear H1
          have H' := Aside0.mk H
          clear H
          go_wp2
          go_meet
          case rel => exact ⟨_, (true), (by first | rfl | (simp; done) | (simp [*]; done)), H', ⟨by first | exact Nat.le_refl _ | omega⟩, ⟨by (with_reducible repeat (first | refine blk_drewN ?_ _ | refine blk_drew ?_ | refine blk_alloc ?_ _)); exact BK238.out⟩, ⟨by (with_reducible repeat (first | refine blk_drewN ?_ _ | refine blk_drew ?_ | refine blk_alloc ?_ _)); exact BK239.out⟩, ⟨by repeat (first | (with_reducible first | exact HB.out | apply below_alloc | apply pw_below_drewN | apply below_drew1 | refine below_set ?_ GE238.out | refine below_set ?_ GE239.out) | exact HB.out)⟩⟩
      · replace c27 := Bool.eq_false_iff.mpr c27
        subst c27
        have H1 : (quipulaw09_RuleLogic.j0 k a0 a1 a2_0 t240 t242 t244 true a2_1 a2_2 a2_3 a2_4 a2_5 a2_6) = some true := by rw [if_neg (show ¬ (false = true) by decide)] at H; exact H
        clear H
        have H := H1
        clear H1
        have H' := Aside0.mk H
        clear H
        go_wp2
        go_meet
        case rel => exact ⟨_, (true), (by first | rfl | (simp; done) | (simp [*]; done)), H', ⟨by first | exact Nat.le_refl _ | omega⟩, ⟨by (with_reducible repeat (first | refine blk_drewN ?_ _ | refine blk_drew ?_ | refine blk_alloc ?_ _)); exact BK238.out⟩, ⟨by (with_reducible repeat (first | refine blk_drewN ?_ _ | refine blk_drew ?_ | refine blk_alloc ?_ _)); exact BK239.out⟩, ⟨by repeat (first | (with_reducible first | exact HB.out | apply below_alloc | apply pw_below_drewN | apply below_drew1 | refine below_set ?_ GE238.out | refine below_set ?_ GE239.out) | exact HB.out)⟩⟩
    case rest =>
      clear HC9
      try clear c1
      try clear c2
      try clear p2
      try clear c3
      try clear c4
      try clear p6
      try clear c8
      try clear c10
      try clear c13
      try clear c19
      try clear c27
      try clear c28
      try clear c29
      try clear c31
      try clear c33
      try clear c35
      try clear hcz20_0
      try clear hcz20_1
      try clear hcz20_2
      try clear hcz20_3
      try clear hcz20_4
      try clear hcz20_5
      try clear hcz22_0
      try clear hcz22_1
      try clear hcz22_2
      try clear hcz22_3
      try clear hcz22_4
      try clear hcz22_5
      try clear hcz24_0
      try clear hcz24_1
      try clear hcz24_2
      try clear hcz24_3
      try clear hcz24_4
      try clear hcz24_5
      try clear hfz20_0
      try clear hfz20_1
      try clear hfz20_2
      try clear hfz20_3
      try clear hfz20_4
      try clear hfz20_5
      try clear hfz22_0
      try clear hfz22_1
      try clear hfz22_2
      try clear hfz22_3
      try clear hfz22_4
      try clear hfz22_5
      try clear hfz24_0
      try clear hfz24_1
      try clear hfz24_2
      try clear hfz24_3
      try clear hfz24_4
      try clear hfz24_5
      obtain ⟨kq, x84_8, rfl, HA, HJ8, BK238, BK239, HB⟩ := hcut
      cases kq with
      | zero => exact absurd HA.out (by simp [quipulaw09_RuleLogic.j0])
      | succ kj8 =>
        have H := HA.out
        clear HA
        simp only [quipulaw09_RuleLogic.j0] at H
        by_cases c36 : x84_8 = true
        · subst c36
          have H1 : (some true) = some true := by first | rfl | rw [if_pos rfl] at H; exact H
          clear H
          have H := H1
          clear H1
          have HT := Option.some.inj H
          go_wp2
          go_ret
          exact ⟨by first | rfl | (cases t259 <;> cases t240 <;> first | rfl | exact absurd HT (by decide)) | (simp [errW_none]; done) | (simp [errW_none, errW_some] <;> rfl) | (simp [*, errW_none, errW_some] <;> rfl) | (simp only [ne_nil_b]; first | done | rfl) | (simp [ne_nil_b]; done), by repeat (first | (with_reducible first | exact HB.out | apply below_alloc | apply pw_below_drewN | apply below_drew1 | refine below_set ?_ GE238.out | refine below_set ?_ GE239.out) | exact HB.out)⟩
        · replace c36 := Bool.eq_false_iff.mpr c36
          subst c36
          have H1 : (if a0.size + 5 ≤ 9223372036854775807 then (if (a0 ++ (⟨#[32, 97, 110, 100, 32]⟩ : ByteArray)).size + a1.size ≤ 9223372036854775807 then ((quipulaw09_alone.f ((a0 ++ (⟨#[32, 97, 110, 100, 32]⟩ : ByteArray)) ++ a1) a2_1 a2_2 a2_3 a2_4 a2_5 a2_6).bind fun bt250 => (if a0.size + 4 ≤ 9223372036854775807 then (if (a0 ++ (⟨#[32, 111, 114, 32]⟩ : ByteArray)).size + a1.size ≤ 9223372036854775807 then ((quipulaw09_alone.f ((a0 ++ (⟨#[32, 111, 114, 32]⟩ : ByteArray)) ++ a1) a2_1 a2_2 a2_3 a2_4 a2_5 a2_6).bind fun bt252 => (if ((a0 ++ (⟨#[32, 111, 114, 32]⟩ : ByteArray)) ++ a1).size + 5 ≤ 9223372036854775807 then (if (((a0 ++ (⟨#[32, 111, 114, 32]⟩ : ByteArray)) ++ a1) ++ (⟨#[32, 97, 110, 100, 32]⟩ : ByteArray)).size + a2_0.size ≤ 9223372036854775807 then ((quipulaw09_alone.f ((((a0 ++ (⟨#[32, 111, 114, 32]⟩ : ByteArray)) ++ a1) ++ (⟨#[32, 97, 110, 100, 32]⟩ : ByteArray)) ++ a2_0) a2_1 a2_2 a2_3 a2_4 a2_5 a2_6).bind fun bt254 => (if ((a0 ++ (⟨#[32, 97, 110, 100, 32]⟩ : ByteArray)) ++ a1).size + 4 ≤ 9223372036854775807 then (if (((a0 ++ (⟨#[32, 97, 110, 100, 32]⟩ : ByteArray)) ++ a1) ++ (⟨#[32, 111, 114, 32]⟩ : ByteArray)).size + a2_0.size ≤ 9223372036854775807 then ((quipulaw09_alone.f ((((a0 ++ (⟨#[32, 97, 110, 100, 32]⟩ : ByteArray)) ++ a1) ++ (⟨#[32, 111, 114, 32]⟩ : ByteArray)) ++ a2_0) a2_1 a2_2 a2_3 a2_4 a2_5 a2_6).bind fun bt256 => (if bt250.2 = true then (if bt252.2 = true then (if bt254.2 = true then (if bt256.2 = true then (if t240 = true then (if (bt250.1 != t242) = true then (quipulaw09_RuleLogic.j1 kj8 a0 t240 true a2_1 a2_2 a2_3 a2_4 a2_5 a2_6) else (if (bt252.1 != true) = true then (quipulaw09_RuleLogic.j1 kj8 a0 t240 true a2_1 a2_2 a2_3 a2_4 a2_5 a2_6) else (if (bt254.1 != true) = true then (quipulaw09_RuleLogic.j1 kj8 a0 t240 true a2_1 a2_2 a2_3 a2_4 a2_5 a2_6) else (if t242 = true then (quipulaw09_RuleLogic.j1 kj8 a0 t240 (bt256.1 != true) a2_1 a2_2 a2_3 a2_4 a2_5 a2_6) else (quipulaw09_RuleLogic.j1 kj8 a0 t240 (bt256.1 != t244) a2_1 a2_2 a2_3 a2_4 a2_5 a2_6))))) else (if (bt250.1 != false) = true then (quipulaw09_RuleLogic.j1 kj8 a0 t240 true a2_1 a2_2 a2_3 a2_4 a2_5 a2_6) else (if (bt252.1 != t242) = true then (quipulaw09_RuleLogic.j1 kj8 a0 t240 true a2_1 a2_2 a2_3 a2_4 a2_5 a2_6) else (if t242 = true then (if (bt254.1 != t244) = true then (quipulaw09_RuleLogic.j1 kj8 a0 t240 true a2_1 a2_2 a2_3 a2_4 a2_5 a2_6) else (quipulaw09_RuleLogic.j1 kj8 a0 t240 (bt256.1 != t244) a2_1 a2_2 a2_3 a2_4 a2_5 a2_6)) else (if (bt254.1 != false) = true then (quipulaw09_RuleLogic.j1 kj8 a0 t240 true a2_1 a2_2 a2_3 a2_4 a2_5 a2_6) else (quipulaw09_RuleLogic.j1 kj8 a0 t240 (bt256.1 != t244) a2_1 a2_2 a2_3 a2_4 a2_5 a2_6)))))) else (quipulaw09_RuleLogic.j1 kj8 a0 t240 true a2_1 a2_2 a2_3 a2_4 a2_5 a2_6)) else (quipulaw09_RuleLogic.j1 kj8 a0 t240 true a2_1 a2_2 a2_3 a2_4 a2_5 a2_6)) else (quipulaw09_RuleLogic.j1 kj8 a0 t240 true a2_1 a2_2 a2_3 a2_4 a2_5 a2_6)) else (quipulaw09_RuleLogic.j1 kj8 a0 t240 true a2_1 a2_2 a2_3 a2_4 a2_5 a2_6))) else (none)) else (none))) else (none)) else (none))) else (none)) else (none))) else (none)) else (none)) = some true := by rw [if_neg (show ¬ (false = true) by decide)] at H; exact H
          clear H
          have H := H1
          clear H1
          by_cases c37 : a0.size + 5 ≤ 9223372036854775807
          · rw [if_pos c37] at H
            have c37b0 := eq_true c37
            have c37b1 : decide (a0.size + 5 ≤ 9223372036854775807) = true := decide_eq_true c37
            try have c37b2 : (9223372036854775807 < a0.size + 5) = False := eq_false (Nat.not_lt.2 c37)
            by_cases c38 : (a0 ++ (⟨#[32, 97, 110, 100, 32]⟩ : ByteArray)).size + a1.size ≤ 9223372036854775807
            · rw [if_pos c38] at H
              have c38b0 := eq_true c38
              have c38b1 : decide ((a0 ++ (⟨#[32, 97, 110, 100, 32]⟩ : ByteArray)).size + a1.size ≤ 9223372036854775807) = true := decide_eq_true c38
              (try (have c38n := c38; simp only [ByteArray.size_extract, ByteArray.size_append] at c38n; have c38n0 := eq_true c38n; have c38n1 := decide_eq_true c38n; (try have c38n2 := eq_false (Nat.not_lt.2 c38n))))
              (try (have c38m := c38; simp at c38m; have c38m0 := eq_true c38m; have c38m1 := decide_eq_true c38m; (try have c38m2 := eq_false (Nat.not_lt.2 c38m))))
              try have c38b2 : (9223372036854775807 < (a0 ++ (⟨#[32, 97, 110, 100, 32]⟩ : ByteArray)).size + a1.size) = False := eq_false (Nat.not_lt.2 c38)
              replace H := Option.bind_eq_some_iff.mp H
              obtain ⟨⟨t250, t251⟩, A390, H⟩ := H
              replace H : (if a0.size + 4 ≤ 9223372036854775807 then (if (a0 ++ (⟨#[32, 111, 114, 32]⟩ : ByteArray)).size + a1.size ≤ 9223372036854775807 then ((quipulaw09_alone.f ((a0 ++ (⟨#[32, 111, 114, 32]⟩ : ByteArray)) ++ a1) a2_1 a2_2 a2_3 a2_4 a2_5 a2_6).bind fun bt252 => (if ((a0 ++ (⟨#[32, 111, 114, 32]⟩ : ByteArray)) ++ a1).size + 5 ≤ 9223372036854775807 then (if (((a0 ++ (⟨#[32, 111, 114, 32]⟩ : ByteArray)) ++ a1) ++ (⟨#[32, 97, 110, 100, 32]⟩ : ByteArray)).size + a2_0.size ≤ 9223372036854775807 then ((quipulaw09_alone.f ((((a0 ++ (⟨#[32, 111, 114, 32]⟩ : ByteArray)) ++ a1) ++ (⟨#[32, 97, 110, 100, 32]⟩ : ByteArray)) ++ a2_0) a2_1 a2_2 a2_3 a2_4 a2_5 a2_6).bind fun bt254 => (if ((a0 ++ (⟨#[32, 97, 110, 100, 32]⟩ : ByteArray)) ++ a1).size + 4 ≤ 9223372036854775807 then (if (((a0 ++ (⟨#[32, 97, 110, 100, 32]⟩ : ByteArray)) ++ a1) ++ (⟨#[32, 111, 114, 32]⟩ : ByteArray)).size + a2_0.size ≤ 9223372036854775807 then ((quipulaw09_alone.f ((((a0 ++ (⟨#[32, 97, 110, 100, 32]⟩ : ByteArray)) ++ a1) ++ (⟨#[32, 111, 114, 32]⟩ : ByteArray)) ++ a2_0) a2_1 a2_2 a2_3 a2_4 a2_5 a2_6).bind fun bt256 => (if t251 = true then (if bt252.2 = true then (if bt254.2 = true then (if bt256.2 = true then (if t240 = true then (if (t250 != t242) = true then (quipulaw09_RuleLogic.j1 kj8 a0 t240 true a2_1 a2_2 a2_3 a2_4 a2_5 a2_6) else (if (bt252.1 != true) = true then (quipulaw09_RuleLogic.j1 kj8 a0 t240 true a2_1 a2_2 a2_3 a2_4 a2_5 a2_6) else (if (bt254.1 != true) = true then (quipulaw09_RuleLogic.j1 kj8 a0 t240 true a2_1 a2_2 a2_3 a2_4 a2_5 a2_6) else (if t242 = true then (quipulaw09_RuleLogic.j1 kj8 a0 t240 (bt256.1 != true) a2_1 a2_2 a2_3 a2_4 a2_5 a2_6) else (quipulaw09_RuleLogic.j1 kj8 a0 t240 (bt256.1 != t244) a2_1 a2_2 a2_3 a2_4 a2_5 a2_6))))) else (if (t250 != false) = true then (quipulaw09_RuleLogic.j1 kj8 a0 t240 true a2_1 a2_2 a2_3 a2_4 a2_5 a2_6) else (if (bt252.1 != t242) = true then (quipulaw09_RuleLogic.j1 kj8 a0 t240 true a2_1 a2_2 a2_3 a2_4 a2_5 a2_6) else (if t242 = true then (if (bt254.1 != t244) = true then (quipulaw09_RuleLogic.j1 kj8 a0 t240 true a2_1 a2_2 a2_3 a2_4 a2_5 a2_6) else (quipulaw09_RuleLogic.j1 kj8 a0 t240 (bt256.1 != t244) a2_1 a2_2 a2_3 a2_4 a2_5 a2_6)) else (if (bt254.1 != false) = true then (quipulaw09_RuleLogic.j1 kj8 a0 t240 true a2_1 a2_2 a2_3 a2_4 a2_5 a2_6) else (quipulaw09_RuleLogic.j1 kj8 a0 t240 (bt256.1 != t244) a2_1 a2_2 a2_3 a2_4 a2_5 a2_6)))))) else (quipulaw09_RuleLogic.j1 kj8 a0 t240 true a2_1 a2_2 a2_3 a2_4 a2_5 a2_6)) else (quipulaw09_RuleLogic.j1 kj8 a0 t240 true a2_1 a2_2 a2_3 a2_4 a2_5 a2_6)) else (quipulaw09_RuleLogic.j1 kj8 a0 t240 true a2_1 a2_2 a2_3 a2_4 a2_5 a2_6)) else (quipulaw09_RuleLogic.j1 kj8 a0 t240 true a2_1 a2_2 a2_3 a2_4 a2_5 a2_6))) else (none)) else (none))) else (none)) else (none))) else (none)) else (none)) = some true := H
              have A39 := Aside0.mk A390
              clear A390
              by_cases c40 : a0.size + 4 ≤ 9223372036854775807
              · rw [if_pos c40] at H
                have c40b0 := eq_true c40
                have c40b1 : decide (a0.size + 4 ≤ 9223372036854775807) = true := decide_eq_true c40
                try have c40b2 : (9223372036854775807 < a0.size + 4) = False := eq_false (Nat.not_lt.2 c40)
                by_cases c41 : (a0 ++ (⟨#[32, 111, 114, 32]⟩ : ByteArray)).size + a1.size ≤ 9223372036854775807
                · rw [if_pos c41] at H
                  have c41b0 := eq_true c41
                  have c41b1 : decide ((a0 ++ (⟨#[32, 111, 114, 32]⟩ : ByteArray)).size + a1.size ≤ 9223372036854775807) = true := decide_eq_true c41
                  (try (have c41n := c41; simp only [ByteArray.size_extract, ByteArray.size_append] at c41n; have c41n0 := eq_true c41n; have c41n1 := decide_eq_true c41n; (try have c41n2 := eq_false (Nat.not_lt.2 c41n))))
                  (try (have c41m := c41; simp at c41m; have c41m0 := eq_true c41m; have c41m1 := decide_eq_true c41m; (try have c41m2 := eq_false (Nat.not_lt.2 c41m))))
                  try have c41b2 : (9223372036854775807 < (a0 ++ (⟨#[32, 111, 114, 32]⟩ : ByteArray)).size + a1.size) = False := eq_false (Nat.not_lt.2 c41)
                  replace H := Option.bind_eq_some_iff.mp H
                  obtain ⟨⟨t252, t253⟩, A420, H⟩ := H
                  replace H : (if ((a0 ++ (⟨#[32, 111, 114, 32]⟩ : ByteArray)) ++ a1).size + 5 ≤ 9223372036854775807 then (if (((a0 ++ (⟨#[32, 111, 114, 32]⟩ : ByteArray)) ++ a1) ++ (⟨#[32, 97, 110, 100, 32]⟩ : ByteArray)).size + a2_0.size ≤ 9223372036854775807 then ((quipulaw09_alone.f ((((a0 ++ (⟨#[32, 111, 114, 32]⟩ : ByteArray)) ++ a1) ++ (⟨#[32, 97, 110, 100, 32]⟩ : ByteArray)) ++ a2_0) a2_1 a2_2 a2_3 a2_4 a2_5 a2_6).bind fun bt254 => (if ((a0 ++ (⟨#[32, 97, 110, 100, 32]⟩ : ByteArray)) ++ a1).size + 4 ≤ 9223372036854775807 then (if (((a0 ++ (⟨#[32, 97, 110, 100, 32]⟩ : ByteArray)) ++ a1) ++ (⟨#[32, 111, 114, 32]⟩ : ByteArray)).size + a2_0.size ≤ 9223372036854775807 then ((quipulaw09_alone.f ((((a0 ++ (⟨#[32, 97, 110, 100, 32]⟩ : ByteArray)) ++ a1) ++ (⟨#[32, 111, 114, 32]⟩ : ByteArray)) ++ a2_0) a2_1 a2_2 a2_3 a2_4 a2_5 a2_6).bind fun bt256 => (if t251 = true then (if t253 = true then (if bt254.2 = true then (if bt256.2 = true then (if t240 = true then (if (t250 != t242) = true then (quipulaw09_RuleLogic.j1 kj8 a0 t240 true a2_1 a2_2 a2_3 a2_4 a2_5 a2_6) else (if (t252 != true) = true then (quipulaw09_RuleLogic.j1 kj8 a0 t240 true a2_1 a2_2 a2_3 a2_4 a2_5 a2_6) else (if (bt254.1 != true) = true then (quipulaw09_RuleLogic.j1 kj8 a0 t240 true a2_1 a2_2 a2_3 a2_4 a2_5 a2_6) else (if t242 = true then (quipulaw09_RuleLogic.j1 kj8 a0 t240 (bt256.1 != true) a2_1 a2_2 a2_3 a2_4 a2_5 a2_6) else (quipulaw09_RuleLogic.j1 kj8 a0 t240 (bt256.1 != t244) a2_1 a2_2 a2_3 a2_4 a2_5 a2_6))))) else (if (t250 != false) = true then (quipulaw09_RuleLogic.j1 kj8 a0 t240 true a2_1 a2_2 a2_3 a2_4 a2_5 a2_6) else (if (t252 != t242) = true then (quipulaw09_RuleLogic.j1 kj8 a0 t240 true a2_1 a2_2 a2_3 a2_4 a2_5 a2_6) else (if t242 = true then (if (bt254.1 != t244) = true then (quipulaw09_RuleLogic.j1 kj8 a0 t240 true a2_1 a2_2 a2_3 a2_4 a2_5 a2_6) else (quipulaw09_RuleLogic.j1 kj8 a0 t240 (bt256.1 != t244) a2_1 a2_2 a2_3 a2_4 a2_5 a2_6)) else (if (bt254.1 != false) = true then (quipulaw09_RuleLogic.j1 kj8 a0 t240 true a2_1 a2_2 a2_3 a2_4 a2_5 a2_6) else (quipulaw09_RuleLogic.j1 kj8 a0 t240 (bt256.1 != t244) a2_1 a2_2 a2_3 a2_4 a2_5 a2_6)))))) else (quipulaw09_RuleLogic.j1 kj8 a0 t240 true a2_1 a2_2 a2_3 a2_4 a2_5 a2_6)) else (quipulaw09_RuleLogic.j1 kj8 a0 t240 true a2_1 a2_2 a2_3 a2_4 a2_5 a2_6)) else (quipulaw09_RuleLogic.j1 kj8 a0 t240 true a2_1 a2_2 a2_3 a2_4 a2_5 a2_6)) else (quipulaw09_RuleLogic.j1 kj8 a0 t240 true a2_1 a2_2 a2_3 a2_4 a2_5 a2_6))) else (none)) else (none))) else (none)) else (none)) = some true := H
                  have A42 := Aside0.mk A420
                  clear A420
                  by_cases c43 : ((a0 ++ (⟨#[32, 111, 114, 32]⟩ : ByteArray)) ++ a1).size + 5 ≤ 9223372036854775807
                  · rw [if_pos c43] at H
                    have c43b0 := eq_true c43
                    have c43b1 : decide (((a0 ++ (⟨#[32, 111, 114, 32]⟩ : ByteArray)) ++ a1).size + 5 ≤ 9223372036854775807) = true := decide_eq_true c43
                    (try (have c43n := c43; simp only [ByteArray.size_extract, ByteArray.size_append] at c43n; have c43n0 := eq_true c43n; have c43n1 := decide_eq_true c43n; (try have c43n2 := eq_false (Nat.not_lt.2 c43n))))
                    (try (have c43m := c43; simp at c43m; have c43m0 := eq_true c43m; have c43m1 := decide_eq_true c43m; (try have c43m2 := eq_false (Nat.not_lt.2 c43m))))
                    try have c43b2 : (9223372036854775807 < ((a0 ++ (⟨#[32, 111, 114, 32]⟩ : ByteArray)) ++ a1).size + 5) = False := eq_false (Nat.not_lt.2 c43)
                    by_cases c44 : (((a0 ++ (⟨#[32, 111, 114, 32]⟩ : ByteArray)) ++ a1) ++ (⟨#[32, 97, 110, 100, 32]⟩ : ByteArray)).size + a2_0.size ≤ 9223372036854775807
                    · rw [if_pos c44] at H
                      have c44b0 := eq_true c44
                      have c44b1 : decide ((((a0 ++ (⟨#[32, 111, 114, 32]⟩ : ByteArray)) ++ a1) ++ (⟨#[32, 97, 110, 100, 32]⟩ : ByteArray)).size + a2_0.size ≤ 9223372036854775807) = true := decide_eq_true c44
                      (try (have c44n := c44; simp only [ByteArray.size_extract, ByteArray.size_append] at c44n; have c44n0 := eq_true c44n; have c44n1 := decide_eq_true c44n; (try have c44n2 := eq_false (Nat.not_lt.2 c44n))))
                      (try (have c44m := c44; simp at c44m; have c44m0 := eq_true c44m; have c44m1 := decide_eq_true c44m; (try have c44m2 := eq_false (Nat.not_lt.2 c44m))))
                      try have c44b2 : (9223372036854775807 < (((a0 ++ (⟨#[32, 111, 114, 32]⟩ : ByteArray)) ++ a1) ++ (⟨#[32, 97, 110, 100, 32]⟩ : ByteArray)).size + a2_0.size) = False := eq_false (Nat.not_lt.2 c44)
                      replace H := Option.bind_eq_some_iff.mp H
                      obtain ⟨⟨t254, t255⟩, A450, H⟩ := H
                      replace H : (if ((a0 ++ (⟨#[32, 97, 110, 100, 32]⟩ : ByteArray)) ++ a1).size + 4 ≤ 9223372036854775807 then (if (((a0 ++ (⟨#[32, 97, 110, 100, 32]⟩ : ByteArray)) ++ a1) ++ (⟨#[32, 111, 114, 32]⟩ : ByteArray)).size + a2_0.size ≤ 9223372036854775807 then ((quipulaw09_alone.f ((((a0 ++ (⟨#[32, 97, 110, 100, 32]⟩ : ByteArray)) ++ a1) ++ (⟨#[32, 111, 114, 32]⟩ : ByteArray)) ++ a2_0) a2_1 a2_2 a2_3 a2_4 a2_5 a2_6).bind fun bt256 => (if t251 = true then (if t253 = true then (if t255 = true then (if bt256.2 = true then (if t240 = true then (if (t250 != t242) = true then (quipulaw09_RuleLogic.j1 kj8 a0 t240 true a2_1 a2_2 a2_3 a2_4 a2_5 a2_6) else (if (t252 != true) = true then (quipulaw09_RuleLogic.j1 kj8 a0 t240 true a2_1 a2_2 a2_3 a2_4 a2_5 a2_6) else (if (t254 != true) = true then (quipulaw09_RuleLogic.j1 kj8 a0 t240 true a2_1 a2_2 a2_3 a2_4 a2_5 a2_6) else (if t242 = true then (quipulaw09_RuleLogic.j1 kj8 a0 t240 (bt256.1 != true) a2_1 a2_2 a2_3 a2_4 a2_5 a2_6) else (quipulaw09_RuleLogic.j1 kj8 a0 t240 (bt256.1 != t244) a2_1 a2_2 a2_3 a2_4 a2_5 a2_6))))) else (if (t250 != false) = true then (quipulaw09_RuleLogic.j1 kj8 a0 t240 true a2_1 a2_2 a2_3 a2_4 a2_5 a2_6) else (if (t252 != t242) = true then (quipulaw09_RuleLogic.j1 kj8 a0 t240 true a2_1 a2_2 a2_3 a2_4 a2_5 a2_6) else (if t242 = true then (if (t254 != t244) = true then (quipulaw09_RuleLogic.j1 kj8 a0 t240 true a2_1 a2_2 a2_3 a2_4 a2_5 a2_6) else (quipulaw09_RuleLogic.j1 kj8 a0 t240 (bt256.1 != t244) a2_1 a2_2 a2_3 a2_4 a2_5 a2_6)) else (if (t254 != false) = true then (quipulaw09_RuleLogic.j1 kj8 a0 t240 true a2_1 a2_2 a2_3 a2_4 a2_5 a2_6) else (quipulaw09_RuleLogic.j1 kj8 a0 t240 (bt256.1 != t244) a2_1 a2_2 a2_3 a2_4 a2_5 a2_6)))))) else (quipulaw09_RuleLogic.j1 kj8 a0 t240 true a2_1 a2_2 a2_3 a2_4 a2_5 a2_6)) else (quipulaw09_RuleLogic.j1 kj8 a0 t240 true a2_1 a2_2 a2_3 a2_4 a2_5 a2_6)) else (quipulaw09_RuleLogic.j1 kj8 a0 t240 true a2_1 a2_2 a2_3 a2_4 a2_5 a2_6)) else (quipulaw09_RuleLogic.j1 kj8 a0 t240 true a2_1 a2_2 a2_3 a2_4 a2_5 a2_6))) else (none)) else (none)) = some true := H
                      have A45 := Aside0.mk A450
                      clear A450
                      by_cases c46 : ((a0 ++ (⟨#[32, 97, 110, 100, 32]⟩ : ByteArray)) ++ a1).size + 4 ≤ 9223372036854775807
                      · rw [if_pos c46] at H
                        have c46b0 := eq_true c46
                        have c46b1 : decide (((a0 ++ (⟨#[32, 97, 110, 100, 32]⟩ : ByteArray)) ++ a1).size + 4 ≤ 9223372036854775807) = true := decide_eq_true c46
                        (try (have c46n := c46; simp only [ByteArray.size_extract, ByteArray.size_append] at c46n; have c46n0 := eq_true c46n; have c46n1 := decide_eq_true c46n; (try have c46n2 := eq_false (Nat.not_lt.2 c46n))))
                        (try (have c46m := c46; simp at c46m; have c46m0 := eq_true c46m; have c46m1 := decide_eq_true c46m; (try have c46m2 := eq_false (Nat.not_lt.2 c46m))))
                        try have c46b2 : (9223372036854775807 < ((a0 ++ (⟨#[32, 97, 110, 100, 32]⟩ : ByteArray)) ++ a1).size + 4) = False := eq_false (Nat.not_lt.2 c46)
                        by_cases c47 : (((a0 ++ (⟨#[32, 97, 110, 100, 32]⟩ : ByteArray)) ++ a1) ++ (⟨#[32, 111, 114, 32]⟩ : ByteArray)).size + a2_0.size ≤ 9223372036854775807
                        · rw [if_pos c47] at H
                          have c47b0 := eq_true c47
                          have c47b1 : decide ((((a0 ++ (⟨#[32, 97, 110, 100, 32]⟩ : ByteArray)) ++ a1) ++ (⟨#[32, 111, 114, 32]⟩ : ByteArray)).size + a2_0.size ≤ 9223372036854775807) = true := decide_eq_true c47
                          (try (have c47n := c47; simp only [ByteArray.size_extract, ByteArray.size_append] at c47n; have c47n0 := eq_true c47n; have c47n1 := decide_eq_true c47n; (try have c47n2 := eq_false (Nat.not_lt.2 c47n))))
                          (try (have c47m := c47; simp at c47m; have c47m0 := eq_true c47m; have c47m1 := decide_eq_true c47m; (try have c47m2 := eq_false (Nat.not_lt.2 c47m))))
                          try have c47b2 : (9223372036854775807 < (((a0 ++ (⟨#[32, 97, 110, 100, 32]⟩ : ByteArray)) ++ a1) ++ (⟨#[32, 111, 114, 32]⟩ : ByteArray)).size + a2_0.size) = False := eq_false (Nat.not_lt.2 c47)
                          replace H := Option.bind_eq_some_iff.mp H
                          obtain ⟨⟨t256, t257⟩, A480, H⟩ := H
                          replace H : (if t251 = true then (if t253 = true then (if t255 = true then (if t257 = true then (if t240 = true then (if (t250 != t242) = true then (quipulaw09_RuleLogic.j1 kj8 a0 t240 true a2_1 a2_2 a2_3 a2_4 a2_5 a2_6) else (if (t252 != true) = true then (quipulaw09_RuleLogic.j1 kj8 a0 t240 true a2_1 a2_2 a2_3 a2_4 a2_5 a2_6) else (if (t254 != true) = true then (quipulaw09_RuleLogic.j1 kj8 a0 t240 true a2_1 a2_2 a2_3 a2_4 a2_5 a2_6) else (if t242 = true then (quipulaw09_RuleLogic.j1 kj8 a0 t240 (t256 != true) a2_1 a2_2 a2_3 a2_4 a2_5 a2_6) else (quipulaw09_RuleLogic.j1 kj8 a0 t240 (t256 != t244) a2_1 a2_2 a2_3 a2_4 a2_5 a2_6))))) else (if (t250 != false) = true then (quipulaw09_RuleLogic.j1 kj8 a0 t240 true a2_1 a2_2 a2_3 a2_4 a2_5 a2_6) else (if (t252 != t242) = true then (quipulaw09_RuleLogic.j1 kj8 a0 t240 true a2_1 a2_2 a2_3 a2_4 a2_5 a2_6) else (if t242 = true then (if (t254 != t244) = true then (quipulaw09_RuleLogic.j1 kj8 a0 t240 true a2_1 a2_2 a2_3 a2_4 a2_5 a2_6) else (quipulaw09_RuleLogic.j1 kj8 a0 t240 (t256 != t244) a2_1 a2_2 a2_3 a2_4 a2_5 a2_6)) else (if (t254 != false) = true then (quipulaw09_RuleLogic.j1 kj8 a0 t240 true a2_1 a2_2 a2_3 a2_4 a2_5 a2_6) else (quipulaw09_RuleLogic.j1 kj8 a0 t240 (t256 != t244) a2_1 a2_2 a2_3 a2_4 a2_5 a2_6)))))) else (quipulaw09_RuleLogic.j1 kj8 a0 t240 true a2_1 a2_2 a2_3 a2_4 a2_5 a2_6)) else (quipulaw09_RuleLogic.j1 kj8 a0 t240 true a2_1 a2_2 a2_3 a2_4 a2_5 a2_6)) else (quipulaw09_RuleLogic.j1 kj8 a0 t240 true a2_1 a2_2 a2_3 a2_4 a2_5 a2_6)) else (quipulaw09_RuleLogic.j1 kj8 a0 t240 true a2_1 a2_2 a2_3 a2_4 a2_5 a2_6)) = some true := H
                          have A48 := Aside0.mk A480
                          clear A480
                          have HC49 := Aside0.mk H
                          clear H
                          have hnb50 := NB239_238.out
                          have hnc50 := NB238_239.out
                          have hcz51_0 : wc.cell? ⟨gb239, 0, none⟩ = some (.string a2_1) := (blk_cell BK239.out 0).trans rfl
                          have hcz51_1 : wc.cell? ⟨gb239, 1, none⟩ = some (.int .i64 a2_2) := (blk_cell BK239.out 1).trans rfl
                          have hcz51_2 : wc.cell? ⟨gb239, 2, none⟩ = some (.int .i64 a2_3) := (blk_cell BK239.out 2).trans rfl
                          have hcz51_3 : wc.cell? ⟨gb239, 3, none⟩ = some (.string a2_4) := (blk_cell BK239.out 3).trans rfl
                          have hcz51_4 : wc.cell? ⟨gb239, 4, none⟩ = some (.string a2_5) := (blk_cell BK239.out 4).trans rfl
                          have hcz51_5 : wc.cell? ⟨gb239, 5, none⟩ = some (.int .i64 a2_6) := (blk_cell BK239.out 5).trans rfl
                          have hfz51_0 := blk_frozen BK239.out 0
                          have hfz51_1 := blk_frozen BK239.out 1
                          have hfz51_2 := blk_frozen BK239.out 2
                          have hfz51_3 := blk_frozen BK239.out 3
                          have hfz51_4 := blk_frozen BK239.out 4
                          have hfz51_5 := blk_frozen BK239.out 5
                          have z43 := lg43 (of_eq_true c43b0)
                          have z44 := lg44 (of_eq_true c44b0)
                          have z46 := lg46 (of_eq_true c46b0)
                          have z47 := lg47 (of_eq_true c47b0)
                          have z41 := lg41 (of_eq_true c41b0)
                          have z38 := lg38 (of_eq_true c38b0)
                          go_upto_region 13 with (first | ((with_reducible refine gate_callee (f := 13) rfl ?_); refine goesL_ (some 91) rfl rfl Tryd.func13 (by kernel_rfl) rfl #[.string ((a0 ++ (⟨#[32, 97, 110, 100, 32]⟩ : ByteArray)) ++ a1), .agg #[.string a2_1, .int .i64 a2_2, .int .i64 a2_3, .string a2_4, .string a2_5, .int .i64 a2_6]] rfl (by (try simp only [List.map_toArray, List.map_cons, List.map_nil]); first | done | rfl | (simp only [List.length_drop, List.length_take]; rfl)) ?_; (with_reducible refine (quipulaw09_alone.calls ((a0 ++ (⟨#[32, 97, 110, 100, 32]⟩ : ByteArray)) ++ a1) a2_1 a2_2 a2_3 a2_4 a2_5 a2_6 t250 t251 _ (Gd.below HG.out (by repeat (first | (with_reducible first | exact HB.out | apply below_alloc | apply pw_below_drewN | apply below_drew1 | refine below_set ?_ GE238.out | refine below_set ?_ GE239.out) | exact HB.out))) A39.out).mono ?_); rintro e w52 ⟨rfl, hb⟩; refine ⟨_, rfl, ?_⟩; have n0_ := Aside0.mk (blk_below (g := gb238) (o := .cells #[.string a2_0, .string a2_1, .int .i64 a2_2, .int .i64 a2_3, .string a2_4, .string a2_5, .int .i64 a2_6] 31 (0, 0)) (by (with_reducible repeat (first | refine blk_drewN ?_ _ | refine blk_drew ?_ | refine blk_alloc ?_ _)); exact BK238.out) hb); have n1_ := Aside0.mk (blk_below (g := gb239) (o := .cells #[.string a2_1, .int .i64 a2_2, .int .i64 a2_3, .string a2_4, .string a2_5, .int .i64 a2_6] 29 (0, 0)) (by (with_reducible repeat (first | refine blk_drewN ?_ _ | refine blk_drew ?_ | refine blk_alloc ?_ _)); exact BK239.out) hb); have n2_ := Aside0.mk (below_step (by repeat (first | (with_reducible first | exact HB.out | apply below_alloc | apply pw_below_drewN | apply below_drew1 | refine below_set ?_ GE238.out | refine below_set ?_ GE239.out) | exact HB.out)) hb); clear BK238; clear BK239; clear HB; have BK238 := n0_; have BK239 := n1_; have HB := n2_; clear n0_ n1_ n2_; (try clear hb); (try clear hb2); (try clear hk); (try clear hi); have hcz53_0 : w52.cell? ⟨gb239, 0, none⟩ = some (.string a2_1) := (blk_cell BK239.out 0).trans rfl; have hcz53_1 : w52.cell? ⟨gb239, 1, none⟩ = some (.int .i64 a2_2) := (blk_cell BK239.out 1).trans rfl; have hcz53_2 : w52.cell? ⟨gb239, 2, none⟩ = some (.int .i64 a2_3) := (blk_cell BK239.out 2).trans rfl; have hcz53_3 : w52.cell? ⟨gb239, 3, none⟩ = some (.string a2_4) := (blk_cell BK239.out 3).trans rfl; have hcz53_4 : w52.cell? ⟨gb239, 4, none⟩ = some (.string a2_5) := (blk_cell BK239.out 4).trans rfl; have hcz53_5 : w52.cell? ⟨gb239, 5, none⟩ = some (.int .i64 a2_6) := (blk_cell BK239.out 5).trans rfl; have hfz53_0 := blk_frozen BK239.out 0; have hfz53_1 := blk_frozen BK239.out 1; have hfz53_2 := blk_frozen BK239.out 2; have hfz53_3 := blk_frozen BK239.out 3; have hfz53_4 := blk_frozen BK239.out 4; have hfz53_5 := blk_frozen BK239.out 5) | ((with_reducible refine gate_callee (f := 13) rfl ?_); refine goesL_ (some 100) rfl rfl Tryd.func13 (by kernel_rfl) rfl #[.string ((a0 ++ (⟨#[32, 111, 114, 32]⟩ : ByteArray)) ++ a1), .agg #[.string a2_1, .int .i64 a2_2, .int .i64 a2_3, .string a2_4, .string a2_5, .int .i64 a2_6]] rfl (by (try simp only [List.map_toArray, List.map_cons, List.map_nil]); first | done | rfl | (simp only [List.length_drop, List.length_take]; rfl)) ?_; (with_reducible refine (quipulaw09_alone.calls ((a0 ++ (⟨#[32, 111, 114, 32]⟩ : ByteArray)) ++ a1) a2_1 a2_2 a2_3 a2_4 a2_5 a2_6 t252 t253 _ (Gd.below HG.out (by repeat (first | (with_reducible first | exact HB.out | apply below_alloc | apply pw_below_drewN | apply below_drew1 | refine below_set ?_ GE238.out | refine below_set ?_ GE239.out) | exact HB.out))) A42.out).mono ?_); rintro e w54 ⟨rfl, hb⟩; refine ⟨_, rfl, ?_⟩; have n0_ := Aside0.mk (blk_below (g := gb238) (o := .cells #[.string a2_0, .string a2_1, .int .i64 a2_2, .int .i64 a2_3, .string a2_4, .string a2_5, .int .i64 a2_6] 31 (0, 0)) (by (with_reducible repeat (first | refine blk_drewN ?_ _ | refine blk_drew ?_ | refine blk_alloc ?_ _)); exact BK238.out) hb); have n1_ := Aside0.mk (blk_below (g := gb239) (o := .cells #[.string a2_1, .int .i64 a2_2, .int .i64 a2_3, .string a2_4, .string a2_5, .int .i64 a2_6] 29 (0, 0)) (by (with_reducible repeat (first | refine blk_drewN ?_ _ | refine blk_drew ?_ | refine blk_alloc ?_ _)); exact BK239.out) hb); have n2_ := Aside0.mk (below_step (by repeat (first | (with_reducible first | exact HB.out | apply below_alloc | apply pw_below_drewN | apply below_drew1 | refine below_set ?_ GE238.out | refine below_set ?_ GE239.out) | exact HB.out)) hb); clear BK238; clear BK239; clear HB; have BK238 := n0_; have BK239 := n1_; have HB := n2_; clear n0_ n1_ n2_; (try clear hb); (try clear hb2); (try clear hk); (try clear hi); have hcz55_0 : w54.cell? ⟨gb239, 0, none⟩ = some (.string a2_1) := (blk_cell BK239.out 0).trans rfl; have hcz55_1 : w54.cell? ⟨gb239, 1, none⟩ = some (.int .i64 a2_2) := (blk_cell BK239.out 1).trans rfl; have hcz55_2 : w54.cell? ⟨gb239, 2, none⟩ = some (.int .i64 a2_3) := (blk_cell BK239.out 2).trans rfl; have hcz55_3 : w54.cell? ⟨gb239, 3, none⟩ = some (.string a2_4) := (blk_cell BK239.out 3).trans rfl; have hcz55_4 : w54.cell? ⟨gb239, 4, none⟩ = some (.string a2_5) := (blk_cell BK239.out 4).trans rfl; have hcz55_5 : w54.cell? ⟨gb239, 5, none⟩ = some (.int .i64 a2_6) := (blk_cell BK239.out 5).trans rfl; have hfz55_0 := blk_frozen BK239.out 0; have hfz55_1 := blk_frozen BK239.out 1; have hfz55_2 := blk_frozen BK239.out 2; have hfz55_3 := blk_frozen BK239.out 3; have hfz55_4 := blk_frozen BK239.out 4; have hfz55_5 := blk_frozen BK239.out 5) | ((with_reducible refine gate_callee (f := 13) rfl ?_); refine goesL_ (some 112) rfl rfl Tryd.func13 (by kernel_rfl) rfl #[.string ((((a0 ++ (⟨#[32, 111, 114, 32]⟩ : ByteArray)) ++ a1) ++ (⟨#[32, 97, 110, 100, 32]⟩ : ByteArray)) ++ a2_0), .agg #[.string a2_1, .int .i64 a2_2, .int .i64 a2_3, .string a2_4, .string a2_5, .int .i64 a2_6]] rfl (by (try simp only [List.map_toArray, List.map_cons, List.map_nil]); first | done | rfl | (simp only [List.length_drop, List.length_take]; rfl)) ?_; (with_reducible refine (quipulaw09_alone.calls ((((a0 ++ (⟨#[32, 111, 114, 32]⟩ : ByteArray)) ++ a1) ++ (⟨#[32, 97, 110, 100, 32]⟩ : ByteArray)) ++ a2_0) a2_1 a2_2 a2_3 a2_4 a2_5 a2_6 t254 t255 _ (Gd.below HG.out (by repeat (first | (with_reducible first | exact HB.out | apply below_alloc | apply pw_below_drewN | apply below_drew1 | refine below_set ?_ GE238.out | refine below_set ?_ GE239.out) | exact HB.out))) A45.out).mono ?_); rintro e w56 ⟨rfl, hb⟩; refine ⟨_, rfl, ?_⟩; have n0_ := Aside0.mk (blk_below (g := gb238) (o := .cells #[.string a2_0, .string a2_1, .int .i64 a2_2, .int .i64 a2_3, .string a2_4, .string a2_5, .int .i64 a2_6] 31 (0, 0)) (by (with_reducible repeat (first | refine blk_drewN ?_ _ | refine blk_drew ?_ | refine blk_alloc ?_ _)); exact BK238.out) hb); have n1_ := Aside0.mk (blk_below (g := gb239) (o := .cells #[.string a2_1, .int .i64 a2_2, .int .i64 a2_3, .string a2_4, .string a2_5, .int .i64 a2_6] 29 (0, 0)) (by (with_reducible repeat (first | refine blk_drewN ?_ _ | refine blk_drew ?_ | refine blk_alloc ?_ _)); exact BK239.out) hb); have n2_ := Aside0.mk (below_step (by repeat (first | (with_reducible first | exact HB.out | apply below_alloc | apply pw_below_drewN | apply below_drew1 | refine below_set ?_ GE238.out | refine below_set ?_ GE239.out) | exact HB.out)) hb); clear BK238; clear BK239; clear HB; have BK238 := n0_; have BK239 := n1_; have HB := n2_; clear n0_ n1_ n2_; (try clear hb); (try clear hb2); (try clear hk); (try clear hi); have hcz57_0 : w56.cell? ⟨gb239, 0, none⟩ = some (.string a2_1) := (blk_cell BK239.out 0).trans rfl; have hcz57_1 : w56.cell? ⟨gb239, 1, none⟩ = some (.int .i64 a2_2) := (blk_cell BK239.out 1).trans rfl; have hcz57_2 : w56.cell? ⟨gb239, 2, none⟩ = some (.int .i64 a2_3) := (blk_cell BK239.out 2).trans rfl; have hcz57_3 : w56.cell? ⟨gb239, 3, none⟩ = some (.string a2_4) := (blk_cell BK239.out 3).trans rfl; have hcz57_4 : w56.cell? ⟨gb239, 4, none⟩ = some (.string a2_5) := (blk_cell BK239.out 4).trans rfl; have hcz57_5 : w56.cell? ⟨gb239, 5, none⟩ = some (.int .i64 a2_6) := (blk_cell BK239.out 5).trans rfl; have hfz57_0 := blk_frozen BK239.out 0; have hfz57_1 := blk_frozen BK239.out 1; have hfz57_2 := blk_frozen BK239.out 2; have hfz57_3 := blk_frozen BK239.out 3; have hfz57_4 := blk_frozen BK239.out 4; have hfz57_5 := blk_frozen BK239.out 5) | ((with_reducible refine gate_callee (f := 13) rfl ?_); refine goesL_ (some 124) rfl rfl Tryd.func13 (by kernel_rfl) rfl #[.string ((((a0 ++ (⟨#[32, 97, 110, 100, 32]⟩ : ByteArray)) ++ a1) ++ (⟨#[32, 111, 114, 32]⟩ : ByteArray)) ++ a2_0), .agg #[.string a2_1, .int .i64 a2_2, .int .i64 a2_3, .string a2_4, .string a2_5, .int .i64 a2_6]] rfl (by (try simp only [List.map_toArray, List.map_cons, List.map_nil]); first | done | rfl | (simp only [List.length_drop, List.length_take]; rfl)) ?_; (with_reducible refine (quipulaw09_alone.calls ((((a0 ++ (⟨#[32, 97, 110, 100, 32]⟩ : ByteArray)) ++ a1) ++ (⟨#[32, 111, 114, 32]⟩ : ByteArray)) ++ a2_0) a2_1 a2_2 a2_3 a2_4 a2_5 a2_6 t256 t257 _ (Gd.below HG.out (by repeat (first | (with_reducible first | exact HB.out | apply below_alloc | apply pw_below_drewN | apply below_drew1 | refine below_set ?_ GE238.out | refine below_set ?_ GE239.out) | exact HB.out))) A48.out).mono ?_); rintro e w58 ⟨rfl, hb⟩; refine ⟨_, rfl, ?_⟩; have n0_ := Aside0.mk (blk_below (g := gb238) (o := .cells #[.string a2_0, .string a2_1, .int .i64 a2_2, .int .i64 a2_3, .string a2_4, .string a2_5, .int .i64 a2_6] 31 (0, 0)) (by (with_reducible repeat (first | refine blk_drewN ?_ _ | refine blk_drew ?_ | refine blk_alloc ?_ _)); exact BK238.out) hb); have n1_ := Aside0.mk (blk_below (g := gb239) (o := .cells #[.string a2_1, .int .i64 a2_2, .int .i64 a2_3, .string a2_4, .string a2_5, .int .i64 a2_6] 29 (0, 0)) (by (with_reducible repeat (first | refine blk_drewN ?_ _ | refine blk_drew ?_ | refine blk_alloc ?_ _)); exact BK239.out) hb); have n2_ := Aside0.mk (below_step (by repeat (first | (with_reducible first | exact HB.out | apply below_alloc | apply pw_below_drewN | apply below_drew1 | refine below_set ?_ GE238.out | refine below_set ?_ GE239.out) | exact HB.out)) hb); clear BK238; clear BK239; clear HB; have BK238 := n0_; have BK239 := n1_; have HB := n2_; clear n0_ n1_ n2_; (try clear hb); (try clear hb2); (try clear hk); (try clear hi)))
                          (try simp only [Act.put, List.setIfInBounds_toArray, List.set_cons_zero, List.set_cons_succ])
                          go_cut [178] (fun v178 wc => ∃ (kq : Nat) (x178_48 : Bool), v178 = .bool x178_48 ∧ Aside0 (quipulaw09_RuleLogic.j1 kq a0 t240 x178_48 a2_1 a2_2 a2_3 a2_4 a2_5 a2_6 = some true) ∧ Aside0 (kq ≤ kj8) ∧ Aside0 (wc.heap[gb238]? = some (.cells #[.string a2_0, .string a2_1, .int .i64 a2_2, .int .i64 a2_3, .string a2_4, .string a2_5, .int .i64 a2_6] 31 (0, 0))) ∧ Aside0 (wc.heap[gb239]? = some (.cells #[.string a2_1, .int .i64 a2_2, .int .i64 a2_3, .string a2_4, .string a2_5, .int .i64 a2_6] 29 (0, 0))) ∧ Aside0 (Below w.heap.size w wc))
                          case first =>
                            have H := HC49.out
                            clear HC49
                            by_cases c59 : t251 = true
                            · subst c59
                              have H1 : (if t253 = true then (if t255 = true then (if t257 = true then (if t240 = true then (if (t250 != t242) = true then (quipulaw09_RuleLogic.j1 kj8 a0 t240 true a2_1 a2_2 a2_3 a2_4 a2_5 a2_6) else (if (t252 != true) = true then (quipulaw09_RuleLogic.j1 kj8 a0 t240 true a2_1 a2_2 a2_3 a2_4 a2_5 a2_6) else (if (t254 != true) = true then (quipulaw09_RuleLogic.j1 kj8 a0 t240 true a2_1 a2_2 a2_3 a2_4 a2_5 a2_6) else (if t242 = true then (quipulaw09_RuleLogic.j1 kj8 a0 t240 (t256 != true) a2_1 a2_2 a2_3 a2_4 a2_5 a2_6) else (quipulaw09_RuleLogic.j1 kj8 a0 t240 (t256 != t244) a2_1 a2_2 a2_3 a2_4 a2_5 a2_6))))) else (if (t250 != false) = true then (quipulaw09_RuleLogic.j1 kj8 a0 t240 true a2_1 a2_2 a2_3 a2_4 a2_5 a2_6) else (if (t252 != t242) = true then (quipulaw09_RuleLogic.j1 kj8 a0 t240 true a2_1 a2_2 a2_3 a2_4 a2_5 a2_6) else (if t242 = true then (if (t254 != t244) = true then (quipulaw09_RuleLogic.j1 kj8 a0 t240 true a2_1 a2_2 a2_3 a2_4 a2_5 a2_6) else (quipulaw09_RuleLogic.j1 kj8 a0 t240 (t256 != t244) a2_1 a2_2 a2_3 a2_4 a2_5 a2_6)) else (if (t254 != false) = true then (quipulaw09_RuleLogic.j1 kj8 a0 t240 true a2_1 a2_2 a2_3 a2_4 a2_5 a2_6) else (quipulaw09_RuleLogic.j1 kj8 a0 t240 (t256 != t244) a2_1 a2_2 a2_3 a2_4 a2_5 a2_6)))))) else (quipulaw09_RuleLogic.j1 kj8 a0 t240 true a2_1 a2_2 a2_3 a2_4 a2_5 a2_6)) else (quipulaw09_RuleLogic.j1 kj8 a0 t240 true a2_1 a2_2 a2_3 a2_4 a2_5 a2_6)) else (quipulaw09_RuleLogic.j1 kj8 a0 t240 true a2_1 a2_2 a2_3 a2_4 a2_5 a2_6)) = some true := by rw [if_pos rfl] at H; exact H
                              clear H
                              have H := H1
                              clear H1
                              by_cases c60 : t253 = true
                              · subst c60
                                have H1 : (if t255 = true then (if t257 = true then (if t240 = true then (if (t250 != t242) = true then (quipulaw09_RuleLogic.j1 kj8 a0 t240 true a2_1 a2_2 a2_3 a2_4 a2_5 a2_6) else (if (t252 != true) = true then (quipulaw09_RuleLogic.j1 kj8 a0 t240 true a2_1 a2_2 a2_3 a2_4 a2_5 a2_6) else (if (t254 != true) = true then (quipulaw09_RuleLogic.j1 kj8 a0 t240 true a2_1 a2_2 a2_3 a2_4 a2_5 a2_6) else (if t242 = true then (quipulaw09_RuleLogic.j1 kj8 a0 t240 (t256 != true) a2_1 a2_2 a2_3 a2_4 a2_5 a2_6) else (quipulaw09_RuleLogic.j1 kj8 a0 t240 (t256 != t244) a2_1 a2_2 a2_3 a2_4 a2_5 a2_6))))) else (if (t250 != false) = true then (quipulaw09_RuleLogic.j1 kj8 a0 t240 true a2_1 a2_2 a2_3 a2_4 a2_5 a2_6) else (if (t252 != t242) = true then (quipulaw09_RuleLogic.j1 kj8 a0 t240 true a2_1 a2_2 a2_3 a2_4 a2_5 a2_6) else (if t242 = true then (if (t254 != t244) = true then (quipulaw09_RuleLogic.j1 kj8 a0 t240 true a2_1 a2_2 a2_3 a2_4 a2_5 a2_6) else (quipulaw09_RuleLogic.j1 kj8 a0 t240 (t256 != t244) a2_1 a2_2 a2_3 a2_4 a2_5 a2_6)) else (if (t254 != false) = true then (quipulaw09_RuleLogic.j1 kj8 a0 t240 true a2_1 a2_2 a2_3 a2_4 a2_5 a2_6) else (quipulaw09_RuleLogic.j1 kj8 a0 t240 (t256 != t244) a2_1 a2_2 a2_3 a2_4 a2_5 a2_6)))))) else (quipulaw09_RuleLogic.j1 kj8 a0 t240 true a2_1 a2_2 a2_3 a2_4 a2_5 a2_6)) else (quipulaw09_RuleLogic.j1 kj8 a0 t240 true a2_1 a2_2 a2_3 a2_4 a2_5 a2_6)) = some true := by rw [if_pos rfl] at H; exact H
                                clear H
                                have H := H1
                                clear H1
                                by_cases c61 : t255 = true
                                · subst c61
                                  have H1 : (if t257 = true then (if t240 = true then (if (t250 != t242) = true then (quipulaw09_RuleLogic.j1 kj8 a0 t240 true a2_1 a2_2 a2_3 a2_4 a2_5 a2_6) else (if (t252 != true) = true then (quipulaw09_RuleLogic.j1 kj8 a0 t240 true a2_1 a2_2 a2_3 a2_4 a2_5 a2_6) else (if (t254 != true) = true then (quipulaw09_RuleLogic.j1 kj8 a0 t240 true a2_1 a2_2 a2_3 a2_4 a2_5 a2_6) else (if t242 = true then (quipulaw09_RuleLogic.j1 kj8 a0 t240 (t256 != true) a2_1 a2_2 a2_3 a2_4 a2_5 a2_6) else (quipulaw09_RuleLogic.j1 kj8 a0 t240 (t256 != t244) a2_1 a2_2 a2_3 a2_4 a2_5 a2_6))))) else (if (t250 != false) = true then (quipulaw09_RuleLogic.j1 kj8 a0 t240 true a2_1 a2_2 a2_3 a2_4 a2_5 a2_6) else (if (t252 != t242) = true then (quipulaw09_RuleLogic.j1 kj8 a0 t240 true a2_1 a2_2 a2_3 a2_4 a2_5 a2_6) else (if t242 = true then (if (t254 != t244) = true then (quipulaw09_RuleLogic.j1 kj8 a0 t240 true a2_1 a2_2 a2_3 a2_4 a2_5 a2_6) else (quipulaw09_RuleLogic.j1 kj8 a0 t240 (t256 != t244) a2_1 a2_2 a2_3 a2_4 a2_5 a2_6)) else (if (t254 != false) = true then (quipulaw09_RuleLogic.j1 kj8 a0 t240 true a2_1 a2_2 a2_3 a2_4 a2_5 a2_6) else (quipulaw09_RuleLogic.j1 kj8 a0 t240 (t256 != t244) a2_1 a2_2 a2_3 a2_4 a2_5 a2_6)))))) else (quipulaw09_RuleLogic.j1 kj8 a0 t240 true a2_1 a2_2 a2_3 a2_4 a2_5 a2_6)) = some true := by rw [if_pos rfl] at H; exact H
                                  clear H
                                  have H := H1
                                  clear H1
                                  by_cases c62 : t257 = true
                                  · subst c62
                                    have H1 : (if t240 = true then (if (t250 != t242) = true then (quipulaw09_RuleLogic.j1 kj8 a0 t240 true a2_1 a2_2 a2_3 a2_4 a2_5 a2_6) else (if (t252 != true) = true then (quipulaw09_RuleLogic.j1 kj8 a0 t240 true a2_1 a2_2 a2_3 a2_4 a2_5 a2_6) else (if (t254 != true) = true then (quipulaw09_RuleLogic.j1 kj8 a0 t240 true a2_1 a2_2 a2_3 a2_4 a2_5 a2_6) else (if t242 = true then (quipulaw09_RuleLogic.j1 kj8 a0 t240 (t256 != true) a2_1 a2_2 a2_3 a2_4 a2_5 a2_6) else (quipulaw09_RuleLogic.j1 kj8 a0 t240 (t256 != t244) a2_1 a2_2 a2_3 a2_4 a2_5 a2_6))))) else (if (t250 != false) = true then (quipulaw09_RuleLogic.j1 kj8 a0 t240 true a2_1 a2_2 a2_3 a2_4 a2_5 a2_6) else (if (t252 != t242) = true then (quipulaw09_RuleLogic.j1 kj8 a0 t240 true a2_1 a2_2 a2_3 a2_4 a2_5 a2_6) else (if t242 = true then (if (t254 != t244) = true then (quipulaw09_RuleLogic.j1 kj8 a0 t240 true a2_1 a2_2 a2_3 a2_4 a2_5 a2_6) else (quipulaw09_RuleLogic.j1 kj8 a0 t240 (t256 != t244) a2_1 a2_2 a2_3 a2_4 a2_5 a2_6)) else (if (t254 != false) = true then (quipulaw09_RuleLogic.j1 kj8 a0 t240 true a2_1 a2_2 a2_3 a2_4 a2_5 a2_6) else (quipulaw09_RuleLogic.j1 kj8 a0 t240 (t256 != t244) a2_1 a2_2 a2_3 a2_4 a2_5 a2_6)))))) = some true := by rw [if_pos rfl] at H; exact H
                                    clear H
                                    have H := H1
                                    clear H1
                                    by_cases c63 : t240 = true
                                    · subst c63
                                      have H1 : (if (t250 != t242) = true then (quipulaw09_RuleLogic.j1 kj8 a0 true true a2_1 a2_2 a2_3 a2_4 a2_5 a2_6) else (if (t252 != true) = true then (quipulaw09_RuleLogic.j1 kj8 a0 true true a2_1 a2_2 a2_3 a2_4 a2_5 a2_6) else (if (t254 != true) = true then (quipulaw09_RuleLogic.j1 kj8 a0 true true a2_1 a2_2 a2_3 a2_4 a2_5 a2_6) else (if t242 = true then (quipulaw09_RuleLogic.j1 kj8 a0 true (t256 != true) a2_1 a2_2 a2_3 a2_4 a2_5 a2_6) else (quipulaw09_RuleLogic.j1 kj8 a0 true (t256 != t244) a2_1 a2_2 a2_3 a2_4 a2_5 a2_6))))) = some true := by rw [if_pos rfl] at H; exact H
                                      clear H
                                      have H := H1
                                      clear H1
                                      by_cases c64 : (t250 != t242) = true
                                      · rw [if_pos c64] at H
                                        have c64b0 : (t250 != t242) = true := c64
                                        (try (have c64b1 : decide (t250 = t242) = false := by simpa using c64))
                                        (try (have c64b2 : (t250 == t242) = false := by simpa using c64))
                                        (try (have c64b3 : ¬ (t250 = t242) := by simpa using c64))
                                        clear c64
                                        (first | rw [c64b0] | rw [c64b1] | (simp only [i64_w, i32_w]; rw [c64b0]) | skip)
                                        exact absurd H (no_j1 _ _ _ _ _ _ _ _ _)
                                      · rw [if_neg c64] at H
                                        have c64b0 : (t250 != t242) = false := by simpa using c64
                                        (try (have c64b1 : decide (t250 = t242) = true := by simpa using c64))
                                        (try (have c64b2 : (t250 == t242) = true := by simpa using c64))
                                        clear c64
                                        (first | rw [c64b0] | rw [c64b1] | (simp only [i64_w, i32_w]; rw [c64b0]) | skip)
                                        by_cases c65 : (t252 != true) = true
                                        · rw [if_pos c65] at H
                                          have c65b0 : (t252 != true) = true := c65
                                          (try (have c65b1 : decide (t252 = true) = false := by simpa using c65))
                                          (try (have c65b2 : (t252 == true) = false := by simpa using c65))
                                          (try (have c65b3 : ¬ (t252 = true) := by simpa using c65))
                                          clear c65
                                          exact absurd H (no_j1 _ _ _ _ _ _ _ _ _)
                                        · rw [if_neg c65] at H
                                          have c65b0 : (t252 != true) = false := by simpa using c65
                                          (try (have c65b1 : decide (t252 = true) = true := by simpa using c65))
                                          (try (have c65b2 : (t252 == true) = true := by simpa using c65))
                                          clear c65
                                          by_cases c66 : (t254 != true) = true
                                          · rw [if_pos c66] at H
                                            have c66b0 : (t254 != true) = true := c66
                                            (try (have c66b1 : decide (t254 = true) = false := by simpa using c66))
                                            (try (have c66b2 : (t254 == true) = false := by simpa using c66))
                                            (try (have c66b3 : ¬ (t254 = true) := by simpa using c66))
                                            clear c66
                                            exact absurd H (no_j1 _ _ _ _ _ _ _ _ _)
                                          · rw [if_neg c66] at H
                                            have c66b0 : (t254 != true) = false := by simpa using c66
                                            (try (have c66b1 : decide (t254 = true) = true := by simpa using c66))
                                            (try (have c66b2 : (t254 == true) = true := by simpa using c66))
                                            clear c66
                                            by_cases c67 : t242 = true
                                            · subst c67
                                              have H1 : (quipulaw09_RuleLogic.j1 kj8 a0 true (t256 != true) a2_1 a2_2 a2_3 a2_4 a2_5 a2_6) = some true := by rw [if_pos rfl] at H; exact H
                                              clear H
                                              have H := H1
                                              clear H1
                                              have H' := Aside0.mk H
                                              clear H
                                              go_wp2
                                              go_meet
                                              case rel => exact ⟨_, ((t256 != true)), (by first | rfl | (simp; done) | (simp [*]; done)), H', ⟨by have := HJ8.out; first | exact Nat.le_refl _ | exact this | exact Nat.le_of_succ_le this | exact Nat.le_of_lt this | omega⟩, ⟨by (with_reducible repeat (first | refine blk_drewN ?_ _ | refine blk_drew ?_ | refine blk_alloc ?_ _)); exact BK238.out⟩, ⟨by (with_reducible repeat (first | refine blk_drewN ?_ _ | refine blk_drew ?_ | refine blk_alloc ?_ _)); exact BK239.out⟩, ⟨by repeat (first | (with_reducible first | exact HB.out | apply below_alloc | apply pw_below_drewN | apply below_drew1 | refine below_set ?_ GE238.out | refine below_set ?_ GE239.out) | exact HB.out)⟩⟩
                                            · replace c67 := Bool.eq_false_iff.mpr c67
                                              subst c67
                                              have H1 : (quipulaw09_RuleLogic.j1 kj8 a0 true (t256 != t244) a2_1 a2_2 a2_3 a2_4 a2_5 a2_6) = some true := by rw [if_neg (show ¬ (false = true) by decide)] at H; exact H
                                              clear H
                                              have H := H1
                                              clear H1
                                              have H' := Aside0.mk H
                                              clear H
                                              go_wp2
                                              go_meet
                                              case rel => exact ⟨_, ((t256 != t244)), (by first | rfl | (simp; done) | (simp [*]; done)), H', ⟨by have := HJ8.out; first | exact Nat.le_refl _ | exact this | exact Nat.le_of_succ_le this | exact Nat.le_of_lt this | omega⟩, ⟨by (with_reducible repeat (first | refine blk_drewN ?_ _ | refine blk_drew ?_ | refine blk_alloc ?_ _)); exact BK238.out⟩, ⟨by (with_reducible repeat (first | refine blk_drewN ?_ _ | refine blk_drew ?_ | refine blk_alloc ?_ _)); exact BK239.out⟩, ⟨by repeat (first | (with_reducible first | exact HB.out | apply below_alloc | apply pw_below_drewN | apply below_drew1 | refine below_set ?_ GE238.out | refine below_set ?_ GE239.out) | exact HB.out)⟩⟩
                                    · replace c63 := Bool.eq_false_iff.mpr c63
                                      subst c63
                                      have H1 : (if (t250 != false) = true then (quipulaw09_RuleLogic.j1 kj8 a0 false true a2_1 a2_2 a2_3 a2_4 a2_5 a2_6) else (if (t252 != t242) = true then (quipulaw09_RuleLogic.j1 kj8 a0 false true a2_1 a2_2 a2_3 a2_4 a2_5 a2_6) else (if t242 = true then (if (t254 != t244) = true then (quipulaw09_RuleLogic.j1 kj8 a0 false true a2_1 a2_2 a2_3 a2_4 a2_5 a2_6) else (quipulaw09_RuleLogic.j1 kj8 a0 false (t256 != t244) a2_1 a2_2 a2_3 a2_4 a2_5 a2_6)) else (if (t254 != false) = true then (quipulaw09_RuleLogic.j1 kj8 a0 false true a2_1 a2_2 a2_3 a2_4 a2_5 a2_6) else (quipulaw09_RuleLogic.j1 kj8 a0 false (t256 != t244) a2_1 a2_2 a2_3 a2_4 a2_5 a2_6))))) = some true := by rw [if_neg (show ¬ (false = true) by decide)] at H; exact H
                                      clear H
                                      have H := H1
                                      clear H1
                                      by_cases c68 : (t250 != false) = true
                                      · rw [if_pos c68] at H
                                        have c68b0 : (t250 != false) = true := c68
                                        (try (have c68b1 : decide (t250 = false) = false := by simpa using c68))
                                        (try (have c68b2 : (t250 == false) = false := by simpa using c68))
                                        (try (have c68b3 : ¬ (t250 = false) := by simpa using c68))
                                        clear c68
                                        exact absurd H (no_j1 _ _ _ _ _ _ _ _ _)
                                      · rw [if_neg c68] at H
                                        have c68b0 : (t250 != false) = false := by simpa using c68
                                        (try (have c68b1 : decide (t250 = false) = true := by simpa using c68))
                                        (try (have c68b2 : (t250 == false) = true := by simpa using c68))
                                        clear c68
                                        by_cases c69 : (t252 != t242) = true
                                        · rw [if_pos c69] at H
                                          have c69b0 : (t252 != t242) = true := c69
                                          (try (have c69b1 : decide (t252 = t242) = false := by simpa using c69))
                                          (try (have c69b2 : (t252 == t242) = false := by simpa using c69))
                                          (try (have c69b3 : ¬ (t252 = t242) := by simpa using c69))
                                          clear c69
                                          exact absurd H (no_j1 _ _ _ _ _ _ _ _ _)
                                        · rw [if_neg c69] at H
                                          have c69b0 : (t252 != t242) = false := by simpa using c69
                                          (try (have c69b1 : decide (t252 = t242) = true := by simpa using c69))
                                          (try (have c69b2 : (t252 == t242) = true := by simpa using c69))
                                          clear c69
                                          by_cases c70 : t242 = true
                                          · subst c70
                                            have H1 : (if (t254 != t244) = true then (quipulaw09_RuleLogic.j1 kj8 a0 false true a2_1 a2_2 a2_3 a2_4 a2_5 a2_6) else (quipulaw09_RuleLogic.j1 kj8 a0 false (t256 != t244) a2_1 a2_2 a2_3 a2_4 a2_5 a2_6)) = some true := by rw [if_pos rfl] at H; exact H
                                            clear H
                                            have H := H1
                                            clear H1
                                            by_cases c71 : (t254 != t244) = true
                                            · rw [if_pos c71] at H
                                              have c71b0 : (t254 != t244) = true := c71
                                              (try (have c71b1 : decide (t254 = t244) = false := by simpa using c71))
                                              (try (have c71b2 : (t254 == t244) = false := by simpa using c71))
                                              (try (have c71b3 : ¬ (t254 = t244) := by simpa using c71))
                                              clear c71
                                              exact absurd H (no_j1 _ _ _ _ _ _ _ _ _)
                                            · rw [if_neg c71] at H
                                              have c71b0 : (t254 != t244) = false := by simpa using c71
                                              (try (have c71b1 : decide (t254 = t244) = true := by simpa using c71))
                                              (try (have c71b2 : (t254 == t244) = true := by simpa using c71))
                                              clear c71
                                              have H' := Aside0.mk H
                                              clear H
                                              go_wp2
                                              go_meet
                                              case rel => exact ⟨_, ((t256 != t244)), (by first | rfl | (simp; done) | (simp [*]; done)), H', ⟨by have := HJ8.out; first | exact Nat.le_refl _ | exact this | exact Nat.le_of_succ_le this | exact Nat.le_of_lt this | omega⟩, ⟨by (with_reducible repeat (first | refine blk_drewN ?_ _ | refine blk_drew ?_ | refine blk_alloc ?_ _)); exact BK238.out⟩, ⟨by (with_reducible repeat (first | refine blk_drewN ?_ _ | refine blk_drew ?_ | refine blk_alloc ?_ _)); exact BK239.out⟩, ⟨by repeat (first | (with_reducible first | exact HB.out | apply below_alloc | apply pw_below_drewN | apply below_drew1 | refine below_set ?_ GE238.out | refine below_set ?_ GE239.out) | exact HB.out)⟩⟩
                                          · replace c70 := Bool.eq_false_iff.mpr c70
                                            subst c70
                                            have H1 : (if (t254 != false) = true then (quipulaw09_RuleLogic.j1 kj8 a0 false true a2_1 a2_2 a2_3 a2_4 a2_5 a2_6) else (quipulaw09_RuleLogic.j1 kj8 a0 false (t256 != t244) a2_1 a2_2 a2_3 a2_4 a2_5 a2_6)) = some true := by rw [if_neg (show ¬ (false = true) by decide)] at H; exact H
                                            clear H
                                            have H := H1
                                            clear H1
                                            by_cases c72 : (t254 != false) = true
                                            · rw [if_pos c72] at H
                                              have c72b0 : (t254 != false) = true := c72
                                              (try (have c72b1 : decide (t254 = false) = false := by simpa using c72))
                                              (try (have c72b2 : (t254 == false) = false := by simpa using c72))
                                              (try (have c72b3 : ¬ (t254 = false) := by simpa using c72))
                                              clear c72
                                              exact absurd H (no_j1 _ _ _ _ _ _ _ _ _)
                                            · rw [if_neg c72] at H
                                              have c72b0 : (t254 != false) = false := by simpa using c72
                                              (try (have c72b1 : decide (t254 = false) = true := by simpa using c72))
                                              (try (have c72b2 : (t254 == false) = true := by simpa using c72))
                                              clear c72
                                              have H' := Aside0.mk H
                                              clear H
                                              go_wp2
                                              go_meet
                                              case rel => exact ⟨_, ((t256 != t244)), (by first | rfl | (simp; done) | (simp [*]; done)), H', ⟨by have := HJ8.out; first | exact Nat.le_refl _ | exact this | exact Nat.le_of_succ_le this | exact Nat.le_of_lt this | omega⟩, ⟨by (with_reducible repeat (first | refine blk_drewN ?_ _ | refine blk_drew ?_ | refine blk_alloc ?_ _)); exact BK238.out⟩, ⟨by (with_reducible repeat (first | refine blk_drewN ?_ _ | refine blk_drew ?_ | refine blk_alloc ?_ _)); exact BK239.out⟩, ⟨by repeat (first | (with_reducible first | exact HB.out | apply below_alloc | apply pw_below_drewN | apply below_drew1 | refine below_set ?_ GE238.out | refine below_set ?_ GE239.out) | exact HB.out)⟩⟩
                                  · replace c62 := Bool.eq_false_iff.mpr c62
                                    subst c62
                                    have H1 : (quipulaw09_RuleLogic.j1 kj8 a0 t240 true a2_1 a2_2 a2_3 a2_4 a2_5 a2_6) = some true := by rw [if_neg (show ¬ (false = true) by decide)] at H; exact H
                                    clear H
                                    have H := H1
                                    clear H1
                                    exact absurd H (no_j1 _ _ _ _ _ _ _ _ _)
                                · replace c61 := Bool.eq_false_iff.mpr c61
                                  subst c61
                                  have H1 : (quipulaw09_RuleLogic.j1 kj8 a0 t240 true a2_1 a2_2 a2_3 a2_4 a2_5 a2_6) = some true := by rw [if_neg (show ¬ (false = true) by decide)] at H; exact H
                                  clear H
                                  have H := H1
                                  clear H1
                                  exact absurd H (no_j1 _ _ _ _ _ _ _ _ _)
                              · replace c60 := Bool.eq_false_iff.mpr c60
                                subst c60
                                have H1 : (quipulaw09_RuleLogic.j1 kj8 a0 t240 true a2_1 a2_2 a2_3 a2_4 a2_5 a2_6) = some true := by rw [if_neg (show ¬ (false = true) by decide)] at H; exact H
                                clear H
                                have H := H1
                                clear H1
                                exact absurd H (no_j1 _ _ _ _ _ _ _ _ _)
                            · replace c59 := Bool.eq_false_iff.mpr c59
                              subst c59
                              have H1 : (quipulaw09_RuleLogic.j1 kj8 a0 t240 true a2_1 a2_2 a2_3 a2_4 a2_5 a2_6) = some true := by rw [if_neg (show ¬ (false = true) by decide)] at H; exact H
                              clear H
                              have H := H1
                              clear H1
                              exact absurd H (no_j1 _ _ _ _ _ _ _ _ _)
                          case rest =>
                            clear HC49
                            try clear c1
                            try clear c2
                            try clear p2
                            try clear c3
                            try clear c4
                            try clear c5
                            try clear c6
                            try clear p6
                            try clear c7
                            try clear c8
                            try clear c10
                            try clear c13
                            try clear c19
                            try clear c27
                            try clear c28
                            try clear c29
                            try clear c31
                            try clear c33
                            try clear c35
                            try clear c36
                            try clear c37
                            try clear c37b0
                            try clear c37b1
                            try clear c37b2
                            try clear c38
                            try clear c38b0
                            try clear c38b1
                            try clear c38b2
                            try clear c40
                            try clear c40b0
                            try clear c40b1
                            try clear c40b2
                            try clear c41
                            try clear c41b0
                            try clear c41b1
                            try clear c41b2
                            try clear c43
                            try clear c43b0
                            try clear c43b1
                            try clear c43b2
                            try clear c44
                            try clear c44b0
                            try clear c44b1
                            try clear c44b2
                            try clear c46
                            try clear c46b0
                            try clear c46b1
                            try clear c46b2
                            try clear c47
                            try clear c47b0
                            try clear c47b1
                            try clear c47b2
                            try clear c50
                            try clear c59
                            try clear c60
                            try clear c61
                            try clear c62
                            try clear c63
                            try clear c64
                            try clear c64b0
                            try clear c64b1
                            try clear c64b2
                            try clear p64
                            try clear c65
                            try clear c65b0
                            try clear c65b1
                            try clear c65b2
                            try clear c66
                            try clear c66b0
                            try clear c66b1
                            try clear c66b2
                            try clear c67
                            try clear c68
                            try clear c68b0
                            try clear c68b1
                            try clear c68b2
                            try clear c69
                            try clear c69b0
                            try clear c69b1
                            try clear c69b2
                            try clear c70
                            try clear c71
                            try clear c71b0
                            try clear c71b1
                            try clear c71b2
                            try clear c72
                            try clear c72b0
                            try clear c72b1
                            try clear c72b2
                            try clear hcz20_0
                            try clear hcz20_1
                            try clear hcz20_2
                            try clear hcz20_3
                            try clear hcz20_4
                            try clear hcz20_5
                            try clear hcz22_0
                            try clear hcz22_1
                            try clear hcz22_2
                            try clear hcz22_3
                            try clear hcz22_4
                            try clear hcz22_5
                            try clear hcz24_0
                            try clear hcz24_1
                            try clear hcz24_2
                            try clear hcz24_3
                            try clear hcz24_4
                            try clear hcz24_5
                            try clear hcz51_0
                            try clear hcz51_1
                            try clear hcz51_2
                            try clear hcz51_3
                            try clear hcz51_4
                            try clear hcz51_5
                            try clear hcz53_0
                            try clear hcz53_1
                            try clear hcz53_2
                            try clear hcz53_3
                            try clear hcz53_4
                            try clear hcz53_5
                            try clear hcz55_0
                            try clear hcz55_1
                            try clear hcz55_2
                            try clear hcz55_3
                            try clear hcz55_4
                            try clear hcz55_5
                            try clear hcz57_0
                            try clear hcz57_1
                            try clear hcz57_2
                            try clear hcz57_3
                            try clear hcz57_4
                            try clear hcz57_5
                            try clear hfz20_0
                            try clear hfz20_1
                            try clear hfz20_2
                            try clear hfz20_3
                            try clear hfz20_4
                            try clear hfz20_5
                            try clear hfz22_0
                            try clear hfz22_1
                            try clear hfz22_2
                            try clear hfz22_3
                            try clear hfz22_4
                            try clear hfz22_5
                            try clear hfz24_0
                            try clear hfz24_1
                            try clear hfz24_2
                            try clear hfz24_3
                            try clear hfz24_4
                            try clear hfz24_5
                            try clear hfz51_0
                            try clear hfz51_1
                            try clear hfz51_2
                            try clear hfz51_3
                            try clear hfz51_4
                            try clear hfz51_5
                            try clear hfz53_0
                            try clear hfz53_1
                            try clear hfz53_2
                            try clear hfz53_3
                            try clear hfz53_4
                            try clear hfz53_5
                            try clear hfz55_0
                            try clear hfz55_1
                            try clear hfz55_2
                            try clear hfz55_3
                            try clear hfz55_4
                            try clear hfz55_5
                            try clear hfz57_0
                            try clear hfz57_1
                            try clear hfz57_2
                            try clear hfz57_3
                            try clear hfz57_4
                            try clear hfz57_5
                            try clear p2
                            try clear p6
                            obtain ⟨kq, x178_48, rfl, HA, HJ48, BK238, BK239, HB⟩ := hcut
                            cases kq with
                            | zero => exact absurd HA.out (by simp [quipulaw09_RuleLogic.j1])
                            | succ kj48 =>
                              have H := HA.out
                              clear HA
                              simp only [quipulaw09_RuleLogic.j1] at H
                              by_cases c73 : x178_48 = true
                              · subst c73
                                have H1 : (some false) = some true := by rw [if_pos rfl] at H; exact H
                                clear H
                                have H := H1
                                clear H1
                                exact absurd H (by simp)
                              · replace c73 := Bool.eq_false_iff.mpr c73
                                subst c73
                                have H1 : ((quipulaw09_other.f kj48 a0).bind fun t258 => ((quipulaw09_alone.f t258 a2_1 a2_2 a2_3 a2_4 a2_5 a2_6).bind fun bt259 => (if bt259.2 = true then (some (bt259.1 != t240)) else (some false)))) = some true := by rw [if_neg (show ¬ (false = true) by decide)] at H; exact H
                                clear H
                                have H := H1
                                clear H1
                                replace H := Option.bind_eq_some_iff.mp H
                                obtain ⟨t258, A740, H⟩ := H
                                replace H : ((quipulaw09_alone.f t258 a2_1 a2_2 a2_3 a2_4 a2_5 a2_6).bind fun bt259 => (if bt259.2 = true then (some (bt259.1 != t240)) else (some false))) = some true := H
                                have A74 := Aside0.mk A740
                                clear A740
                                replace H := Option.bind_eq_some_iff.mp H
                                obtain ⟨⟨t259, t260⟩, A750, H⟩ := H
                                replace H : (if t260 = true then (some (t259 != t240)) else (some false)) = some true := H
                                have A75 := Aside0.mk A750
                                clear A750
                                by_cases c76 : t260 = true
                                · subst c76
                                  have H1 : (some (t259 != t240)) = some true := by rw [if_pos rfl] at H; exact H
                                  clear H
                                  have H := H1
                                  clear H1
                                  have HT := Option.some.inj H
                                  try go_wp2
                                  have n0_ := Aside0.mk (blk_drew BK238.out)
                                  have n1_ := Aside0.mk (blk_drew BK239.out)
                                  have n2_ := Aside0.mk (below_drew1 HB.out)
                                  clear BK238
                                  clear BK239
                                  clear HB
                                  have BK238 := n0_
                                  have BK239 := n1_
                                  have HB := n2_
                                  clear n0_ n1_ n2_
                                  refine start_ (n := 9) (S := fun w' => w'.cell? ⟨gb239, 0, none⟩ = some (.string a2_1) ∧ w'.cell? ⟨gb239, 1, none⟩ = some (.int .i64 a2_2) ∧ w'.cell? ⟨gb239, 2, none⟩ = some (.int .i64 a2_3) ∧ w'.cell? ⟨gb239, 3, none⟩ = some (.string a2_4) ∧ w'.cell? ⟨gb239, 4, none⟩ = some (.string a2_5) ∧ w'.cell? ⟨gb239, 5, none⟩ = some (.int .i64 a2_6)) (ds := []) #[false, false, false, false, false, false, false, false, false] (by kernel_rfl) rfl rfl ⟨(blk_cell BK239.out 0).trans rfl, (blk_cell BK239.out 1).trans rfl, (blk_cell BK239.out 2).trans rfl, (blk_cell BK239.out 3).trans rfl, (blk_cell BK239.out 4).trans rfl, (blk_cell BK239.out 5).trans rfl⟩ (fun hHeld => ?_); refine with_tabW quipulaw09_RuleLogic.tab15 quipulaw09_RuleLogic.bits15 (fun HT_ HW_ => ?_)
                                  generalize wc.drew = w77 at BK238 BK239 HB hHeld ⊢
                                  refine pure_ (i := 0) (N := some 180) (v := ?_) (a' := ?_) #[true, false, false, false, false, false, false, false, false] rfl rfl (any_of HT_.out (by kernel_rfl)) (fun _ _ _ h => h) (Or.inl ⟨by rfl, ?_⟩) ?_ ?_
                                  rotate_left
                                  · intro w'
                                    go_simp
                                    with_reducible rfl
                                  rotate_left
                                  · simp only [Act.put, List.setIfInBounds_toArray, List.set_cons_zero, List.set_cons_succ, i64_w, i32_w]
                                    rfl
                                  refine take_ (i := 2) (N := some 182) (v := ?_) (a' := ?_) #[true, false, true, false, false, false, false, false, false] rfl rfl (take_ofW HT_.out HW_.out (by kernel_rfl)) (fun _ _ _ h => h) (Or.inl ⟨by rfl, ?_⟩) hHeld ?_ ?_
                                  rotate_left
                                  · rintro w' ⟨s0, s1, s2, s3, s4, s5⟩
                                    go_simp
                                    with_reducible rfl
                                  rotate_left
                                  · simp only [Act.put, List.setIfInBounds_toArray, List.set_cons_zero, List.set_cons_succ, i64_w, i32_w]
                                    rfl
                                  refine one_ (i := 1) (N := some 181) #[true, true, true, false, false, false, false, false, false] rfl rfl (one_of HT_.out (by kernel_rfl)) (by decide) (fun K hK => ?_)
                                  refine goes_ Tryd.func15 (by kernel_rfl) rfl #[.string a0] (by rfl) rfl rfl (by (try simp only [List.map_toArray, List.map_cons, List.map_nil]); first | done | rfl | (simp only [List.length_drop, List.length_take]; rfl)) ?_
                                  with_reducible refine (quipulaw09_other.calls kj48 a0 t258 _ A74.out).mono ?_
                                  rintro e w' ⟨rfl, ⟨nd, rfl⟩⟩
                                  refine ⟨_, rfl, ?_⟩
                                  refine hK.out _ _ ⟨(blk_cell BK239.out 0).trans rfl, (blk_cell BK239.out 1).trans rfl, (blk_cell BK239.out 2).trans rfl, (blk_cell BK239.out 3).trans rfl, (blk_cell BK239.out 4).trans rfl, (blk_cell BK239.out 5).trans rfl⟩ (fun hHeld => ?_)
                                  clear hK K
                                  refine norm_ (a' := ?_) ?_ ?_
                                  rotate_left
                                  · show Act.put _ (some 181) _ = _
                                    simp only [Act.put, List.setIfInBounds_toArray, List.set_cons_zero, List.set_cons_succ, i64_w, i32_w]
                                    rfl
                                  refine one_ (i := 3) (N := some 183) #[true, true, true, true, false, false, false, false, false] rfl rfl (one_of HT_.out (by kernel_rfl)) (by decide) (fun K hK => ?_)
                                  refine goes_ Tryd.func13 (by kernel_rfl) rfl #[.string t258, .agg #[.string a2_1, .int .i64 a2_2, .int .i64 a2_3, .string a2_4, .string a2_5, .int .i64 a2_6]] (by rfl) rfl rfl (by (try simp only [List.map_toArray, List.map_cons, List.map_nil]); first | done | rfl | (simp only [List.length_drop, List.length_take]; rfl)) ?_
                                  with_reducible refine (quipulaw09_alone.calls t258 a2_1 a2_2 a2_3 a2_4 a2_5 a2_6 t259 true _ (Gd.below HG.out (by repeat (first | (with_reducible first | exact HB.out | apply below_alloc | apply pw_below_drewN | apply below_drew1 | refine below_set ?_ GE238.out | refine below_set ?_ GE239.out) | exact HB.out))) A75.out).mono ?_
                                  rintro e w78 ⟨rfl, hb⟩
                                  refine ⟨_, rfl, ?_⟩
                                  have n0_ := Aside0.mk (blk_below (g := gb238) (o := .cells #[.string a2_0, .string a2_1, .int .i64 a2_2, .int .i64 a2_3, .string a2_4, .string a2_5, .int .i64 a2_6] 31 (0, 0)) (by (with_reducible repeat (first | refine blk_drewN ?_ _ | refine blk_drew ?_ | refine blk_alloc ?_ _)); exact BK238.out) hb)
                                  have n1_ := Aside0.mk (blk_below (g := gb239) (o := .cells #[.string a2_1, .int .i64 a2_2, .int .i64 a2_3, .string a2_4, .string a2_5, .int .i64 a2_6] 29 (0, 0)) (by (with_reducible repeat (first | refine blk_drewN ?_ _ | refine blk_drew ?_ | refine blk_alloc ?_ _)); exact BK239.out) hb)
                                  have n2_ := Aside0.mk (below_step (by repeat (first | (with_reducible first | exact HB.out | apply below_alloc | apply pw_below_drewN | apply below_drew1 | refine below_set ?_ GE238.out | refine below_set ?_ GE239.out) | exact HB.out)) hb)
                                  clear BK238
                                  clear BK239
                                  clear HB
                                  have BK238 := n0_
                                  have BK239 := n1_
                                  have HB := n2_
                                  clear n0_ n1_ n2_
                                  (try clear hb)
                                  (try clear hb2)
                                  (try clear hk)
                                  (try clear hi)
                                  refine hK.out _ _ ⟨(blk_cell BK239.out 0).trans rfl, (blk_cell BK239.out 1).trans rfl, (blk_cell BK239.out 2).trans rfl, (blk_cell BK239.out 3).trans rfl, (blk_cell BK239.out 4).trans rfl, (blk_cell BK239.out 5).trans rfl⟩ (fun hHeld => ?_)
                                  clear hK K
                                  refine norm_ (a' := ?_) ?_ ?_
                                  rotate_left
                                  · show Act.put _ (some 183) _ = _
                                    simp only [Act.put, List.setIfInBounds_toArray, List.set_cons_zero, List.set_cons_succ, i64_w, i32_w]
                                    rfl
                                  refine pure_ (i := 4) (N := some 179) (v := ?_) (a' := ?_) #[true, true, true, true, true, false, false, false, false] rfl rfl (any_of HT_.out (by kernel_rfl)) (fun _ _ _ h => h) (Or.inl ⟨by rfl, ?_⟩) ?_ ?_
                                  rotate_left
                                  · intro w'
                                    go_simp
                                    with_reducible rfl
                                  rotate_left
                                  · simp only [Act.put, List.setIfInBounds_toArray, List.set_cons_zero, List.set_cons_succ, i64_w, i32_w]
                                    rfl
                                  refine pure_ (i := 5) (N := some 184) (v := ?_) (a' := ?_) #[true, true, true, true, true, true, false, false, false] rfl rfl (any_of HT_.out (by kernel_rfl)) (fun _ _ _ h => h) (Or.inl ⟨by rfl, ?_⟩) ?_ ?_
                                  rotate_left
                                  · intro w'
                                    go_simp
                                    with_reducible rfl
                                  rotate_left
                                  · simp only [Act.put, List.setIfInBounds_toArray, List.set_cons_zero, List.set_cons_succ, i64_w, i32_w]
                                    rfl
                                  refine pure_ (i := 6) (N := some 185) (v := ?_) (a' := ?_) #[true, true, true, true, true, true, true, false, false] rfl rfl (any_of HT_.out (by kernel_rfl)) (fun _ _ _ h => h) (Or.inl ⟨by rfl, ?_⟩) ?_ ?_
                                  rotate_left
                                  · intro w'
                                    go_simp
                                    with_reducible rfl
                                  rotate_left
                                  · simp only [Act.put, List.setIfInBounds_toArray, List.set_cons_zero, List.set_cons_succ, i64_w, i32_w]
                                    rfl
                                  refine pure_ (i := 7) (N := some 23) (v := ?_) (a' := ?_) #[true, true, true, true, true, true, true, true, false] rfl rfl (any_of HT_.out (by kernel_rfl)) (fun _ _ _ h => h) (Or.inl ⟨by rfl, ?_⟩) ?_ ?_
                                  rotate_left
                                  · intro w'
                                    go_simp
                                    with_reducible rfl
                                  rotate_left
                                  · simp only [Act.put, List.setIfInBounds_toArray, List.set_cons_zero, List.set_cons_succ, i64_w, i32_w]
                                    rfl
                                  refine pure_ (i := 8) (N := some 24) (v := ?_) (a' := ?_) #[true, true, true, true, true, true, true, true, true] rfl rfl (any_of HT_.out (by kernel_rfl)) (fun _ _ _ h => h) (Or.inl ⟨by rfl, ?_⟩) ?_ ?_
                                  rotate_left
                                  · intro w'
                                    go_simp
                                    with_reducible rfl
                                  rotate_left
                                  · simp only [Act.put, List.setIfInBounds_toArray, List.set_cons_zero, List.set_cons_succ, i64_w, i32_w]
                                    rfl
                                  refine done_ (done_of HT_.out (by kernel_rfl)) ?_
                                  try go_wp2
                                  go_ret
                                  exact ⟨by first | rfl | (cases t259 <;> cases t240 <;> first | rfl | exact absurd HT (by decide)) | (simp [errW_none]; done) | (simp [errW_none, errW_some] <;> rfl) | (simp [*, errW_none, errW_some] <;> rfl) | (simp only [ne_nil_b]; first | done | rfl) | (simp [ne_nil_b]; done), by repeat (first | (with_reducible first | exact HB.out | apply below_alloc | apply pw_below_drewN | apply below_drew1 | refine below_set ?_ GE238.out | refine below_set ?_ GE239.out) | exact HB.out)⟩
                                · replace c76 := Bool.eq_false_iff.mpr c76
                                  subst c76
                                  have H1 : (some false) = some true := by rw [if_neg (show ¬ (false = true) by decide)] at H; exact H
                                  clear H
                                  have H := H1
                                  clear H1
                                  exact absurd H (by simp)
                        · rw [if_neg c47] at H
                          exact absurd H (by simp)
                      · rw [if_neg c46] at H
                        exact absurd H (by simp)
                    · rw [if_neg c44] at H
                      exact absurd H (by simp)
                  · rw [if_neg c43] at H
                    exact absurd H (by simp)
                · rw [if_neg c41] at H
                  exact absurd H (by simp)
              · rw [if_neg c40] at H
                exact absurd H (by simp)
            · rw [if_neg c38] at H
              exact absurd H (by simp)
          · rw [if_neg c37] at H
            exact absurd H (by simp)
  · replace c8 := Bool.eq_false_iff.mpr c8
    subst c8
    have H1 : (some false) = some true := by rw [if_neg (show ¬ (false = true) by decide)] at H; exact H
    clear H
    have H := H1
    clear H1
    exact absurd H (by simp)
end Go.Proofs.YtnkggincckdoiaaDoor.Q
