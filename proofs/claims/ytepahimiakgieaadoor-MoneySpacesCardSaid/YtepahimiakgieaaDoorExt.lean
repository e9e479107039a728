import Derived.Test.YtepahimiakgieaaDoorLib
import Derived.Test.YtepahimiakgieaaDoorQ0
import Derived.Lib.AppendIntMem
import Derived.Lib.SmallJoins
namespace Go.Proofs.YtepahimiakgieaaDoor.Q
open Go.RowKit Go.Proofs.YtepahimiakgieaaDoorW.PrintWords Go.Proofs.YtepahimiakgieaaDoorW.PrintMore
set_option linter.unusedVariables false
set_option linter.unusedSimpArgs false

/-! ### What the library's functions tell, as the printed ones are told -/
theorem ne_nil_b {α : Type} [BEq α] (l : List α) : (l != []) = !l.isEmpty := by cases l <;> rfl
def mkS (l : List UInt8) : ByteArray := ⟨l.toArray⟩
/-- The variables that the library reads: they lie as they were laid. -/
def Gd (w : World) : Prop := (∃ m, w.cell? ⟨0, 0, none⟩ = some (.int .i64 m)) ∧ Lib.TabIs Tryd.prog w "internal/strconv.uint64pow10" .u64 Lib.pow10Tab
theorem Gd.below {w W : World} (h : Gd w) (hb : Below w.heap.size w W) : Gd W := by
  obtain ⟨⟨m, hm⟩, ht⟩ := h
  refine ⟨⟨m, (hb.cell (p := ⟨0, 0, none⟩) (World.block_lt_of_cell? w ⟨0, 0, none⟩ hm)).trans hm⟩, ?_⟩
  obtain ⟨g, hg⟩ : ∃ g, Tryd.prog.globalNamed "internal/strconv.uint64pow10" = some g := Option.isSome_iff_exists.1 (by kernel_rfl)
  exact Go.Joins.tab_stays hg ht hb (Nat.le_refl _)
def ascB (c : ByteArray) : Bool := c.data.toList.all (fun b => decide (b.toNat < 128)) && decide (c.size < 4294967281)
theorem ascB_1 {c : ByteArray} (h : ascB c = true) : ∀ (j : Nat) b, c.data.toList[j]? = some b → b.toNat < 128 := by
  unfold ascB at h
  rw [Bool.and_eq_true] at h
  exact fun _ b hb => of_decide_eq_true (List.all_eq_true.1 h.1 b (List.mem_of_getElem? hb))
theorem ascB_2 {c : ByteArray} (h : ascB c = true) : c.size < 4294967281 := by
  unfold ascB at h
  rw [Bool.and_eq_true] at h
  exact of_decide_eq_true h.2
def strings_TrimRight.f (s c : ByteArray) : Option ByteArray := if ascB c = true then (if s.size ≤ 9223372036854775807 then some (mkS (Lib.trimRightS s.data.toList c.data.toList)) else none) else none
theorem strings_TrimRight.calls (a0 a1 r : ByteArray) (w : World) (h : strings_TrimRight.f a0 a1 = some r) :
    Calls Tryd.prog 25 #[.string a0, .string a1] w fun e w' => e = .returned (.string r) ∧ Below w.heap.size w w' := by
  unfold strings_TrimRight.f at h
  by_cases c1 : ascB a1 = true
  · rw [if_pos c1] at h
    by_cases c2 : a0.size ≤ 9223372036854775807
    · rw [if_pos c2] at h
      obtain rfl := Option.some.inj h
      exact Any.strings_TrimRight_laid Tryd.lays162 (by kernel_rfl) a0 a1 w c2 (ascB_2 c1) (ascB_1 c1)
    · rw [if_neg c2] at h; cases h
  · rw [if_neg c1] at h; cases h
def strconv_Itoa.f (n : Int) : Option ByteArray := if -9223372036854775808 ≤ n then (if n ≤ 9223372036854775807 then some (mkS (Lib.itoa n)) else none) else none
theorem strconv_Itoa.calls (a0 : Int) (r : ByteArray) (w : World) (hG : Gd w) (h : strconv_Itoa.f a0 = some r) :
    Calls Tryd.prog 24 #[.int .i64 a0] w fun e w' => e = .returned (.string r) ∧ Below w.heap.size w w' := by
  unfold strconv_Itoa.f at h
  by_cases c1 : -9223372036854775808 ≤ a0
  · rw [if_pos c1] at h
    by_cases c2 : a0 ≤ 9223372036854775807
    · rw [if_pos c2] at h
      obtain rfl := Option.some.inj h
      refine (Tryd.strconv_Itoa a0 c1 c2 w hG.2).mono ?_
      rintro e w' ⟨he, k, os, rfl⟩
      exact ⟨he, Lib.below_grow _ _ (Nat.le_refl _) _ _⟩
    · rw [if_neg c2] at h; cases h
  · rw [if_neg c1] at h; cases h
def strings_Cut.f (s sep : ByteArray) : Option (ByteArray × ByteArray × Bool) := if s.size < 4294967281 then some (mkS (Lib.cut s.data.toList sep.data.toList).1, mkS (Lib.cut s.data.toList sep.data.toList).2.1, (Lib.cut s.data.toList sep.data.toList).2.2) else none
theorem strings_Cut.calls (a0 a1 r1 r2 : ByteArray) (r3 : Bool) (w : World) (hG : Gd w) (h : strings_Cut.f a0 a1 = some (r1, r2, r3)) :
    Calls Tryd.prog 26 #[.string a0, .string a1] w fun e w' => e = .returned (.tuple #[.string r1, .string r2, .bool r3]) ∧ Below w.heap.size w w' := by
  unfold strings_Cut.f at h
  by_cases c1 : a0.size < 4294967281
  · rw [if_pos c1] at h
    have h1 := Option.some.inj h
    injection h1 with h1 h2
    injection h2 with h2 h3
    subst h1 h2 h3
    obtain ⟨⟨m, hm⟩, _⟩ := hG
    refine (Tryd.strings_Cut a0 a1 m w c1 hm).mono ?_
    rintro e w' ⟨he, n, rfl⟩
    exact ⟨he, pw_below_drewN (Below.refl _ _) n⟩
  · rw [if_neg c1] at h; cases h
end Go.Proofs.YtepahimiakgieaaDoor.Q
