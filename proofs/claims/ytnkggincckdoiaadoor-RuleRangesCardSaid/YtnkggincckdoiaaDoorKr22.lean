import Derived.Test.YtnkggincckdoiaaDoorKr21
namespace Go.Proofs.YtnkggincckdoiaaDoor.Q
open Go.RowKit Go.Shelf Go.Proofs.YtnkggincckdoiaaDoorW.PrintWords Go.Proofs.YtnkggincckdoiaaDoorW.PrintLast Go.Proofs.YtnkggincckdoiaaDoorW.PrintMore
set_option linter.unusedVariables false
set_option linter.unusedSimpArgs false
instance (n : Int) : Decidable (i64 n) := by unfold i64; infer_instance
instance (x : Opr) : Decidable (OIn x) :=
  decidable_of_iff (i64 x.v ∧ i64 x.w ∧ i64 x.e ∧ x.i.size ≤ 140737488355328 ∧ x.f.size ≤ 140737488355328 ∧ x.t.size ≤ 140737488355328)
    ⟨fun ⟨a, b, c, d, e, f⟩ => ⟨a, b, c, d, e, f⟩, fun h => ⟨h.v, h.w, h.e, h.i1, h.f1, h.t1⟩⟩
def rule_Pick.f (a0 : ByteArray) (a1_0 : ByteArray) (a1_1 : Int) (a1_2 : Int) (a1_3 : ByteArray) (a1_4 : ByteArray) (a1_5 : Int) : Option (Int × Int) :=
  if OIn ⟨a1_0, a1_1, a1_2, a1_3, a1_4, a1_5⟩ then some (pickF a0 ⟨a1_0, a1_1, a1_2, a1_3, a1_4, a1_5⟩) else none
theorem rule_Pick.calls (a0 : ByteArray) (a1_0 : ByteArray) (a1_1 : Int) (a1_2 : Int) (a1_3 : ByteArray) (a1_4 : ByteArray) (a1_5 : Int) (r1 r2 : Int) (w : World) (hG : Gd w) (h : rule_Pick.f a0 a1_0 a1_1 a1_2 a1_3 a1_4 a1_5 = some (r1, r2)) :
    Calls Tryd.prog 16 #[.string a0, .agg #[.string a1_0, .int .i64 a1_1, .int .i64 a1_2, .string a1_3, .string a1_4, .int .i64 a1_5]] w fun e w' => e = .returned (.tuple #[.int .i64 r1, .int .i64 r2]) ∧ Below w.heap.size w w' := by
  unfold rule_Pick.f at h
  by_cases hx : OIn ⟨a1_0, a1_1, a1_2, a1_3, a1_4, a1_5⟩
  · rw [if_pos hx] at h
    have e := Option.some.inj h
    have := pick_in a0 _ w hG hx
    rw [e] at this
    exact this
  · rw [if_neg hx] at h; cases h
def rule_Check.f (a0 : ByteArray) : Option Int := some (pickR a0 opr0).2
theorem rule_Check.calls (a0 : ByteArray) (r : Int) (w : World) (hG : Gd w) (h : rule_Check.f a0 = some r) :
    Calls Tryd.prog 20 #[.string a0] w fun e w' => e = .returned (.int .i64 r) ∧ Below w.heap.size w w' := by
  obtain rfl := Option.some.inj h
  exact check_in a0 w hG
def rule_PickRange.f (a0 : ByteArray) (a1 a2 : Int) : Option (Int × Int) := some (rangeF a0 a1 a2)
theorem rule_PickRange.calls (a0 : ByteArray) (a1 a2 : Int) (r1 r2 : Int) (w : World) (h : rule_PickRange.f a0 a1 a2 = some (r1, r2)) :
    Calls Tryd.prog 8 #[.string a0, .int .i64 a1, .int .i64 a2] w fun e w' => e = .returned (.tuple #[.int .i64 r1, .int .i64 r2]) ∧ Below w.heap.size w w' := by
  have e := Option.some.inj h
  have := pickrange_in a0 a1 a2 w
  rw [e] at this
  exact this
def rule_CheckRanges.f (a0 : ByteArray) : Option Int := some (entE a0)
theorem rule_CheckRanges.calls (a0 : ByteArray) (r : Int) (w : World) (h : rule_CheckRanges.f a0 = some r) :
    Calls Tryd.prog 11 #[.string a0] w fun e w' => e = .returned (.int .i64 r) ∧ Below w.heap.size w w' := by
  obtain rfl := Option.some.inj h
  exact checkranges_in a0 w
end Go.Proofs.YtnkggincckdoiaaDoor.Q
