import Derived.Test.YtnkggincckdoiaaDoorKr2
import Derived.Tactics2
import Derived.Defers
import Derived.Recover
import Derived.Laws.Pointers
namespace Go.Proofs.YtnkggincckdoiaaDoor.Q
open Go.RowKit Go.Proofs.YtnkggincckdoiaaDoorW.PrintWords Go.Proofs.YtnkggincckdoiaaDoorW.PrintLast Go.Proofs.YtnkggincckdoiaaDoorW.PrintMore
set_option linter.unusedVariables false
set_option linter.unusedSimpArgs false
set_option maxHeartbeats 2000000 in
set_option maxRecDepth 100000 in
theorem caught_panicking (g : Nat) (x : Int) (w : World) (hm : w.heap[g]? = some (.cells #[.int .i64 x] 22 (0, 0))) :
    CallsD Tryd.prog 24 #[.pointer (some ⟨g, 0, none⟩)] (.panicking wrongP) w fun e u' w' =>
      e = .returned (.tuple #[]) ∧ u' = .panicking [{ v := .iface 71 (.agg #[]), recovered := true }] ∧ w' = (w.alloc (.cells #[] 71)).setCell ⟨g, 0, none⟩ (.int .i64 90) := by
  have c0 := (blk_cell hm 0).trans (rfl : _ = some (Value.int .i64 x))
  have f0 := blk_frozen hm 0
  refine callsD_of_wpS Tryd.func24 rfl fun c₀ cs hu => ?_
  unfold wrongP at hu
  have hta : ∀ w2 : World, (Instr.typeAssert (.iface 71 (.agg #[])) 20 71 true).run Tryd.prog w2 = .ok (.tuple #[.agg #[], .bool true]) w2 := fun _ => rfl
  have hz : ∀ w2 : World, (zeroValue 71).run Tryd.prog w2 = .ok (.agg #[]) w2 := fun _ => rfl
  have hr : Array.replicate (Tryd.f24.ntmps - (#[Value.pointer (some ⟨g, 0, none⟩)] : Array Value).size) undef = #[undef, undef, undef, undef, undef, undef, undef, undef, undef, undef, undef] := by kernel_rfl
  rw [hr]
  simp only [List.push_toArray, List.append_toArray, List.nil_append, List.cons_append]
  apply wpS_seq
  apply wpS_region
  simp [wpOpsS, go_sem, recoverD, hu, Exit.thenS, hta, hz]
  have d1 : (w.alloc (.cells #[] 71)).cell? ⟨g, 0, none⟩ = some (.int .i64 x) := (blk_cell (blk_alloc hm (.cells #[] 71)) 0).trans rfl
  have d2 : (w.alloc (.cells #[] 71)).frozen? ⟨g, 0, none⟩ = false := blk_frozen (blk_alloc hm (.cells #[] 71)) 0
  apply wpS_seq
  apply wpS_region
  simp [wpOpsS, go_sem, Exit.thenS]
  refine wpS_cond (t := true) (by simp [Act.eval]) ?_
  simp only [if_true]
  apply wpS_region
  simp [wpOpsS, go_sem, d1, d2, bodyPostS, results]
set_option maxHeartbeats 2000000 in
set_option maxRecDepth 100000 in
theorem caught_idle (p : Addr) (w : World) :
    CallsD Tryd.prog 24 #[.pointer (some p)] .returning w fun e u' w' => e = .returned (.tuple #[]) ∧ u' = .returning ∧ w' = w.alloc (.cells #[] 71) := by
  refine callsD_of_wpS Tryd.func24 rfl fun c₀ cs hu => ?_
  have hta : ∀ w2 : World, (Instr.typeAssert .nilIface 20 71 true).run Tryd.prog w2 = .ok (.tuple #[.agg #[], .bool false]) w2 := fun _ => rfl
  have hz : ∀ w2 : World, (zeroValue 71).run Tryd.prog w2 = .ok (.agg #[]) w2 := fun _ => rfl
  have hr : Array.replicate (Tryd.f24.ntmps - (#[Value.pointer (some p)] : Array Value).size) undef = #[undef, undef, undef, undef, undef, undef, undef, undef, undef, undef, undef] := by kernel_rfl
  rw [hr]
  simp only [List.push_toArray, List.append_toArray, List.nil_append, List.cons_append]
  apply wpS_seq
  apply wpS_region
  simp [wpOpsS, go_sem, recoverD, hu, Exit.thenS, hta, hz]
  apply wpS_seq
  apply wpS_region
  simp [wpOpsS, go_sem, Exit.thenS]
  refine wpS_cond (t := false) (by simp [Act.eval]) ?_
  simp only [Bool.false_eq_true, if_false]
  refine wpS_of_wp (wp_skip ?_)
  cases c₀
  simp_all [bodyPostS, results]
end Go.Proofs.YtnkggincckdoiaaDoor.Q
