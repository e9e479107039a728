import Derived.Test.YtffldajbnhbkkaaDoorKv2
namespace Go.Proofs.YtffldajbnhbkkaaDoor.Q
set_option linter.unusedVariables false
set_option linter.unusedSimpArgs false
open Go.RowKit
theorem finds_Push (p : Value) (w : World) : (method (Tryd.prog.types.size + 100) 56 p "Push").run Tryd.prog w = .ok (94, p) w := by
  kernel_rfl
theorem finds_Pop (p : Value) (w : World) : (method (Tryd.prog.types.size + 100) 56 p "Pop").run Tryd.prog w = .ok (93, p) w := by
  kernel_rfl
theorem load54 (g : Nat) (w : World) (v : Value) (h : w.cell? ⟨g, 0, none⟩ = some v) : (loadVar 54 ⟨g, 0, none⟩).run Tryd.prog w = .ok v w := by
  have hu := Tryd.underlying54
  have ha := Tryd.isAgg54
  have hz := Tryd.sizeOf54
  go_simp
theorem nil_ok (xt : TypeId) (a : Addr) (s : String) (w : World) : (Builtin.ssaWrapNilChk_ #[xt] xt #[.pointer (some a), strVal "", strVal s]).run Tryd.prog w = .ok (.pointer (some a)) w := by
  kernel_rfl
theorem mrow (n : String) (f : Nat) (h : ((Tryd.prog.info? 56).bind fun i => (i.methods.find? (·.name == n)).map fun m => (m.path, m.func)) = some (#[], some (f, false))) :
    ∃ i m, Tryd.prog.info? 56 = some i ∧ i.methods.find? (·.name == n) = some m ∧ m.path = #[] ∧ m.func = some (f, false) := by
  obtain ⟨i, hi, h⟩ := Option.bind_eq_some_iff.1 h
  obtain ⟨m, hm, h⟩ := Option.map_eq_some_iff.1 h
  injection h with h1 h2
  exact ⟨i, m, hi, hm, h1, h2⟩
theorem finds_at (n : String) (f : Nat) (h : ((Tryd.prog.info? 56).bind fun i => (i.methods.find? (·.name == n)).map fun m => (m.path, m.func)) = some (#[], some (f, false)))
    (g : Nat) (w : World) (v : Value) (hc : w.cell? ⟨g, 0, none⟩ = some v) : (method (Tryd.prog.types.size + 100) 56 (.pointer (some ⟨g, 0, none⟩)) n).run Tryd.prog w = .ok (f, v) w := by
  obtain ⟨i, m, hi, hm, hp, hf⟩ := mrow n f h
  have hu := Tryd.underlying56
  have hl := load54 g w v hc
  have ht : (typeInfo 56).run Tryd.prog w = .ok i w := by simp [typeInfo, Sem.run, hi, Result.andThen]
  rw [show Tryd.prog.types.size + 100 = (Tryd.prog.types.size + 99) + 1 from rfl]
  generalize Tryd.prog.types.size + 99 = fuel
  unfold method
  rw [Sem.run_bind, ht]
  simp only [Result.andThen, hm, hp, hf]
  have hU := run_underlying hu w
  have hr : ∀ s : String, (receiverAt 56 (.val (.pointer (some ⟨g, 0, none⟩))) false (some s)).run Tryd.prog w = .ok v w := by
    intro s
    have hn := nil_ok 56 ⟨g, 0, none⟩ s w
    unfold receiverAt
    rw [Sem.run_bind, hU]
    simp only [Result.andThen]
    have p1 : Sem.run Tryd.prog (pure (Value.pointer (some ⟨g, 0, none⟩))) w = .ok (Value.pointer (some ⟨g, 0, none⟩)) w := rfl
    have p2 : Sem.run Tryd.prog (pure (⟨g, 0, none⟩ : Addr)) w = .ok (⟨g, 0, none⟩ : Addr) w := rfl
    simp only [Place.get, Sem.run_bind, Sem.run, Result.andThen, asAddr]
    rw [p1]
    simp only []
    rw [hn]
    simp only []
    rw [p2]
    exact hl
  generalize (n.splitOn ".").getLastD n = s
  have hr2 := hr s
  simp [follow, Sem.run_bind, Sem.run, Result.andThen, hr2]
theorem finds_Len (g : Nat) (w : World) (v : Value) (hc : w.cell? ⟨g, 0, none⟩ = some v) : (method (Tryd.prog.types.size + 100) 56 (.pointer (some ⟨g, 0, none⟩)) "Len").run Tryd.prog w = .ok (90, v) w := finds_at "Len" 90 (by kernel_rfl) g w v hc
theorem finds_Less (g : Nat) (w : World) (v : Value) (hc : w.cell? ⟨g, 0, none⟩ = some v) : (method (Tryd.prog.types.size + 100) 56 (.pointer (some ⟨g, 0, none⟩)) "Less").run Tryd.prog w = .ok (91, v) w := finds_at "Less" 91 (by kernel_rfl) g w v hc
theorem finds_Swap (g : Nat) (w : World) (v : Value) (hc : w.cell? ⟨g, 0, none⟩ = some v) : (method (Tryd.prog.types.size + 100) 56 (.pointer (some ⟨g, 0, none⟩)) "Swap").run Tryd.prog w = .ok (92, v) w := finds_at "Swap" 92 (by kernel_rfl) g w v hc
/-- The walk writes the depth as_ a number. -/
theorem tsz : Tryd.prog.types.size + 100 = 234 := by kernel_rfl
theorem find_Len (g : Nat) (w : World) (v : Value) (hc : w.cell? ⟨g, 0, none⟩ = some v) : Sem.run Tryd.prog (method 234 56 (.pointer (some ⟨g, 0, none⟩)) "Len") w = .ok (90, v) w := tsz ▸ finds_Len g w v hc
theorem find_Less (g : Nat) (w : World) (v : Value) (hc : w.cell? ⟨g, 0, none⟩ = some v) : Sem.run Tryd.prog (method 234 56 (.pointer (some ⟨g, 0, none⟩)) "Less") w = .ok (91, v) w := tsz ▸ finds_Less g w v hc
theorem find_Swap (g : Nat) (w : World) (v : Value) (hc : w.cell? ⟨g, 0, none⟩ = some v) : Sem.run Tryd.prog (method 234 56 (.pointer (some ⟨g, 0, none⟩)) "Swap") w = .ok (92, v) w := tsz ▸ finds_Swap g w v hc
theorem find_Push (p : Value) (w : World) : Sem.run Tryd.prog (method 234 56 p "Push") w = .ok (94, p) w := tsz ▸ finds_Push p w
theorem find_Pop (p : Value) (w : World) : Sem.run Tryd.prog (method 234 56 p "Pop") w = .ok (93, p) w := tsz ▸ finds_Pop p w
end Go.Proofs.YtffldajbnhbkkaaDoor.Q
