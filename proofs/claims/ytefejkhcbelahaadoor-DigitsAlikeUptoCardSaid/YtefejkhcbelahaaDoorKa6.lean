import Derived.Test.YtefejkhcbelahaaDoorKa1
namespace Go.Proofs.YtefejkhcbelahaaDoor.Q
open Go.RowKit Go.Proofs.YtefejkhcbelahaaDoorW.PrintWords Go.Proofs.YtefejkhcbelahaaDoorW.PrintLast Go.Proofs.YtefejkhcbelahaaDoorW.PrintMore
set_option linter.unusedVariables false
set_option linter.unusedSimpArgs false
theorem run_loadVar_cells {P : Program} (w : World) (g : Nat) (ty : TypeId) (cs : Array Value) (d : TypeDesc) (hc : ∀ j v, cs[j]? = some v → w.cell? ⟨g, j, none⟩ = some v)
    (hu : P.underlying ty = some d) (hd : (match d with | .struct _ | .array _ _ => true | _ => false) = true) (hi : (P.info? ty).map (·.size) = some cs.size) :
    (loadVar ty ⟨g, 0, none⟩).run P w = .ok (.agg cs) w := by
  have hl : (loadCells ⟨g, 0, none⟩ cs.toList.length).run P w = .ok cs.toList.toArray w :=
    run_loadCells_list (P := P) w ⟨g, 0, none⟩ cs.toList (fun j v hv => by
      have hadd : (⟨g, 0, none⟩ : Addr).add j = ⟨g, j, none⟩ := by unfold Addr.add; split <;> simp_all
      rw [hadd]
      exact hc j v (by simpa using hv))
  cases hq : P.info? ty with
  | none => simp [hq] at hi
  | some i =>
    have hs : i.size = cs.size := by simpa [hq] using hi
    have hagg : (isAgg ty).run P w = .ok true w := by
      unfold isAgg
      rw [Sem.run_bind, run_underlying hu w]
      cases d <;> simp_all
    simp only [Array.length_toList, Array.toArray_toList] at hl
    simp [loadVar, Sem.run_bind, hagg, sizeOf, typeInfo, hq, hs, hl]
theorem blk_types {w : World} {g g' t t' : Nat} {c c' : Array Value} (h : w.heap[g]? = some (.cells c t (0, 0))) (h2 : w.heap[g']? = some (.cells c' t' (0, 0))) (ht : t ≠ t') : g ≠ g' := by
  intro e
  subst e
  rw [h] at h2
  injection h2 with h3
  injection h3 with _ h4 _
  exact ht h4
theorem size26 : (Tryd.prog.info? 26).map (·.size) = some 21 := by kernel_rfl
theorem load26 {a : Act} {o : Oper} {w : World} {g : Nat} {x : Operand} {c0 c1 c2 c3 c4 c5 c6 c7 c8 c9 c10 c11 c12 c13 c14 c15 c16 c17 c18 c19 c20 : Value} (ho : o.op = .load 26 x) (hx : a.eval x = .pointer (some ⟨g, 0, none⟩)) (h0 : w.cell? ⟨g, 0, none⟩ = some c0) (h1 : w.cell? ⟨g, 1, none⟩ = some c1) (h2 : w.cell? ⟨g, 2, none⟩ = some c2) (h3 : w.cell? ⟨g, 3, none⟩ = some c3) (h4 : w.cell? ⟨g, 4, none⟩ = some c4) (h5 : w.cell? ⟨g, 5, none⟩ = some c5) (h6 : w.cell? ⟨g, 6, none⟩ = some c6) (h7 : w.cell? ⟨g, 7, none⟩ = some c7) (h8 : w.cell? ⟨g, 8, none⟩ = some c8) (h9 : w.cell? ⟨g, 9, none⟩ = some c9) (h10 : w.cell? ⟨g, 10, none⟩ = some c10) (h11 : w.cell? ⟨g, 11, none⟩ = some c11) (h12 : w.cell? ⟨g, 12, none⟩ = some c12) (h13 : w.cell? ⟨g, 13, none⟩ = some c13) (h14 : w.cell? ⟨g, 14, none⟩ = some c14) (h15 : w.cell? ⟨g, 15, none⟩ = some c15) (h16 : w.cell? ⟨g, 16, none⟩ = some c16) (h17 : w.cell? ⟨g, 17, none⟩ = some c17) (h18 : w.cell? ⟨g, 18, none⟩ = some c18) (h19 : w.cell? ⟨g, 19, none⟩ = some c19) (h20 : w.cell? ⟨g, 20, none⟩ = some c20) :
    (execOp a.eval o).run Tryd.prog w = .ok (.value (.agg #[c0, c1, c2, c3, c4, c5, c6, c7, c8, c9, c10, c11, c12, c13, c14, c15, c16, c17, c18, c19, c20])) w := by
  have hc : ∀ (j : Nat) (v : Value), (#[c0, c1, c2, c3, c4, c5, c6, c7, c8, c9, c10, c11, c12, c13, c14, c15, c16, c17, c18, c19, c20] : Array Value)[j]? = some v → w.cell? ⟨g, j, none⟩ = some v := by
    intro j v hv
    have hj : j < 21 := by
      have h := (Array.getElem?_eq_some_iff.1 hv).1
      exact h
    match j, hj, hv with
    | 0, _, hv => exact (Option.some.inj hv) ▸ h0
    | 1, _, hv => exact (Option.some.inj hv) ▸ h1
    | 2, _, hv => exact (Option.some.inj hv) ▸ h2
    | 3, _, hv => exact (Option.some.inj hv) ▸ h3
    | 4, _, hv => exact (Option.some.inj hv) ▸ h4
    | 5, _, hv => exact (Option.some.inj hv) ▸ h5
    | 6, _, hv => exact (Option.some.inj hv) ▸ h6
    | 7, _, hv => exact (Option.some.inj hv) ▸ h7
    | 8, _, hv => exact (Option.some.inj hv) ▸ h8
    | 9, _, hv => exact (Option.some.inj hv) ▸ h9
    | 10, _, hv => exact (Option.some.inj hv) ▸ h10
    | 11, _, hv => exact (Option.some.inj hv) ▸ h11
    | 12, _, hv => exact (Option.some.inj hv) ▸ h12
    | 13, _, hv => exact (Option.some.inj hv) ▸ h13
    | 14, _, hv => exact (Option.some.inj hv) ▸ h14
    | 15, _, hv => exact (Option.some.inj hv) ▸ h15
    | 16, _, hv => exact (Option.some.inj hv) ▸ h16
    | 17, _, hv => exact (Option.some.inj hv) ▸ h17
    | 18, _, hv => exact (Option.some.inj hv) ▸ h18
    | 19, _, hv => exact (Option.some.inj hv) ▸ h19
    | 20, _, hv => exact (Option.some.inj hv) ▸ h20
  have hl := run_loadVar_cells (P := Tryd.prog) w g 26 #[c0, c1, c2, c3, c4, c5, c6, c7, c8, c9, c10, c11, c12, c13, c14, c15, c16, c17, c18, c19, c20] _ hc Tryd.underlying26 rfl size26
  unfold execOp
  simp only [ho, hx, Instr.loadAt, Instr.sureAddr, Sem.run_bind, Sem.run_pure, Result.andThen_ok, hl]
end Go.Proofs.YtefejkhcbelahaaDoor.Q
