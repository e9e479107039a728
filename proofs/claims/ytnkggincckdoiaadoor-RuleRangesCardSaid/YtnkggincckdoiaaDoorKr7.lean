import Derived.Lib.QuietBelowIn
import Derived.TacticsIn
namespace Go.Proofs.YtnkggincckdoiaaDoor.RX
open Go Go.RowKit Go.Sort
set_option linter.unusedVariables false
set_option linter.unusedSimpArgs false
variable {F : Fence} {n : Nat} {P : Program} {C : World → Prop} {ops : Array Oper} {md : Region.Mode} {w : World}
def isDefer : Op → Bool
  | .defer _ => true
  | _ => false
theorem not_defer {o : Oper} (h : isDefer o.op = false) : ∀ c : Call, o.op ≠ Op.defer c := fun c e => by rw [e] at h; cases h
theorem wpIn_of_quiet_r {o : Oper} {a : Act} {K : Act → Prop} {K' : Act → World → Prop} {Q' : Exit → Act → World → Prop} (hnd : ∀ c : Call, o.op ≠ Op.defer c) (hw : C w) (h : ∀ a w', C w' → K a → K' a w')
    (ha : o.askedIn F P a C) (hh : o.quietIn F n P a C K) : o.wpIn F n P a w K' Q' := by
  obtain ⟨v, h1, h2⟩ := hh
  have h3 := h1 w hw
  unfold Oper.quietAtIn at h3
  unfold Oper.wpIn
  refine ⟨ha w hw, ?_⟩
  rw [Oper.semAt_eq _ _ _ hnd]
  generalize (execOp a.eval o).run P w = r at *
  cases r with
  | ok x w' =>
    cases x <;> simp only [Oper.quietUponIn] at h3 <;> simp only [Oper.uponIn]
    case value u =>
      obtain ⟨e1, e2⟩ := h3
      rw [e1, e2]
      exact h _ _ hw h2
    case skip =>
      obtain ⟨e1, e2⟩ := h3
      rw [e1, ← e2]
      exact h _ _ hw h2
    case enter f args =>
      obtain ⟨e1, hd, hc⟩ := h3
      rw [e1]
      exact ⟨hd, hc.mono fun e w'' ⟨he, hw''⟩ => by subst he; exact h _ _ hw'' h2⟩
  | halt x w' => simp only [Oper.quietUponIn] at h3
theorem wpOpIn_r {i : Nat} {a : Act} {K : Act → Prop} {K' : Act → World → Prop} {Q' : Exit → Act → World → Prop} (hnd : ∀ (i : Nat) (o : Oper), ops[i]? = some o → ∀ c : Call, o.op ≠ Op.defer c) (hC : C w) (h : ∀ a w', C w' → K a → K' a w')
    (hh : qOpIn F n P ops C i K a) : wpOpIn F n P ops Q' i K' a w := by
  unfold qOpIn at hh
  unfold wpOpIn
  split
  · rename_i ho; simp only [ho] at hh; exact h _ _ hC hh
  · rename_i o ho
    simp only [ho] at hh
    obtain ⟨ha, hh⟩ := hh
    split
    · rename_i hw; simp only [hw, if_true] at hh; exact wpIn_of_quiet_r (hnd i o ho) hC h ha hh
    · rename_i hw; simp only [hw] at hh; exact ⟨ha w hC, h _ _ hC hh⟩
theorem wpAnyIn_r {Q : Act → Prop} {Q' : Exit → Act → World → Prop} (hnd : ∀ (i : Nat) (o : Oper), ops[i]? = some o → ∀ c : Call, o.op ≠ Op.defer c) (hQ : ∀ a w, C w → Q a → Q' .normal a w) : ∀ (fuel : Nat) (listed : Array Bool) (a : Act) (w : World), C w →
    wpAnyQIn F n P md ops C Q fuel listed a → wpAnyIn F n P md ops Q' fuel listed a w
  | 0, _, _, _, hw, h => ⟨h.1, hQ _ _ hw h.2⟩
  | fuel + 1, _, _, _, hw, h => ⟨fun h0 => hQ _ _ hw (h.1 h0), fun i hi => wpOpIn_r hnd hw (fun a' w' hw' => wpAnyIn_r hnd hQ fuel _ a' w' hw') (h.2 i hi)⟩
theorem wpIn_region_quiet_r {id : Nat} {Q : Exit → Act → World → Prop} {a : Act} (hm : P.follows .mixedOrders = true) (hd : (ops.toList.all fun o => !isDefer o.op) = true) (hB : Region.lexB .any ops = true) (hC : C { w with drawn := w.drawn + 1 })
    (h : wpQuietIn F n P ops C (fun a' => ∀ w', C w' → Q .normal a' w') ops.toList a) : (Code.region id ops true).wpIn F n P Q a w := by
  have hnd : ∀ (i : Nat) (o : Oper), ops[i]? = some o → ∀ c : Call, o.op ≠ Op.defer c := fun i o ho => by
    have hm : o ∈ ops.toList := Array.mem_toList_iff.2 (Array.mem_of_getElem? ho)
    have := List.all_eq_true.1 hd o hm
    exact not_defer (by simpa using this)
  simp only [Region.lexB, Bool.and_eq_true] at hB
  refine wpIn_region_any hm (wpAnyIn_r (Q := fun a' => ∀ w', C w' → Q .normal a' w') hnd (fun _ w' hw' h => h w' hw') _ _ _ _ hC ?_)
  have := wpAnyQIn_lex (F := F) (n := n) (C := C) (md := .any) hB.1 ops.toList 0 (Array.replicate ops.size false) a (by simp) (by simpa using hB.2) h
  simpa using this
/-- At the class 'whatever lay, lies as_ it lay; blocks may have been laid'. -/
theorem wpIn_region_below {id : Nat} {Q : Exit → Act → World → Prop} {a : Act} {l : List Oper} (hm : P.follows .mixedOrders = true) (hd : (l.all fun o => !isDefer o.op) = true) (hB : Region.lexB .any l.toArray = true)
    (h : wpQuietIn F n P l.toArray (fun w' => ∃ p : Regrown, w' = grow (redrawn w p.d) p.os) (fun a' => ∀ w', Below w.heap.size w w' → Q .normal a' w') l a) : (Code.region id l.toArray true).wpIn F n P Q a w :=
  wpIn_region_quiet_r (C := fun w' => ∃ p : Regrown, w' = grow (redrawn w p.d) p.os) hm (by simpa using hd) hB ⟨⟨w.drawn + 1, #[]⟩, by rw [grow_empty]; rfl⟩ (by
    have : (fun a' => ∀ w', Below w.heap.size w w' → Q .normal a' w') = (fun a' => ∀ w', (∃ p : Regrown, w' = grow (redrawn w p.d) p.os) → Q .normal a' w') := by
      funext a'
      refine propext ⟨fun h w' hw => ?_, fun h w' hw => h w' (regrown_of_below hw)⟩
      obtain ⟨p, rfl⟩ := hw
      exact h _ (below_regrown w _ _)
    rw [← this]
    simpa using h)
/-- One step of a drawing region: whichever operation is ready comes next. -/
theorem any_step {Q : Exit → Act → World → Prop} {fuel : Nat} {listed : Array Bool} {a : Act} (l : List Nat) (hl : Region.ready md ops listed = l) (hne : l ≠ [])
    (h : ∀ i ∈ l, wpOpIn F n P ops Q i (wpAnyIn F n P md ops Q fuel (listed.setIfInBounds i true)) a w) : wpAnyIn F n P md ops Q (fuel + 1) listed a w :=
  ⟨fun h0 => absurd (hl.symm.trans h0) hne, fun i hi => h i (hl ▸ hi)⟩
/-- What is left of a region, where nothing that is left turns the world: in the text's order. -/
theorem any_rest {Q : Exit → Act → World → Prop} {listed : Array Bool} {a : Act} (l : List Oper) (k : Nat) (hd : (ops.toList.all fun o => !isDefer o.op) = true) (hs : Region.noSelect ops = true) (hl : ops.toList.drop k = l)
    (hB : Region.lexFrom md ops l.length k listed = true) (h : wpQuietIn F n P ops (fun w' => w' = w) (fun a' => Q .normal a' w) l a) : wpAnyIn F n P md ops Q l.length listed a w := by
  have hnd : ∀ (i : Nat) (o : Oper), ops[i]? = some o → ∀ c : Call, o.op ≠ Op.defer c := fun i o ho => by
    have hm : o ∈ ops.toList := Array.mem_toList_iff.2 (Array.mem_of_getElem? ho)
    have := List.all_eq_true.1 hd o hm
    exact not_defer (by simpa using this)
  exact wpAnyIn_r (C := fun w' => w' = w) (Q := fun a' => Q .normal a' w) hnd (fun a' w' hw' h => by subst hw'; exact h) l.length listed a w rfl (wpAnyQIn_lex hs l k listed a (fun j => by rw [← hl, List.getElem?_drop, Array.getElem?_toList]) hB h)
theorem op_hide {Q : Exit → Act → World → Prop} {i : Nat} {K : Act → World → Prop} {a : Act} (h : ∀ K' : Act → World → Prop, (∀ a w, K a w → K' a w) → wpOpIn F n P ops Q i K' a w) : wpOpIn F n P ops Q i K a w := h K (fun _ _ h => h)
end Go.Proofs.YtnkggincckdoiaaDoor.RX
