import Derived.Test.YtffldajbnhbkkaaDoorKv3
import Derived.Test.YtffldajbnhbkkaaDoorKv13
namespace Go.Proofs.YtffldajbnhbkkaaDoor.Q
open Go.RowKit Go.Proofs.YtffldajbnhbkkaaDoorW.PrintWords Go.Proofs.YtffldajbnhbkkaaDoorW.PrintLast Go.Proofs.YtffldajbnhbkkaaDoorW.PrintMore
set_option linter.unusedVariables false
set_option linter.unusedSimpArgs false
/-- The cells of a row of spans. -/
def HBc (cur : Array Value) (l : List S31) : Prop := ∀ i (h : i < l.length), cur[i * 3]? = some (.int .i64 l[i].f0) ∧ cur[i * 3 + 1]? = some (.int .i64 l[i].f1) ∧ cur[i * 3 + 2]? = some (.int .i64 l[i].f2)
def HB (w : World) (g cap : Nat) (l : List S31) : Prop := ∃ cur : Array Value, w.heap[g]? = some (.cells cur 31 (0, 0)) ∧ cur.size = cap * 3 ∧ l.length ≤ cap ∧ HBc cur l
/-- Nothing but block g changed. -/
def Chg (g : Nat) (w w' : World) : Prop := (∀ k, k ≠ g → w'.heap[k]? = w.heap[k]?) ∧ w'.heap.size = w.heap.size ∧ w'.os = w.os ∧ w'.tape = w.tape ∧ w'.output = w.output
theorem Chg.refl (g : Nat) (w : World) : Chg g w w := ⟨fun _ _ => rfl, rfl, rfl, rfl, rfl⟩
theorem Chg.trans {g : Nat} {a b c : World} (h : Chg g a b) (k : Chg g b c) : Chg g a c := ⟨fun i hi => (k.1 i hi).trans (h.1 i hi), k.2.1.trans h.2.1, k.2.2.1.trans h.2.2.1, k.2.2.2.1.trans h.2.2.2.1, k.2.2.2.2.trans h.2.2.2.2⟩
theorem Chg.drewN {g : Nat} {a b : World} (h : Chg g a b) (n : Nat) : Chg g a (b.drewN n) := h
theorem Chg.set {g : Nat} {a b : World} (h : Chg g a b) (i : Nat) (v : Value) : Chg g a (b.setCell ⟨g, i, none⟩ v) :=
  ⟨fun k hk => (Below.heap_setCell b ⟨g, i, none⟩ v k hk).trans (h.1 k hk), by simpa [World.setCell] using h.2.1, by simpa [World.setCell] using h.2.2.1, by simpa [World.setCell] using h.2.2.2.1, by simpa [World.setCell] using h.2.2.2.2⟩
theorem Chg.below {g base : Nat} {w0 w w' : World} (h : Chg g w w') (hb : Below base w0 w) (hg : base ≤ g) : Below base w0 w' :=
  ⟨h.2.2.1.trans hb.os, h.2.2.2.1.trans hb.tape, h.2.2.2.2.trans hb.output, Nat.le_trans hb.size (Nat.le_of_eq h.2.1.symm), fun k hk => (h.1 k (by omega)).trans (hb.block k hk)⟩
theorem set_at {cur : Array Value} {i j : Nat} {v : Value} : (cur.setIfInBounds i v)[j]? = if i = j then (if i < cur.size then some v else none) else cur[j]? := Array.getElem?_setIfInBounds
theorem swap_row (g cap : Nat) (W : World) (l : List S31) (H : HB W g cap l) (i j : Nat) (hi : i < l.length) (hj : j < l.length) (hij : i ≠ j) (hsz : l.length < 4611686018427387904) :
    Calls Tryd.prog 92 #[.slice (some ⟨g, 0, none⟩) l.length cap, .int .i64 i, .int .i64 j] W fun e w' => e = .returned (.tuple #[]) ∧ HB w' g cap (HP.swapL l i j hi hj) ∧ Chg g W w' := by
  obtain ⟨cur, hb, hs, hc, hl⟩ := H
  obtain ⟨a0, a1, a2⟩ := hl i hi
  obtain ⟨b0, b1, b2⟩ := hl j hj
  have za := (Array.getElem?_eq_some_iff.1 a2).1
  have zb := (Array.getElem?_eq_some_iff.1 b2).1
  have cell := fun k => blk_cell hb k
  have fr := fun k => blk_frozen hb k
  refine (swap_cells g cap l.length W l[i].f0 l[i].f1 l[i].f2 l[j].f0 l[j].f1 l[j].f2 i j hi hj hij hsz ((cell _).trans a0) ((cell _).trans a1) ((cell _).trans a2) ((cell _).trans b0) ((cell _).trans b1) ((cell _).trans b2) (fr _) (fr _) (fr _) (fr _) (fr _) (fr _)).mono ?_
  rintro e w' ⟨he, q, rfl⟩
  refine ⟨he, ⟨_, blk_drewN (blk_set (blk_set (blk_set (blk_set (blk_set (blk_set hb _ _) _ _) _ _) _ _) _ _) _ _) q, ?_, ?_, ?_⟩, ?_⟩
  · simp only [Array.size_setIfInBounds]; exact hs
  · rw [HP.swap_len]; exact hc
  · intro k hk
    have hkl : k < l.length := by rw [HP.swap_len] at hk; exact hk
    obtain ⟨e0, e1, e2⟩ := hl k hkl
    rw [HP.swap_get]
    simp only [set_at, Array.size_setIfInBounds]
    by_cases c1 : k = j
    · subst c1
      rw [if_pos rfl]
      refine ⟨?_, ?_, ?_⟩ <;> repeat (first | rw [if_neg (by omega)] | rw [if_pos (by omega)])
    · rw [if_neg c1]
      by_cases c2 : k = i
      · subst c2
        rw [if_pos rfl]
        refine ⟨?_, ?_, ?_⟩ <;> repeat (first | rw [if_neg (by omega)] | rw [if_pos (by omega)])
      · rw [if_neg c2]
        refine ⟨?_, ?_, ?_⟩ <;> repeat (first | rw [if_neg (by omega)] | assumption)
  · exact ((((((Chg.refl g W).set _ _).set _ _).set _ _).set _ _).set _ _).set _ _ |>.drewN q
end Go.Proofs.YtffldajbnhbkkaaDoor.Q
