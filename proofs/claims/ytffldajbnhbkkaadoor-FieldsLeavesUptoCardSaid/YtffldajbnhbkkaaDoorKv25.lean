import Derived.Test.YtffldajbnhbkkaaDoorKv24
namespace Go.Proofs.YtffldajbnhbkkaaDoor.Q
open Go.RowKit Go.Proofs.YtffldajbnhbkkaaDoorW.PrintWords Go.Proofs.YtffldajbnhbkkaaDoorW.PrintLast Go.Proofs.YtffldajbnhbkkaaDoorW.PrintMore
set_option linter.unusedVariables false
set_option linter.unusedSimpArgs false
/-- The spans that are open at a place: the innermost one first. -/
def popE : List S31 → Int → List S31
  | [], _ => []
  | y :: ys, f => if y.f2 ≤ f then popE ys f else y :: ys
def topBad (rs : List S31) (t : Int) : Bool := match rs with
  | [] => false
  | y :: _ => decide (y.f2 < t)
def spanBad (s : ByteArray) (x : S31) : Bool := decide (x.f0 < 1) || (decide (18 ≤ x.f0) || !stretchB s x.f1 x.f2)
def chkGo (s : ByteArray) : List S31 → List S31 → Bool
  | [], _ => true
  | x :: xs, rs => if spanBad s x = true then false else if topBad (popE rs x.f1) x.f2 = true then false else chkGo s xs (x :: popE rs x.f1)
def chkB (s : ByteArray) (l : List S31) : Bool := Lib.validD s.data.toList && (sortB l && chkGo s l [])
structure CS (W wr : World) (s : ByteArray) (A : Option Addr) (n c : Nat) (v : Value) (rs : List S31) : Prop where
  below : Below W.heap.size W wr
  box : wr.heap[W.heap.size]? = some (.cells #[.string s, .slice A n c] 25 (0, 0))
  row : Kd.R k31 31 wr W.heap.size (fun _ => True) v rs.reverse
section
variable {W wr w' : World} {s : ByteArray} {A : Option Addr} {n c : Nat} {v v' : Value} {rs rs' : List S31}
theorem CS.next (h : CS W wr s A n c v rs) (hb : Below wr.heap.size wr w') : CS W w' s A n c v rs :=
  ⟨below_step h.below hb, blk_below h.box hb, Kd.R_below h.row hb⟩
theorem CS.alloc (h : CS W wr s A n c v rs) (o : Obj) : CS W (wr.alloc o) s A n c v rs := h.next (below_alloc (Below.refl _ _) o)
theorem CS.drewN (h : CS W wr s A n c v rs) (m : Nat) : CS W (wr.drewN m) s A n c v rs := h.next (pw_below_drewN (Below.refl _ _) m)
theorem CS.drew (h : CS W wr s A n c v rs) : CS W wr.drew s A n c v rs := h.next (below_drew1 (Below.refl _ _))
theorem CS.pushed (h : CS W wr s A n c v rs) {x : S31} (hb : Below W.heap.size W w') (hg : wr.grownBy w' v.ownBlock) (hr : Kd.R k31 31 w' W.heap.size (fun _ => True) v' (rs.reverse ++ [x])) : CS W w' s A n c v' (x :: rs) := by
  refine ⟨hb, ?_, by rw [List.reverse_cons]; exact hr⟩
  refine (hg.block _ (blk_lt h.box) (fun e => ?_)).trans h.box
  obtain ⟨c', hc⟩ := Kd.R_typed h.row _ e.symm
  exact typ_ne h.box hc (by decide) rfl
theorem CS.pop {B : Option Addr} {m c2 : Nat} {y : S31} (h : CS W wr s A n c (.slice B (m + 1) c2) (y :: rs)) (hm : rs.length = m) : CS W wr s A n c (.slice B m c2) rs := by
  refine ⟨h.below, h.box, ?_⟩
  have e : ((y :: rs).reverse).take m = rs.reverse := by
    rw [List.reverse_cons, ← hm, ← List.length_reverse, List.take_append_of_le_length (Nat.le_refl _), List.take_length]
  have := Kd.R_take (m := m) h.row (by rw [List.length_reverse, List.length_cons]; omega)
  rw [e] at this
  exact this
theorem CS.top {B : Option Addr} {m c2 : Nat} {y : S31} (h : CS W wr s A n c (.slice B (m + 1) c2) (y :: rs)) (hm : rs.length = m) : ∃ g, B = some ⟨g, 0, none⟩ ∧ wr.cell? ⟨g, m * 3, none⟩ = some (.int .i64 y.f0) ∧ wr.cell? ⟨g, m * 3 + 1, none⟩ = some (.int .i64 y.f1) ∧ wr.cell? ⟨g, m * 3 + 2, none⟩ = some (.int .i64 y.f2) := by
  obtain ⟨g, cap, e, _⟩ := Kd.R_form h.row (by rw [List.length_reverse, List.length_cons]; omega)
  obtain ⟨A', c', e', hle, hC⟩ := Kd.R_reads h.row
  injection e with e1 e2 e3
  injection e' with e4 e5 e6
  subst e4 e1
  have hl : ((y :: rs).reverse).length = m + 1 := by rw [List.length_reverse, List.length_cons, hm]
  rw [hl] at hC
  obtain ⟨ad, ea, c0, c1, c2'⟩ := at_T31 hC (m : Int) (Int.natCast_nonneg m) (by omega)
  injection ea with ea
  subst ea
  have hy : rd_T31 ((y :: rs).reverse) (m : Int) = y := by
    rw [rd31 _ m (by rw [hl]; omega)]
    rw [List.getElem_reverse]
    simp [hm]
  rw [hy, Int.toNat_natCast] at c0 c1 c2'
  rw [add0] at c0 c1 c2'
  exact ⟨g, rfl, c0, c1, c2'⟩
end
end Go.Proofs.YtffldajbnhbkkaaDoor.Q
