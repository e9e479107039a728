import Derived.Test.YtnkggincckdoiaaDoorKr2
namespace Go.Proofs.YtnkggincckdoiaaDoor.Q
open Go.RowKit Go.Proofs.YtnkggincckdoiaaDoorW.PrintWords Go.Proofs.YtnkggincckdoiaaDoorW.PrintLast Go.Proofs.YtnkggincckdoiaaDoorW.PrintMore
set_option linter.unusedVariables false
set_option linter.unusedSimpArgs false
theorem ne_l {t : ByteArray} (h : t ≠ ByteArray.empty) : (t.toList == ([] : List UInt8)) = false := by
  refine beq_eq_false_iff_ne.2 (fun e => h ?_)
  rw [ByteArray.toList_eq] at e
  exact ByteArray.ext (Array.ext' e)
set_option maxHeartbeats 1000000 in
set_option maxRecDepth 100000 in
theorem next_in (W0 w : World) (r : Nat) (ts : List ByteArray) (h : RS W0 w r ts) :
    Calls Tryd.prog 36 #[.pointer (some ⟨r, 0, none⟩)] w fun e w' => e = .returned (.string (ts.headD ByteArray.empty)) ∧ RS W0 w' r ts.tail ∧ Rb r w w' := by
  have hu60 := Tryd.underlying60
  have hu58 := Tryd.underlying58
  obtain ⟨b, o, c, hbr, hc, hm, hx⟩ := h.mem
  have m0 := (blk_cell hm 0).trans (rfl : _ = some (Value.slice (some ⟨b, o, none⟩) (ts.length + 1) c))
  have mf := blk_frozen hm 0
  have x0 := hx 0 (Nat.zero_le _)
  have hlen := h.len
  cases ts with
  | nil =>
    have x0 : w.cell? ⟨b, o, none⟩ = some (.string ByteArray.empty) := x0
    go_enter Tryd.func36, Tryd.ntmps36
    go_wp2
    go_ret
    exact ⟨rfl, h, Rb.refl _ _⟩
  | cons t ts =>
    have x0 : w.cell? ⟨b, o, none⟩ = some (.string t) := x0
    have hne : t ≠ ByteArray.empty := (h.ne t (List.mem_cons_self ..)).1
    have H := Aside0.mk h
    have HX := Aside0.mk hx
    have HM := Aside0.mk hm
    have hn1 : 2 ≤ (t :: ts).length + 1 := by simp
    generalize hn : (t :: ts).length + 1 = n at m0 hc hn1
    have HN := Aside0.mk hn
    clear h hx hm hlen hn
    go_enter Tryd.func36, Tryd.ntmps36
    have hq := ne_l hne
    clear hne
    go_wp2
    all_goals first | (exfalso; omega) | skip
    go_ret
    refine ⟨rfl, ⟨below_set H.out.base H.out.hr, H.out.hr, fun x hx => H.out.ne x (List.mem_cons_of_mem _ hx), Nat.lt_of_succ_lt H.out.len, b, o + 1, c - 1, hbr, ?_, ?_, fun j hj => ?_⟩, Rb.set⟩
    · have := HN.out; simp only [List.length_cons] at this; show ts.length + 1 ≤ c - 1; omega
    · have := HN.out
      simp only [List.length_cons] at this
      have e : n - 1 = ts.length + 1 := by omega
      show _ = some (Obj.cells #[Value.slice (some ⟨b, o + 1, none⟩) (ts.length + 1) (c - 1)] 60)
      rw [← e]
      exact blk_put HM.out 0 _ rfl
    · have h1 := HX.out (j + 1) (Nat.succ_le_succ hj)
      rw [show o + (j + 1) = o + 1 + j by omega] at h1
      rw [List.cons_append, List.getD_cons_succ] at h1
      exact Rb.cell Rb.set h1 hbr
/-- The next part, if it is that. -/
def takeT (p : ByteArray) (ts : List ByteArray) : Bool × List ByteArray := if ts.head? = some p then (true, ts.tail) else (false, ts)
set_option maxHeartbeats 1000000 in
set_option maxRecDepth 100000 in
theorem take_in (W0 w : World) (r : Nat) (p : ByteArray) (ts : List ByteArray) (hp : p ≠ ByteArray.empty) (h : RS W0 w r ts) :
    Calls Tryd.prog 26 #[.pointer (some ⟨r, 0, none⟩), .string p] w fun e w' => e = .returned (.bool (takeT p ts).1) ∧ RS W0 w' r (takeT p ts).2 ∧ Rb r w w' := by
  have hu60 := Tryd.underlying60
  have hu58 := Tryd.underlying58
  obtain ⟨b, o, c, hbr, hc, hm, hx⟩ := h.mem
  have m0 := (blk_cell hm 0).trans (rfl : _ = some (Value.slice (some ⟨b, o, none⟩) (ts.length + 1) c))
  have x0 : w.cell? ⟨b, o, none⟩ = some (.string (ts.headD ByteArray.empty)) := by
    have := hx 0 (Nat.zero_le _)
    cases ts <;> exact this
  have hn1 : 1 ≤ ts.length + 1 := by omega
  generalize ts.length + 1 = n at m0 hc hn1
  have H := Aside0.mk h
  have hq := ne_l hp
  have NX := Aside0.mk (next_in W0 w r ts h)
  clear h hx hm
  by_cases hh : ts.head? = some p
  · have e : takeT p ts = (true, ts.tail) := if_pos hh
    rw [e]
    have e2 : ts.headD ByteArray.empty = p := by cases ts with
      | nil => cases hh
      | cons t ts => exact Option.some.inj hh
    rw [e2] at x0
    clear hh hp e
    go_enter Tryd.func26, Tryd.ntmps26
    go_wp2_with (go_at_call 36; refine NX.out.mono ?_; rintro e w2 ⟨rfl, hs, hb⟩; have HS := Aside0.mk hs; have HB := Aside0.mk hb; clear hs hb)
    go_ret
    exact ⟨rfl, HS.out, HB.out⟩
  · have e : takeT p ts = (false, ts) := if_neg hh
    rw [e]
    have hq2 : ((ts.headD ByteArray.empty).toList == p.toList) = false := by
      refine beq_eq_false_iff_ne.2 (fun e1 => hh ?_)
      rw [ByteArray.toList_eq, ByteArray.toList_eq] at e1
      have e2 : ts.headD ByteArray.empty = p := ByteArray.ext (Array.ext' e1)
      cases ts with
      | nil => exact absurd e2.symm hp
      | cons t ts => exact congrArg some e2
    generalize ts.headD ByteArray.empty = x at x0 hq2
    clear hh hp e NX
    go_enter Tryd.func26, Tryd.ntmps26
    go_wp2
    go_ret
    exact ⟨rfl, H.out, Rb.refl _ _⟩
end Go.Proofs.YtnkggincckdoiaaDoor.Q
