import Derived.Test.YtffldajbnhbkkaaDoorKv23
namespace Go.Proofs.YtffldajbnhbkkaaDoor.Q
open Go.RowKit Go.Proofs.YtffldajbnhbkkaaDoorW.PrintWords Go.Proofs.YtffldajbnhbkkaaDoorW.PrintLast Go.Proofs.YtffldajbnhbkkaaDoorW.PrintMore
set_option linter.unusedVariables false
set_option linter.unusedSimpArgs false
def placeN (s : ByteArray) (n : Nat) : Bool := decide (n = s.size) || (match s.data[n]? with
  | some b => Lib.runeStart (b.toNat : Int)
  | none => false)
/-- Is it a place between two runes? -/
def placeB (s : ByteArray) (n : Int) : Bool := decide (0 ≤ n) && placeN s n.toNat
set_option maxHeartbeats 4000000 in
set_option maxRecDepth 100000 in
theorem place_walk (gb : Nat) (s : ByteArray) (n : Int) (W : World) (hc : W.cell? ⟨gb, 0, none⟩ = some (.string s)) :
    Calls Tryd.prog 45 #[.int .i64 n, .pointer (some ⟨gb, 0, none⟩)] W fun e w' => e = .returned (.bool (placeB s n)) ∧ w' = W := by
  by_cases h0 : n < 0
  · have e : placeB s n = false := by unfold placeB; rw [decide_eq_false (by omega)]; rfl
    rw [e]
    go_enter Tryd.func45, Tryd.ntmps45
    go_wp2
    go_ret
    exact ⟨rfl, rfl⟩
  · obtain ⟨m, rfl⟩ : ∃ m : Nat, n = (m : Int) := ⟨n.toNat, by omega⟩
    have e0 : placeB s (m : Int) = placeN s m := by unfold placeB; rw [decide_eq_true (Int.natCast_nonneg m)]; rfl
    rw [e0]
    by_cases h1 : m = s.size
    · have e : placeN s m = true := by unfold placeN; rw [decide_eq_true h1]; rfl
      have hm : ((m : Int) = (s.size : Int)) := by omega
      rw [e]
      clear h0 h1 e e0
      go_enter Tryd.func45, Tryd.ntmps45
      go_wp2
      go_ret
      exact ⟨rfl, rfl⟩
    · have hm : ((m : Int) == (s.size : Int)) = false := beq_eq_false_iff_ne.2 (by omega)
      by_cases h2 : m < s.size
      · have hl : m < s.data.size := h2
        have e : placeN s m = Lib.runeStart (s.data[m].toNat : Int) := by unfold placeN; rw [decide_eq_false h1, Array.getElem?_eq_getElem hl]; rfl
        rw [e]
        have hi2 : (m : Int) < (s.size : Int) := by omega
        have hr := Tryd.utf8_RuneStart (s.data[m].toNat : Int) W (by omega) (by have := s.data[m].toNat_lt; omega)
        clear h0 h1 e e0
        go_enter Tryd.func45, Tryd.ntmps45
        go_wp2_with (go_at_call 46; refine hr.mono ?_; rintro e w2 ⟨rfl, rfl⟩)
        go_ret
        exact ⟨rfl, rfl⟩
      · have e : placeN s m = false := by unfold placeN; rw [decide_eq_false h1, Array.getElem?_eq_none (by show s.data.size ≤ m; have : s.data.size = s.size := rfl; omega)]; rfl
        rw [e]
        have hi2 : ¬ ((m : Int) < (s.size : Int)) := by omega
        clear h0 h1 e e0
        go_enter Tryd.func45, Tryd.ntmps45
        go_wp2
        go_ret
        exact ⟨rfl, rfl⟩
def stretchB (s : ByteArray) (a b : Int) : Bool := placeB s a && placeB s b && decide (a < b)
set_option maxHeartbeats 4000000 in
set_option maxRecDepth 100000 in
theorem stretch_walk (s : ByteArray) (a b : Int) (W : World) :
    Calls Tryd.prog 27 #[.string s, .int .i64 a, .int .i64 b] W fun e w' => e = .returned (.bool (stretchB s a b)) ∧ Below W.heap.size W w' := by
  have hpa := fun (w2 : World) (h : w2.cell? ⟨W.heap.size, 0, none⟩ = some (.string s)) => place_walk W.heap.size s a w2 h
  have hpb := fun (w2 : World) (h : w2.cell? ⟨W.heap.size, 0, none⟩ = some (.string s)) => place_walk W.heap.size s b w2 h
  have hn := (blk_cell (blk_new W (Obj.cells #[Value.string s] 9)) 0).trans (rfl : _ = some (Value.string s))
  cases ha : placeB s a with
  | false =>
    have e : stretchB s a b = false := by unfold stretchB; rw [ha]; rfl
    rw [e]
    rw [ha] at hpa
    go_enter Tryd.func27, Tryd.ntmps27
    go_wp2_with (go_at_call 45; refine (hpa _ hn).mono ?_; rintro e w2 ⟨rfl, rfl⟩)
    go_ret
    exact ⟨rfl, below_alloc (Below.refl _ _) _⟩
  | true =>
    rw [ha] at hpa
    cases hb : placeB s b with
    | false =>
      have e : stretchB s a b = false := by unfold stretchB; rw [ha, hb]; rfl
      rw [e]
      rw [hb] at hpb
      go_enter Tryd.func27, Tryd.ntmps27
      go_wp2_with fail
      go_at_call 45
      refine (hpa _ hn).mono ?_
      rintro e w2 ⟨rfl, rfl⟩
      go_wp2_with fail
      go_at_call 45
      refine (hpb _ hn).mono ?_
      rintro e w2 ⟨rfl, rfl⟩
      go_wp2
      go_ret
      exact ⟨rfl, below_alloc (Below.refl _ _) _⟩
    | true =>
      have e : stretchB s a b = decide (a < b) := by unfold stretchB; rw [ha, hb]; rfl
      rw [e]
      rw [hb] at hpb
      go_enter Tryd.func27, Tryd.ntmps27
      go_wp2_with fail
      go_at_call 45
      refine (hpa _ hn).mono ?_
      rintro e w2 ⟨rfl, rfl⟩
      go_wp2_with fail
      go_at_call 45
      refine (hpb _ hn).mono ?_
      rintro e w2 ⟨rfl, rfl⟩
      go_wp2
      go_ret
      exact ⟨rfl, below_alloc (Below.refl _ _) _⟩
end Go.Proofs.YtffldajbnhbkkaaDoor.Q
