import Derived.Test.YtffldajbnhbkkaaDoorKv4
import Derived.Test.YtffldajbnhbkkaaDoorKv2
import Derived.Test.YtffldajbnhbkkaaDoorKv5
import Derived.Test.YtffldajbnhbkkaaDoorKv7
import Derived.Test.YtffldajbnhbkkaaDoorKv12
namespace Go.Proofs.YtffldajbnhbkkaaDoor.Q
open Go.RowKit Go.Proofs.YtffldajbnhbkkaaDoorW.PrintWords Go.Proofs.YtffldajbnhbkkaaDoorW.PrintLast Go.Proofs.YtffldajbnhbkkaaDoorW.PrintMore
set_option linter.unusedVariables false
set_option linter.unusedSimpArgs false
/-- From some number of rounds on. -/
def Ev {α : Type} (g : Nat → Option α) (r : α) : Prop := ∃ K, ∀ k, K ≤ k → g k = some r
theorem Ev.step {α : Type} {g h : Nat → Option α} {r : α} (H : Ev h r) (d : Nat) (e : ∀ k, g (k + d) = h k) : Ev g r := by
  obtain ⟨K, hK⟩ := H
  refine ⟨K + d, fun k hk => ?_⟩
  obtain ⟨m, rfl⟩ : ∃ m, k = m + d := ⟨k - d, by omega⟩
  rw [e, hK m (by omega)]
theorem Ev.now {α : Type} {g : Nat → Option α} {r : α} (d : Nat) (h : ∀ k, g (k + d) = some r) : Ev g r := by
  refine ⟨d, fun k hk => ?_⟩
  obtain ⟨m, rfl⟩ : ∃ m, k = m + d := ⟨k - d, by omega⟩
  exact h m
theorem wrapS (i n : Nat) (h : i < n) (hn : n ≤ 140737488355328) : wrap64 ((i : Int) + 1) = ((i + 1 : Nat) : Int) := by unfold wrap64; omega
theorem rd31 (l : List S31) (i : Nat) (h : i < l.length) : rd_T31 l (i : Int) = l[i] := by
  unfold rd_T31
  rw [Int.toNat_natCast, List.getD_eq_getElem?_getD, List.getElem?_eq_getElem h]; rfl
theorem rd43 (l : List S43) (i : Nat) (h : i < l.length) : rd_T43 l (i : Int) = l[i] := by
  unfold rd_T43
  rw [Int.toNat_natCast, List.getD_eq_getElem?_getD, List.getElem?_eq_getElem h]; rfl
/-- Does a span stand ahead of another one? -/
def lt31 : S31 → S31 → Bool := HP.ltK (fun x => x.f1) (fun x => x.f2)
theorem ord31 : HP.Ord lt31 := HP.ord_keys _ _
def cmpI (a b : Int) : Int := if a < b then -1 else if a > b then 1 else 0
theorem cmp_p (a b : Int) : cmp_Compare_int.f a b = some (cmpI a b) := by
  have e : ∀ x : Int, (x != x) = false := fun x => by simp
  unfold cmp_Compare_int.f cmp_isNaN_int.f cmpI
  simp only [Option.bind_some, e]
  rw [if_neg (by simp), if_neg (by simp)]
  by_cases h : a < b
  · rw [if_pos h, if_pos h]
  · rw [if_neg h, if_neg h]
    by_cases h2 : a > b
    · rw [if_pos h2, if_pos h2]
    · rw [if_neg h2, if_neg h2]
theorem or_p (a b : Int) (k : Nat) : cmp_Or_int.f (k + 3) [a, b] = some (if a = 0 then b else a) := by
  have w0 : wrap64 ((0 : Int) + 1) = 1 := by unfold wrap64; omega
  have w1 : wrap64 ((1 : Int) + 1) = 2 := by unfold wrap64; omega
  have r0 : rd [a, b] 0 = a := rfl
  have r1 : rd [a, b] 1 = b := rfl
  unfold cmp_Or_int.f
  have hl : (([a, b] : List Int).length : Int) = 2 := rfl
  simp only [cmp_Or_int.l0]
  rw [hl, r0, if_pos (by omega), if_pos (by omega), if_pos (by omega), w0, r1, w1]
  by_cases h : a = 0
  · rw [if_pos h, if_pos h, if_pos (by omega), if_pos (by omega), if_pos (by omega)]
    by_cases h2 : b = 0
    · rw [if_pos h2, if_neg (by omega), h2]
    · rw [if_neg h2]
  · rw [if_neg h, if_neg h]
/-- How two spans stand. -/
def ordV (x y : S31) : Int := if cmpI x.f1 y.f1 = 0 then cmpI y.f2 x.f2 else cmpI x.f1 y.f1
theorem order_p (x y : S31) (k : Nat) : fields_order.f (k + 3) x.f0 x.f1 x.f2 y.f0 y.f1 y.f2 = some (ordV x y) := by
  unfold fields_order.f ordV
  rw [cmp_p, Option.bind_some, cmp_p, Option.bind_some, or_p]
  rfl
theorem ordV_lt (x y : S31) : decide (ordV x y < 0) = lt31 x y := by
  have h : ordV x y < 0 ↔ lt31 x y = true := by
    unfold lt31
    rw [HP.ltK_iff]
    unfold ordV cmpI
    repeat' split
    all_goals omega
  cases hl : lt31 x y with
  | true => exact decide_eq_true (h.2 hl)
  | false =>
    refine decide_eq_false (fun h2 => ?_)
    rw [h.1 h2] at hl; cases hl
theorem less_p (l : List S31) (i j : Nat) (hi : i < l.length) (hj : j < l.length) (k : Nat) : fields_spans_Less.f (k + 3) l (i : Int) (j : Int) = some (lt31 l[i] l[j]) := by
  unfold fields_spans_Less.f
  rw [if_pos (by omega), if_pos (by omega), if_pos (by omega), if_pos (by omega), rd31 l i hi, rd31 l j hj, order_p, Option.bind_some, ordV_lt]
theorem ahead_p (x y : S31) : quipuref17_ahead.f x.f0 x.f1 x.f2 y.f0 y.f1 y.f2 = some (!lt31 y x) := by
  have h : lt31 y x = false ↔ x.f1 < y.f1 ∨ (y.f1 = x.f1 ∧ y.f2 ≤ x.f2) := HP.ltK_no _ _ _ _
  unfold quipuref17_ahead.f
  by_cases h1 : x.f1 < y.f1
  · rw [if_pos h1, h.2 (Or.inl h1)]; rfl
  · rw [if_neg h1]
    by_cases h2 : x.f1 = y.f1
    · rw [if_pos h2]
      by_cases h3 : x.f2 ≥ y.f2
      · rw [decide_eq_true h3, h.2 (Or.inr ⟨h2.symm, h3⟩)]; rfl
      · have : lt31 y x = true := by
          cases hh : lt31 y x with
          | true => rfl
          | false => have := h.1 hh; omega
        rw [decide_eq_false h3, this]; rfl
    · have : lt31 y x = true := by
        cases hh : lt31 y x with
        | true => rfl
        | false => have := h.1 hh; omega
      rw [if_neg h2, this]; rfl
end Go.Proofs.YtffldajbnhbkkaaDoor.Q
