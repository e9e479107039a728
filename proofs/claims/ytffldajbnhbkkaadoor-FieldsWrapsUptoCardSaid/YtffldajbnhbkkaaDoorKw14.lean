import Derived.Test.YtffldajbnhbkkaaDoorKw4
import Derived.Test.YtffldajbnhbkkaaDoorKw2
import Derived.Test.YtffldajbnhbkkaaDoorKw6
import Derived.Test.YtffldajbnhbkkaaDoorKw8
import Derived.Test.YtffldajbnhbkkaaDoorKw13
namespace Go.Proofs.YtffldajbnhbkkaaDoor.Q
open Go.RowKit Go.Proofs.YtffldajbnhbkkaaDoorW.PrintWords Go.Proofs.YtffldajbnhbkkaaDoorW.PrintLast Go.Proofs.YtffldajbnhbkkaaDoorW.PrintMore
set_option linter.unusedVariables false
set_option linter.unusedSimpArgs false
/-- From some number of rounds on. -/
def Ev {α : Type} (g : Nat → Option α) (r : α) : Prop := ∃ K, ∀ k, K ≤ k → g k = some r
theorem Ev.step {α : Type} {g h : Nat → Option α} {r : α} (H : Ev h r) (d : Nat) (e : ∀ k, g (k + d) = h k) : Ev g r := by
  obtain ⟨K, hK⟩ := H
  refine ⟨K + d, fun k hk => ?_⟩
  obtain ⟨m, rfl⟩ : ∃ m, k = m + d := ⟨k - d, by omega⟩
  rw [e, hK m (by omega)]
theorem Ev.now {α : Type} {g : Nat → Option α} {r : α} (d : Nat) (h : ∀ k, g (k + d) = some r) : Ev g r := by
  refine ⟨d, fun k hk => ?_⟩
  obtain ⟨m, rfl⟩ : ∃ m, k = m + d := ⟨k - d, by omega⟩
  exact h m
theorem wrapS (i n : Nat) (h : i < n) (hn : n ≤ 140737488355328) : wrap64 ((i : Int) + 1) = ((i + 1 : Nat) : Int) := by unfold wrap64; omega
theorem rd31 (l : List S31) (i : Nat) (h : i < l.length) : rd_T31 l (i : Int) = l[i] := by
  unfold rd_T31
  rw [Int.toNat_natCast, List.getD_eq_getElem?_getD, List.getElem?_eq_getElem h]; rfl
theorem rd43 (l : List S43) (i : Nat) (h : i < l.length) : rd_T43 l (i : Int) = l[i] := by
  unfold rd_T43
  rw [Int.toNat_natCast, List.getD_eq_getElem?_getD, List.getElem?_eq_getElem h]; rfl
/-- Does a span stand ahead of another one? -/
def lt31 : S31 → S31 → Bool := HP.ltK (fun x => x.f1) (fun x => x.f2)
theorem ord31 : HP.Ord lt31 := HP.ord_keys _ _
def cmpI (a b : Int) : Int := if a < b then -1 else if a > b then 1 else 0
theorem cmp_p (a b : Int) : cmp_Compare_int.f a b = some (cmpI a b) := by
  have e : ∀ x : Int, (x != x) = false := fun x => by simp
  unfold cmp_Compare_int.f cmp_isNaN_int.f cmpI
  simp only [Option.bind_some, e]
  rw [if_neg (by simp), if_neg (by simp)]
  by_cases h : a < b
  · rw [if_pos h, if_pos h]
  · rw [if_neg h, if_neg h]
    by_cases h2 : a > b
    · rw [if_pos h2, if_pos h2]
    · rw [if_neg h2, if_neg h2]
theorem or_p (a b : Int) (k : Nat) : cmp_Or_int.f (k + 3) [a, b] = some (if a = 0 then b else a) := by
  have w0 : wrap64 ((0 : Int) + 1) = 1 := by unfold wrap64; omega
  have w1 : wrap64 ((1 : Int) + 1) = 2 := by unfold wrap64; omega
  have r0 : rd [a, b] 0 = a := rfl
  have r1 : rd [a, b] 1 = b := rfl
  unfold cmp_Or_int.f
  have hl : (([a, b] : List Int).length : Int) = 2 := rfl
  simp only [cmp_Or_int.l0]
  rw [hl, r0, if_pos (by omega), if_pos (by omega), if_pos (by omega), w0, r1, w1]
  by_cases h : a = 0
  · rw [if_pos h, if_pos h, if_pos (by omega), if_pos (by omega), if_pos (by omega)]
    by_cases h2 : b = 0
    · rw [if_pos h2, if_neg (by omega), h2]
    · rw [if_neg h2]
  · rw [if_neg h, if_neg h]
/-- How two spans stand. -/
def ordV (x y : S31) : Int := if cmpI x.f1 y.f1 = 0 then cmpI y.f2 x.f2 else cmpI x.f1 y.f1
theorem order_p (x y : S31) (k : Nat) : fields_order.f (k + 3) x.f0 x.f1 x.f2 y.f0 y.f1 y.f2 = some (ordV x y) := by
  unfold fields_order.f ordV
  rw [cmp_p, Option.bind_some, cmp_p, Option.bind_some, or_p]
  rfl
theorem ordV_lt (x y : S31) : decide (ordV x y < 0) = lt31 x y := by
  have h : ordV x y < 0 ↔ lt31 x y = true := by
    unfold lt31
    rw [HP.ltK_iff]
    unfold ordV cmpI
    repeat' split
    all_goals omega
  cases hl : lt31 x y with
  | true => exact decide_eq_true (h.2 hl)
  | false =>
    refine decide_eq_false (fun h2 => ?_)
    rw [h.1 h2] at hl; cases hl
theorem less_p (l : List S31) (i j : Nat) (hi : i < l.length) (hj : j < l.length) (k : Nat) : fields_spans_Less.f (k + 3) l (i : Int) (j : Int) = some (lt31 l[i] l[j]) := by
  unfold fields_spans_Less.f
  rw [if_pos (by omega), if_pos (by omega), if_pos (by omega), if_pos (by omega), rd31 l i hi, rd31 l j hj, order_p, Option.bind_some, ordV_lt]
theorem ahead_p (x y : S31) : quipuref17_ahead.f x.f0 x.f1 x.f2 y.f0 y.f1 y.f2 = some (!lt31 y x) := by
  have h : lt31 y x = false ↔ x.f1 < y.f1 ∨ (y.f1 = x.f1 ∧ y.f2 ≤ x.f2) := HP.ltK_no _ _ _ _
  unfold quipuref17_ahead.f
  by_cases h1 : x.f1 < y.f1
  · rw [if_pos h1, h.2 (Or.inl h1)]; rfl
  · rw [if_neg h1]
    by_cases h2 : x.f1 = y.f1
    · rw [if_pos h2]
      by_cases h3 : x.f2 ≥ y.f2
      · rw [decide_eq_true h3, h.2 (Or.inr ⟨h2.symm, h3⟩)]; rfl
      · have : lt31 y x = true := by
          cases hh : lt31 y x with
          | true => rfl
          | false => have := h.1 hh; omega
        rw [decide_eq_false h3, this]; rfl
    · have : lt31 y x = true := by
        cases hh : lt31 y x with
        | true => rfl
        | false => have := h.1 hh; omega
      rw [if_neg h2, this]; rfl
theorem put_l0 (l : List S31) (x : S31) (hl : l.length ≤ 1000000) : ∀ (d i k : Nat) (out : List S31) (done : Bool), l.length - i = d → i ≤ l.length → d < k → out.length ≤ i + done.toNat →
    quipuref17_put.l0 k l out done (i : Int) x.f0 x.f1 x.f2 = some (out ++ (if done = true then l.drop i else HP.putL lt31 (l.drop i) x)) := by
  have hf : ¬ (false = true) := by simp
  intro d
  induction d with
  | zero =>
    intro i k out done hd hi hk ho
    obtain ⟨k, rfl⟩ : ∃ m, k = m + 1 := ⟨k - 1, by omega⟩
    have hb : done.toNat ≤ 1 := by cases done <;> decide
    have e : l.drop i = [] := List.drop_of_length_le (by omega)
    simp only [quipuref17_put.l0]
    rw [if_neg (by omega), e]
    cases done with
    | true => rw [if_pos rfl, if_pos rfl, List.append_nil]
    | false => rw [if_neg hf, if_pos (by omega)]; rfl
  | succ d ih =>
    intro i k out done hd hi hk ho
    obtain ⟨k, rfl⟩ : ∃ m, k = m + 1 := ⟨k - 1, by omega⟩
    have hlt : i < l.length := by omega
    have e : l.drop i = l[i] :: l.drop (i + 1) := List.drop_eq_getElem_cons hlt
    simp only [quipuref17_put.l0]
    rw [if_pos (by omega), rd31 l i hlt, wrapS i 10000000 (by omega) (by omega)]
    have hb : done.toNat ≤ 1 := by cases done <;> decide
    have hon : ∀ y : List S31, y.length ≤ i + 2 → y.length < 5864062014805 := fun y hy => by omega
    cases done with
    | true =>
      rw [if_pos rfl, if_pos (by omega), if_pos (hon out (by omega)), ih (i + 1) k _ true (by omega) (by omega) (by omega) (by rw [List.length_append]; show out.length + 1 ≤ i + 1 + 1; have h1 : out.length ≤ i + 1 := ho; omega), e]
      show some ((out ++ [l[i]]) ++ l.drop (i + 1)) = some (out ++ (l[i] :: l.drop (i + 1)))
      rw [List.append_assoc]; rfl
    | false =>
      rw [if_neg hf, if_pos (by omega), ahead_p x l[i], Option.bind_some, e]
      cases hc : lt31 l[i] x with
      | false =>
        have hp : HP.putL lt31 (l[i] :: l.drop (i + 1)) x = x :: l[i] :: l.drop (i + 1) := by unfold HP.putL; rw [if_pos hc]
        have ho2 : (out ++ [(⟨x.f0, x.f1, x.f2⟩ : S31)]).length ≤ i + 2 := by rw [List.length_append]; simp; omega
        rw [if_pos (by rfl), if_pos (hon out (by omega)), Option.bind_some, if_pos (hon _ ho2), ih (i + 1) k _ true (by omega) (by omega) (by omega) (by rw [List.length_append, List.length_append]; show out.length + 1 + 1 ≤ i + 1 + 1; have h1 : out.length ≤ i := ho; omega)]
        show some (((out ++ [x]) ++ [l[i]]) ++ l.drop (i + 1)) = some (out ++ HP.putL lt31 (l[i] :: l.drop (i + 1)) x)
        rw [hp, List.append_assoc, List.append_assoc]; rfl
      | true =>
        have hp : HP.putL lt31 (l[i] :: l.drop (i + 1)) x = l[i] :: HP.putL lt31 (l.drop (i + 1)) x := by
          conv => lhs; unfold HP.putL
          rw [if_neg (by rw [hc]; simp)]
        rw [if_neg (by simp), if_pos (hon out (by omega)), ih (i + 1) k _ false (by omega) (by omega) (by omega) (by rw [List.length_append]; show out.length + 1 ≤ i + 1; have h1 : out.length ≤ i := ho; omega)]
        show some ((out ++ [l[i]]) ++ HP.putL lt31 (l.drop (i + 1)) x) = some (out ++ HP.putL lt31 (l[i] :: l.drop (i + 1)) x)
        rw [hp, List.append_assoc]; rfl
theorem put_p (l : List S31) (x : S31) (hl : l.length ≤ 1000000) (k : Nat) (hk : l.length < k) : quipuref17_put.f k l x.f0 x.f1 x.f2 = some (HP.putL lt31 l x) := by
  have := put_l0 l x hl l.length 0 k [] false (by omega) (Nat.zero_le _) hk (by simp)
  exact this
end Go.Proofs.YtffldajbnhbkkaaDoor.Q
