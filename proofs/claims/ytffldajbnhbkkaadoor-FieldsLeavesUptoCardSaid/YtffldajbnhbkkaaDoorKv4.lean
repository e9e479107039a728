set_option linter.unusedVariables false
set_option linter.unusedSimpArgs false
namespace Go.Proofs.YtffldajbnhbkkaaDoor.HP
variable {α : Type}
/-- An order: whether one stands ahead of another one. -/
structure Ord (lt : α → α → Bool) : Prop where
  irr : ∀ a, lt a a = false
  asym : ∀ a b, lt a b = true → lt b a = false
  trans : ∀ a b c, lt b a = false → lt c b = false → lt c a = false
def swapL (l : List α) (i j : Nat) (h : i < l.length) (h2 : j < l.length) : List α := (l.set i l[j]).set j l[i]
theorem swap_len (l : List α) (i j : Nat) (h : i < l.length) (h2 : j < l.length) : (swapL l i j h h2).length = l.length := by simp [swapL]
theorem swap_get (l : List α) (i j : Nat) (h : i < l.length) (h2 : j < l.length) (k : Nat) (hk : k < (swapL l i j h h2).length) : (swapL l i j h h2)[k] = if k = j then l[i] else if k = i then l[j] else l[k]'(by rw [swap_len] at hk; exact hk) := by
  have hk' : k < ((l.set i l[j]).set j l[i]).length := hk
  show ((l.set i l[j]).set j l[i])[k]'hk' = _
  rw [List.getElem_set]
  by_cases c : j = k
  · subst c; rw [if_pos rfl, if_pos rfl]
  · rw [if_neg c, if_neg (fun e => c e.symm), List.getElem_set]
    by_cases c2 : i = k
    · subst c2; rw [if_pos rfl]
    · rw [if_neg c2, if_neg (fun e => c2 e.symm)]
theorem swap_perm [BEq α] [LawfulBEq α] (l : List α) (i j : Nat) (h : i < l.length) (h2 : j < l.length) : (swapL l i j h h2).Perm l := by
  rw [List.perm_iff_count]
  intro a
  unfold swapL
  have hj : j < (l.set i l[j]).length := by rw [List.length_set]; exact h2
  rw [List.count_set hj, List.count_set h, List.getElem_set]
  have ci : l[i] == a → 0 < l.count a := fun e => List.count_pos_iff.2 (by rw [← eq_of_beq e]; exact List.getElem_mem h)
  by_cases e : i = j
  · subst e
    rw [if_pos rfl]
    by_cases c : (l[i] == a) = true
    · have := ci c
      rw [if_pos c]; omega
    · rw [if_neg c]; omega
  · rw [if_neg e]
    by_cases c : (l[i] == a) = true
    · have := ci c
      rw [if_pos c]
      by_cases d : (l[j] == a) = true
      · rw [if_pos d]; omega
      · rw [if_neg d]; omega
    · rw [if_neg c]
      by_cases d : (l[j] == a) = true
      · rw [if_pos d]; omega
      · rw [if_neg d]; omega
/-- The first n stand as_ a heap does, but for what is above place z and what is below it. -/
def Heap (lt : α → α → Bool) (l : List α) (n : Nat) : Prop := ∀ j (h : j < l.length), 0 < j → j < n → lt l[j] (l[(j - 1) / 2]'(by omega)) = false
/-- Up: the one at place j goes to where it belongs. -/
def upL (lt : α → α → Bool) : Nat → List α → Nat → List α
  | 0, l, _ => l
  | k + 1, l, j => if h : 0 < j ∧ j < l.length then (if lt l[j] (l[(j - 1) / 2]'(by omega)) = true then upL lt k (swapL l ((j - 1) / 2) j (by omega) h.2) ((j - 1) / 2) else l) else l
theorem up_len (lt : α → α → Bool) : ∀ (k : Nat) (l : List α) (j : Nat), (upL lt k l j).length = l.length
  | 0, l, _ => rfl
  | k + 1, l, j => by
    unfold upL
    by_cases h : 0 < j ∧ j < l.length
    · rw [dif_pos h]
      by_cases c : lt l[j] (l[(j - 1) / 2]'(by omega)) = true
      · rw [if_pos c, up_len lt k, swap_len]
      · rw [if_neg c]
    · rw [dif_neg h]
/-- Down: the one at place i goes to where it belongs, among the first n. -/
def pickD (lt : α → α → Bool) (l : List α) (i n : Nat) (h : 2 * i + 1 < n) (hn : n ≤ l.length) : Nat := if h2 : 2 * i + 2 < n then (if lt (l[2 * i + 2]'(by omega)) (l[2 * i + 1]'(by omega)) = true then 2 * i + 2 else 2 * i + 1) else 2 * i + 1
theorem pick_or (lt : α → α → Bool) (l : List α) (i n : Nat) (h : 2 * i + 1 < n) (hn : n ≤ l.length) : (pickD lt l i n h hn = 2 * i + 1 ∨ pickD lt l i n h hn = 2 * i + 2) ∧ pickD lt l i n h hn < n := by
  unfold pickD
  by_cases h2 : 2 * i + 2 < n
  · rw [dif_pos h2]; split <;> omega
  · rw [dif_neg h2]; omega
def downL (lt : α → α → Bool) (n : Nat) : Nat → List α → Nat → List α
  | 0, l, _ => l
  | k + 1, l, i => if h : 2 * i + 1 < n ∧ n ≤ l.length then (if lt (l[pickD lt l i n h.1 h.2]'(by have := pick_or lt l i n h.1 h.2; omega)) (l[i]'(by omega)) = true then downL lt n k (swapL l i (pickD lt l i n h.1 h.2) (by omega) (by have := pick_or lt l i n h.1 h.2; omega)) (pickD lt l i n h.1 h.2) else l) else l
theorem down_len (lt : α → α → Bool) (n : Nat) : ∀ (k : Nat) (l : List α) (i : Nat), (downL lt n k l i).length = l.length
  | 0, l, _ => rfl
  | k + 1, l, i => by
    unfold downL
    by_cases h : 2 * i + 1 < n ∧ n ≤ l.length
    · rw [dif_pos h]
      split
      · rw [down_len lt n k, swap_len]
      · rfl
    · rw [dif_neg h]
theorem down_perm [BEq α] [LawfulBEq α] (lt : α → α → Bool) (n : Nat) : ∀ (k : Nat) (l : List α) (i : Nat), (downL lt n k l i).Perm l
  | 0, l, _ => List.Perm.refl l
  | k + 1, l, i => by
    unfold downL
    by_cases h : 2 * i + 1 < n ∧ n ≤ l.length
    · rw [dif_pos h]
      split
      · exact (down_perm lt n k _ _).trans (swap_perm l _ _ _ _)
      · exact List.Perm.refl l
    · rw [dif_neg h]
theorem down_far (lt : α → α → Bool) (n : Nat) : ∀ (k : Nat) (l : List α) (i : Nat) (j : Nat) (hj : j < (downL lt n k l i).length) (hj2 : j < l.length), n ≤ j → i < n → (downL lt n k l i)[j] = l[j]
  | 0, l, _, _, _, _, _, _ => rfl
  | k + 1, l, i, j, hj, hj2, hn, hi => by
    by_cases h : 2 * i + 1 < n ∧ n ≤ l.length
    · have hp := pick_or lt l i n h.1 h.2
      by_cases c : lt (l[pickD lt l i n h.1 h.2]'(by omega)) (l[i]'(by omega)) = true
      · have e : downL lt n (k + 1) l i = downL lt n k (swapL l i (pickD lt l i n h.1 h.2) (by omega) (by omega)) (pickD lt l i n h.1 h.2) := by
          rw [downL, dif_pos h, if_pos c]
        simp only [e]
        rw [down_far lt n k _ _ j _ (by rw [swap_len]; exact hj2) hn hp.2, swap_get, if_neg (by omega), if_neg (by omega)]
      · have e : downL lt n (k + 1) l i = l := by rw [downL, dif_pos h, if_neg c]
        simp only [e]
    · have e : downL lt n (k + 1) l i = l := by rw [downL, dif_neg h]
      simp only [e]
def pushL (lt : α → α → Bool) (l : List α) (x : α) : List α := upL lt l.length (l ++ [x]) l.length
theorem push_len (lt : α → α → Bool) (l : List α) (x : α) : (pushL lt l x).length = l.length + 1 := by unfold pushL; rw [up_len]; simp
/-- What is left when the first one is gone. -/
def popL (lt : α → α → Bool) (l : List α) (h : 0 < l.length) : List α := (downL lt (l.length - 1) l.length (swapL l 0 (l.length - 1) h (by omega)) 0).take (l.length - 1)
theorem pop_len (lt : α → α → Bool) (l : List α) (h : 0 < l.length) : (popL lt l h).length = l.length - 1 := by
  unfold popL
  rw [List.length_take, down_len, swap_len]; omega
theorem down_stop (lt : α → α → Bool) (n : Nat) : ∀ (k : Nat) (l : List α) (i : Nat), ¬ 2 * i + 1 < n → downL lt n k l i = l
  | 0, _, _, _ => rfl
  | k + 1, l, i, h => by unfold downL; rw [dif_neg (fun h2 => h h2.1)]
theorem take_last (d : List α) (x : α) (n : Nat) (hl : d.length = n) (hn : 0 < n) (h : ∀ hh : n - 1 < d.length, d[n - 1] = x) : (x :: d.take (n - 1)).Perm d := by
  have hd : d = d.take (n - 1) ++ [x] := by
    have h3 : d.drop (n - 1) = [x] := by
      rw [List.drop_eq_getElem_cons (by omega), h (by omega), List.drop_of_length_le (by omega)]
    rw [← h3, List.take_append_drop]
  conv => rhs; rw [hd]
  exact (List.perm_append_comm (l₁ := d.take (n - 1)) (l₂ := [x])).symm
theorem pop_last (lt : α → α → Bool) (l : List α) (h : 0 < l.length) (hl : l.length - 1 < (downL lt (l.length - 1) l.length (swapL l 0 (l.length - 1) h (by omega)) 0).length) : (downL lt (l.length - 1) l.length (swapL l 0 (l.length - 1) h (by omega)) 0)[l.length - 1] = l[0] := by
  by_cases c : l.length = 1
  · have e : downL lt (l.length - 1) l.length (swapL l 0 (l.length - 1) h (by omega)) 0 = swapL l 0 (l.length - 1) h (by omega) := by
      exact down_stop lt _ _ _ _ (by omega)
    simp only [e]
    rw [swap_get, if_pos rfl]
  · rw [down_far lt (l.length - 1) l.length _ 0 (l.length - 1) hl (by rw [swap_len]; omega) (Nat.le_refl _) (by omega), swap_get, if_pos rfl]
theorem pop_perm [BEq α] [LawfulBEq α] (lt : α → α → Bool) (l : List α) (h : 0 < l.length) : (l[0] :: popL lt l h).Perm l := by
  have h1 := (down_perm lt (l.length - 1) l.length (swapL l 0 (l.length - 1) h (by omega)) 0).trans (swap_perm l 0 (l.length - 1) h (by omega))
  refine List.Perm.trans ?_ h1
  have hl : (downL lt (l.length - 1) l.length (swapL l 0 (l.length - 1) h (by omega)) 0).length = l.length := by rw [down_len, swap_len]
  have h2 := pop_last lt l h (by omega)
  exact take_last _ _ _ hl h (fun _ => h2)
/-- All, one by one. -/
def drainL (lt : α → α → Bool) : Nat → List α → List α
  | 0, _ => []
  | k + 1, l => if h : 0 < l.length then l[0] :: drainL lt k (popL lt l h) else []
theorem drain_perm [BEq α] [LawfulBEq α] (lt : α → α → Bool) : ∀ (k : Nat) (l : List α), l.length = k → (drainL lt k l).Perm l
  | 0, l, hk => by
    rw [List.length_eq_zero_iff.1 hk]; exact List.Perm.refl _
  | k + 1, l, hk => by
    have h : 0 < l.length := by omega
    unfold drainL
    rw [dif_pos h]
    exact (List.Perm.cons _ (drain_perm lt k _ (by rw [pop_len]; omega))).trans (pop_perm lt l h)
def pushes (lt : α → α → Bool) (l : List α) (xs : List α) : List α := xs.foldl (pushL lt) l
/-- By definition: one more, ahead of all that it stands ahead of. -/
def putL (lt : α → α → Bool) : List α → α → List α
  | [], x => [x]
  | y :: l, x => if lt y x = false then x :: y :: l else y :: putL lt l x
/-- By rising f, then by falling g. -/
def ltK (f g : α → Int) (a b : α) : Bool := decide (f a < f b) || (f a == f b && decide (g b < g a))
theorem ltK_iff (f g : α → Int) (a b : α) : ltK f g a b = true ↔ f a < f b ∨ (f a = f b ∧ g b < g a) := by
  unfold ltK
  rw [Bool.or_eq_true, Bool.and_eq_true, decide_eq_true_eq, decide_eq_true_eq, beq_iff_eq]
theorem ltK_no (f g : α → Int) (a b : α) : ltK f g a b = false ↔ f b < f a ∨ (f a = f b ∧ g a ≤ g b) := by
  rw [← Bool.not_eq_true, ltK_iff]; omega
theorem ord_keys (f g : α → Int) : Ord (ltK f g) :=
  ⟨fun a => by rw [ltK_no]; omega, fun a b h => by rw [ltK_iff] at h; rw [ltK_no]; omega, fun a b c h h2 => by rw [ltK_no] at *; omega⟩
end Go.Proofs.YtffldajbnhbkkaaDoor.HP
