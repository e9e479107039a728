set_option linter.unusedVariables false
set_option linter.unusedSimpArgs false
namespace Go.Proofs.YtffldajbnhbkkaaDoor.HP
variable {α : Type}
/-- An order: whether one stands ahead of another one. -/
structure Ord (lt : α → α → Bool) : Prop where
  irr : ∀ a, lt a a = false
  asym : ∀ a b, lt a b = true → lt b a = false
  trans : ∀ a b c, lt b a = false → lt c b = false → lt c a = false
def swapL (l : List α) (i j : Nat) (h : i < l.length) (h2 : j < l.length) : List α := (l.set i l[j]).set j l[i]
theorem swap_len (l : List α) (i j : Nat) (h : i < l.length) (h2 : j < l.length) : (swapL l i j h h2).length = l.length := by simp [swapL]
theorem swap_get (l : List α) (i j : Nat) (h : i < l.length) (h2 : j < l.length) (k : Nat) (hk : k < (swapL l i j h h2).length) : (swapL l i j h h2)[k] = if k = j then l[i] else if k = i then l[j] else l[k]'(by rw [swap_len] at hk; exact hk) := by
  have hk' : k < ((l.set i l[j]).set j l[i]).length := hk
  show ((l.set i l[j]).set j l[i])[k]'hk' = _
  rw [List.getElem_set]
  by_cases c : j = k
  · subst c; rw [if_pos rfl, if_pos rfl]
  · rw [if_neg c, if_neg (fun e => c e.symm), List.getElem_set]
    by_cases c2 : i = k
    · subst c2; rw [if_pos rfl]
    · rw [if_neg c2, if_neg (fun e => c2 e.symm)]
theorem swap_perm [BEq α] [LawfulBEq α] (l : List α) (i j : Nat) (h : i < l.length) (h2 : j < l.length) : (swapL l i j h h2).Perm l := by
  rw [List.perm_iff_count]
  intro a
  unfold swapL
  have hj : j < (l.set i l[j]).length := by rw [List.length_set]; exact h2
  rw [List.count_set hj, List.count_set h, List.getElem_set]
  have ci : l[i] == a → 0 < l.count a := fun e => List.count_pos_iff.2 (by rw [← eq_of_beq e]; exact List.getElem_mem h)
  by_cases e : i = j
  · subst e
    rw [if_pos rfl]
    by_cases c : (l[i] == a) = true
    · have := ci c
      rw [if_pos c]; omega
    · rw [if_neg c]; omega
  · rw [if_neg e]
    by_cases c : (l[i] == a) = true
    · have := ci c
      rw [if_pos c]
      by_cases d : (l[j] == a) = true
      · rw [if_pos d]; omega
      · rw [if_neg d]; omega
    · rw [if_neg c]
      by_cases d : (l[j] == a) = true
      · rw [if_pos d]; omega
      · rw [if_neg d]; omega
/-- The first n stand as_ a heap does, but for what is above place z and what is below it. -/
def Heap (lt : α → α → Bool) (l : List α) (n : Nat) : Prop := ∀ j (h : j < l.length), 0 < j → j < n → lt l[j] (l[(j - 1) / 2]'(by omega)) = false
def HeapUp (lt : α → α → Bool) (l : List α) (n z : Nat) : Prop :=
  (∀ j (h : j < l.length), 0 < j → j < n → j ≠ z → lt l[j] (l[(j - 1) / 2]'(by omega)) = false) ∧
  ∀ j (h : j < l.length) (_ : 0 < j) (_ : j < n) (_ : (j - 1) / 2 = z) (_ : 0 < z), lt l[j] (l[(z - 1) / 2]'(by omega)) = false
def HeapDown (lt : α → α → Bool) (l : List α) (n z : Nat) : Prop :=
  (∀ j (h : j < l.length), 0 < j → j < n → (j - 1) / 2 ≠ z → lt l[j] (l[(j - 1) / 2]'(by omega)) = false) ∧
  ∀ j (h : j < l.length) (_ : 0 < j) (_ : j < n) (_ : (j - 1) / 2 = z) (_ : 0 < z), lt l[j] (l[(z - 1) / 2]'(by omega)) = false
/-- Up: the one at place j goes to where it belongs. -/
def upL (lt : α → α → Bool) : Nat → List α → Nat → List α
  | 0, l, _ => l
  | k + 1, l, j => if h : 0 < j ∧ j < l.length then (if lt l[j] (l[(j - 1) / 2]'(by omega)) = true then upL lt k (swapL l ((j - 1) / 2) j (by omega) h.2) ((j - 1) / 2) else l) else l
theorem up_perm [BEq α] [LawfulBEq α] (lt : α → α → Bool) : ∀ (k : Nat) (l : List α) (j : Nat), (upL lt k l j).Perm l
  | 0, l, _ => List.Perm.refl l
  | k + 1, l, j => by
    unfold upL
    by_cases h : 0 < j ∧ j < l.length
    · rw [dif_pos h]
      by_cases c : lt l[j] (l[(j - 1) / 2]'(by omega)) = true
      · rw [if_pos c]; exact (up_perm lt k _ _).trans (swap_perm l _ _ _ _)
      · rw [if_neg c]
    · rw [dif_neg h]
theorem up_len (lt : α → α → Bool) : ∀ (k : Nat) (l : List α) (j : Nat), (upL lt k l j).length = l.length
  | 0, l, _ => rfl
  | k + 1, l, j => by
    unfold upL
    by_cases h : 0 < j ∧ j < l.length
    · rw [dif_pos h]
      by_cases c : lt l[j] (l[(j - 1) / 2]'(by omega)) = true
      · rw [if_pos c, up_len lt k, swap_len]
      · rw [if_neg c]
    · rw [dif_neg h]
theorem up_heap {lt : α → α → Bool} (O : Ord lt) (n : Nat) : ∀ (k : Nat) (l : List α) (j : Nat), j ≤ k → j < n → n ≤ l.length → HeapUp lt l n j → Heap lt (upL lt k l j) n
  | 0, l, j, hk, hj, hn, H => by
    obtain rfl : j = 0 := by omega
    intro i hi h0 h1
    exact H.1 i hi h0 h1 (by omega)
  | k + 1, l, j, hk, hj, hn, H => by
    unfold upL
    by_cases h : 0 < j ∧ j < l.length
    · rw [dif_pos h]
      by_cases c : lt l[j] (l[(j - 1) / 2]'(by omega)) = true
      · rw [if_pos c]
        refine up_heap O n k _ _ (by omega) (by omega) (by rw [swap_len]; exact hn) ⟨?_, ?_⟩
        · intro i hi h0 h1 h2
          have hil : i < l.length := by rw [swap_len] at hi; exact hi
          rw [swap_get, swap_get]
          by_cases e1 : i = j
          · subst e1
            rw [if_pos rfl, if_neg (by omega), if_pos rfl]
            exact O.asym _ _ c
          · rw [if_neg e1]
            by_cases e2 : i = (j - 1) / 2
            · exact absurd e2 h2
            · rw [if_neg e2]
              by_cases e3 : (i - 1) / 2 = j
              · rw [if_pos e3]
                exact H.2 i hil h0 h1 e3 h.1
              · rw [if_neg e3]
                by_cases e4 : (i - 1) / 2 = (j - 1) / 2
                · rw [if_pos e4]
                  have := H.1 i hil h0 h1 e1
                  simp only [e4] at this
                  exact O.trans _ _ _ (O.asym _ _ c) this
                · rw [if_neg e4]
                  exact H.1 i hil h0 h1 e1
        · intro i hi h0 h1 h2 h3
          have hil : i < l.length := by rw [swap_len] at hi; exact hi
          rw [swap_get, swap_get]
          have hp := H.1 ((j - 1) / 2) (by omega) h3 (by omega) (by omega)
          rw [if_neg (show ¬ ((j - 1) / 2 - 1) / 2 = j by omega), if_neg (show ¬ ((j - 1) / 2 - 1) / 2 = (j - 1) / 2 by omega)]
          by_cases e1 : i = j
          · rw [if_pos e1]; exact hp
          · rw [if_neg e1, if_neg (by omega)]
            have := H.1 i hil h0 h1 e1
            simp only [h2] at this
            exact O.trans _ _ _ hp this
      · rw [if_neg c]
        intro i hi h0 h1
        by_cases e : i = j
        · subst e; simpa using c
        · exact H.1 i hi h0 h1 e
    · rw [dif_neg h]
      obtain rfl : j = 0 := by omega
      intro i hi h0 h1
      exact H.1 i hi h0 h1 (by omega)
/-- Down: the one at place i goes to where it belongs, among the first n. -/
def pickD (lt : α → α → Bool) (l : List α) (i n : Nat) (h : 2 * i + 1 < n) (hn : n ≤ l.length) : Nat := if h2 : 2 * i + 2 < n then (if lt (l[2 * i + 2]'(by omega)) (l[2 * i + 1]'(by omega)) = true then 2 * i + 2 else 2 * i + 1) else 2 * i + 1
theorem pick_or (lt : α → α → Bool) (l : List α) (i n : Nat) (h : 2 * i + 1 < n) (hn : n ≤ l.length) : (pickD lt l i n h hn = 2 * i + 1 ∨ pickD lt l i n h hn = 2 * i + 2) ∧ pickD lt l i n h hn < n := by
  unfold pickD
  by_cases h2 : 2 * i + 2 < n
  · rw [dif_pos h2]; split <;> omega
  · rw [dif_neg h2]; omega
def downL (lt : α → α → Bool) (n : Nat) : Nat → List α → Nat → List α
  | 0, l, _ => l
  | k + 1, l, i => if h : 2 * i + 1 < n ∧ n ≤ l.length then (if lt (l[pickD lt l i n h.1 h.2]'(by have := pick_or lt l i n h.1 h.2; omega)) (l[i]'(by omega)) = true then downL lt n k (swapL l i (pickD lt l i n h.1 h.2) (by omega) (by have := pick_or lt l i n h.1 h.2; omega)) (pickD lt l i n h.1 h.2) else l) else l
theorem down_len (lt : α → α → Bool) (n : Nat) : ∀ (k : Nat) (l : List α) (i : Nat), (downL lt n k l i).length = l.length
  | 0, l, _ => rfl
  | k + 1, l, i => by
    unfold downL
    by_cases h : 2 * i + 1 < n ∧ n ≤ l.length
    · rw [dif_pos h]
      split
      · rw [down_len lt n k, swap_len]
      · rfl
    · rw [dif_neg h]
theorem down_perm [BEq α] [LawfulBEq α] (lt : α → α → Bool) (n : Nat) : ∀ (k : Nat) (l : List α) (i : Nat), (downL lt n k l i).Perm l
  | 0, l, _ => List.Perm.refl l
  | k + 1, l, i => by
    unfold downL
    by_cases h : 2 * i + 1 < n ∧ n ≤ l.length
    · rw [dif_pos h]
      split
      · exact (down_perm lt n k _ _).trans (swap_perm l _ _ _ _)
      · exact List.Perm.refl l
    · rw [dif_neg h]
theorem down_far (lt : α → α → Bool) (n : Nat) : ∀ (k : Nat) (l : List α) (i : Nat) (j : Nat) (hj : j < (downL lt n k l i).length) (hj2 : j < l.length), n ≤ j → i < n → (downL lt n k l i)[j] = l[j]
  | 0, l, _, _, _, _, _, _ => rfl
  | k + 1, l, i, j, hj, hj2, hn, hi => by
    by_cases h : 2 * i + 1 < n ∧ n ≤ l.length
    · have hp := pick_or lt l i n h.1 h.2
      by_cases c : lt (l[pickD lt l i n h.1 h.2]'(by omega)) (l[i]'(by omega)) = true
      · have e : downL lt n (k + 1) l i = downL lt n k (swapL l i (pickD lt l i n h.1 h.2) (by omega) (by omega)) (pickD lt l i n h.1 h.2) := by
          rw [downL, dif_pos h, if_pos c]
        simp only [e]
        rw [down_far lt n k _ _ j _ (by rw [swap_len]; exact hj2) hn hp.2, swap_get, if_neg (by omega), if_neg (by omega)]
      · have e : downL lt n (k + 1) l i = l := by rw [downL, dif_pos h, if_neg c]
        simp only [e]
    · have e : downL lt n (k + 1) l i = l := by rw [downL, dif_neg h]
      simp only [e]
theorem pick_least {lt : α → α → Bool} (O : Ord lt) (l : List α) (i n : Nat) (h : 2 * i + 1 < n) (hn : n ≤ l.length) (j : Nat) (hj : j < l.length) (h0 : 0 < j) (h1 : j < n) (hp : (j - 1) / 2 = i) : lt l[j] (l[pickD lt l i n h hn]'(by have := pick_or lt l i n h hn; omega)) = false := by
  have hj2 : j = 2 * i + 1 ∨ j = 2 * i + 2 := by omega
  by_cases h2 : 2 * i + 2 < n
  · by_cases c : lt (l[2 * i + 2]'(by omega)) (l[2 * i + 1]'(by omega)) = true
    · have e : pickD lt l i n h hn = 2 * i + 2 := by unfold pickD; rw [dif_pos h2, if_pos c]
      simp only [e]
      rcases hj2 with rfl | rfl
      · exact O.asym _ _ c
      · exact O.irr _
    · have e : pickD lt l i n h hn = 2 * i + 1 := by unfold pickD; rw [dif_pos h2, if_neg c]
      simp only [e]
      rcases hj2 with rfl | rfl
      · exact O.irr _
      · simpa using c
  · have e : pickD lt l i n h hn = 2 * i + 1 := by unfold pickD; rw [dif_neg h2]
    simp only [e]
    rcases hj2 with rfl | rfl
    · exact O.irr _
    · omega
theorem down_step {lt : α → α → Bool} (O : Ord lt) (n : Nat) (l : List α) (i p : Nat) (hp : p = 2 * i + 1 ∨ p = 2 * i + 2) (hpn : p < n) (hn : n ≤ l.length) (c : lt (l[p]'(by omega)) (l[i]'(by omega)) = true)
    (hleast : ∀ (j : Nat) (hj : j < l.length), 0 < j → j < n → (j - 1) / 2 = i → lt l[j] (l[p]'(by omega)) = false) (H : HeapDown lt l n i) : HeapDown lt (swapL l i p (by omega) (by omega)) n p := by
  refine ⟨?_, ?_⟩
  · intro j hj h0 h1 h2
    have hjl : j < l.length := by rw [swap_len] at hj; exact hj
    rw [swap_get, swap_get]
    by_cases e1 : j = p
    · subst e1
      rw [if_pos rfl, if_neg (by omega), if_pos (by omega)]
      exact O.asym _ _ c
    · rw [if_neg e1]
      by_cases e2 : j = i
      · subst e2
        rw [if_pos rfl, if_neg h2, if_neg (by omega)]
        exact H.2 p (by omega) (by omega) hpn (by omega) (by omega)
      · rw [if_neg e2, if_neg h2]
        by_cases e3 : (j - 1) / 2 = i
        · rw [if_pos e3]
          exact hleast j hjl h0 h1 e3
        · rw [if_neg e3]
          exact H.1 j hjl h0 h1 e3
  · intro j hj h0 h1 h2 h3
    have hjl : j < l.length := by rw [swap_len] at hj; exact hj
    rw [swap_get, swap_get]
    have ep : (p - 1) / 2 = i := by omega
    rw [if_neg (show ¬ j = p by omega), if_neg (show ¬ j = i by omega), if_neg (show ¬ (p - 1) / 2 = p by omega), if_pos ep]
    have := H.1 j hjl h0 h1 (by omega)
    simp only [h2] at this
    exact this
theorem down_heap {lt : α → α → Bool} (O : Ord lt) (n : Nat) : ∀ (k : Nat) (l : List α) (i : Nat), n ≤ i + k → i < n → n ≤ l.length → HeapDown lt l n i → Heap lt (downL lt n k l i) n
  | 0, l, i, hk, hi, hn, H => by omega
  | k + 1, l, i, hk, hi, hn, H => by
    by_cases h : 2 * i + 1 < n ∧ n ≤ l.length
    · have hp := pick_or lt l i n h.1 h.2
      by_cases c : lt (l[pickD lt l i n h.1 h.2]'(by omega)) (l[i]'(by omega)) = true
      · have e : downL lt n (k + 1) l i = downL lt n k (swapL l i (pickD lt l i n h.1 h.2) (by omega) (by omega)) (pickD lt l i n h.1 h.2) := by
          rw [downL, dif_pos h, if_pos c]
        rw [e]
        exact down_heap O n k _ _ (by omega) hp.2 (by rw [swap_len]; exact hn) (down_step O n l i _ hp.1 hp.2 hn c (fun j hj h0 h1 hp => pick_least O l i n h.1 h.2 j hj h0 h1 hp) H)
      · have e : downL lt n (k + 1) l i = l := by rw [downL, dif_pos h, if_neg c]
        rw [e]
        have c' : lt (l[pickD lt l i n h.1 h.2]'(by omega)) (l[i]'(by omega)) = false := by simpa using c
        intro j hj h0 h1
        by_cases e1 : (j - 1) / 2 = i
        · simp only [e1]
          exact O.trans _ _ _ c' (pick_least O l i n h.1 h.2 j hj h0 h1 e1)
        · exact H.1 j hj h0 h1 e1
    · have e : downL lt n (k + 1) l i = l := by rw [downL, dif_neg h]
      rw [e]
      intro j hj h0 h1
      exact H.1 j hj h0 h1 (by omega)
theorem heap_top {lt : α → α → Bool} (O : Ord lt) (l : List α) (n : Nat) (H : Heap lt l n) (hn : n ≤ l.length) : ∀ (j : Nat) (h : j < l.length), j < n → lt l[j] (l[0]'(by omega)) = false := by
  intro j
  induction j using Nat.strongRecOn with
  | _ j ih =>
    intro h h1
    by_cases h0 : j = 0
    · subst h0; exact O.irr _
    · exact O.trans _ _ _ (ih ((j - 1) / 2) (by omega) (by omega) (by omega)) (H j h (by omega) h1)
def pushL (lt : α → α → Bool) (l : List α) (x : α) : List α := upL lt l.length (l ++ [x]) l.length
theorem push_len (lt : α → α → Bool) (l : List α) (x : α) : (pushL lt l x).length = l.length + 1 := by unfold pushL; rw [up_len]; simp
theorem push_heap {lt : α → α → Bool} (O : Ord lt) (l : List α) (x : α) (H : Heap lt l l.length) : Heap lt (pushL lt l x) (l.length + 1) := by
  unfold pushL
  refine up_heap O (l.length + 1) l.length _ l.length (Nat.le_refl _) (by omega) (by simp) ⟨?_, ?_⟩
  · intro j h h0 h1 h2
    have hj : j < l.length := by omega
    rw [List.getElem_append_left hj, List.getElem_append_left (by omega)]
    exact H j hj h0 hj
  · intro j h h0 h1 h2 h3
    omega
theorem push_perm [BEq α] [LawfulBEq α] (lt : α → α → Bool) (l : List α) (x : α) : (pushL lt l x).Perm (x :: l) :=
  (up_perm lt _ _ _).trans (by simp)
/-- What is left when the first one is gone. -/
def popL (lt : α → α → Bool) (l : List α) (h : 0 < l.length) : List α := (downL lt (l.length - 1) l.length (swapL l 0 (l.length - 1) h (by omega)) 0).take (l.length - 1)
theorem pop_len (lt : α → α → Bool) (l : List α) (h : 0 < l.length) : (popL lt l h).length = l.length - 1 := by
  unfold popL
  rw [List.length_take, down_len, swap_len]; omega
theorem down_stop (lt : α → α → Bool) (n : Nat) : ∀ (k : Nat) (l : List α) (i : Nat), ¬ 2 * i + 1 < n → downL lt n k l i = l
  | 0, _, _, _ => rfl
  | k + 1, l, i, h => by unfold downL; rw [dif_neg (fun h2 => h h2.1)]
theorem heap_take {lt : α → α → Bool} (d : List α) (n : Nat) (H : Heap lt d n) : Heap lt (d.take n) n := by
  intro j hj h0 h1
  rw [List.getElem_take, List.getElem_take]
  exact H j _ h0 h1
theorem take_last (d : List α) (x : α) (n : Nat) (hl : d.length = n) (hn : 0 < n) (h : ∀ hh : n - 1 < d.length, d[n - 1] = x) : (x :: d.take (n - 1)).Perm d := by
  have hd : d = d.take (n - 1) ++ [x] := by
    have h3 : d.drop (n - 1) = [x] := by
      rw [List.drop_eq_getElem_cons (by omega), h (by omega), List.drop_of_length_le (by omega)]
    rw [← h3, List.take_append_drop]
  conv => rhs; rw [hd]
  exact (List.perm_append_comm (l₁ := d.take (n - 1)) (l₂ := [x])).symm
theorem pop_last (lt : α → α → Bool) (l : List α) (h : 0 < l.length) (hl : l.length - 1 < (downL lt (l.length - 1) l.length (swapL l 0 (l.length - 1) h (by omega)) 0).length) : (downL lt (l.length - 1) l.length (swapL l 0 (l.length - 1) h (by omega)) 0)[l.length - 1] = l[0] := by
  by_cases c : l.length = 1
  · have e : downL lt (l.length - 1) l.length (swapL l 0 (l.length - 1) h (by omega)) 0 = swapL l 0 (l.length - 1) h (by omega) := by
      exact down_stop lt _ _ _ _ (by omega)
    simp only [e]
    rw [swap_get, if_pos rfl]
  · rw [down_far lt (l.length - 1) l.length _ 0 (l.length - 1) hl (by rw [swap_len]; omega) (Nat.le_refl _) (by omega), swap_get, if_pos rfl]
theorem pop_heap {lt : α → α → Bool} (O : Ord lt) (l : List α) (h : 0 < l.length) (H : Heap lt l l.length) : Heap lt (popL lt l h) (l.length - 1) := by
  by_cases c : l.length = 1
  · intro j hj h0 h1; omega
  · have hd : Heap lt (downL lt (l.length - 1) l.length (swapL l 0 (l.length - 1) h (by omega)) 0) (l.length - 1) := by
      refine down_heap O (l.length - 1) l.length _ 0 (by omega) (by omega) (by rw [swap_len]; omega) ⟨?_, ?_⟩
      · intro j hj h0 h1 h2
        have hjl : j < l.length := by rw [swap_len] at hj; exact hj
        rw [swap_get, swap_get, if_neg (by omega), if_neg (by omega), if_neg (by omega), if_neg h2]
        exact H j hjl h0 hjl
      · intro j hj h0 h1 h2 h3
        omega
    exact heap_take _ _ hd
theorem pop_perm [BEq α] [LawfulBEq α] (lt : α → α → Bool) (l : List α) (h : 0 < l.length) : (l[0] :: popL lt l h).Perm l := by
  have h1 := (down_perm lt (l.length - 1) l.length (swapL l 0 (l.length - 1) h (by omega)) 0).trans (swap_perm l 0 (l.length - 1) h (by omega))
  refine List.Perm.trans ?_ h1
  have hl : (downL lt (l.length - 1) l.length (swapL l 0 (l.length - 1) h (by omega)) 0).length = l.length := by rw [down_len, swap_len]
  have h2 := pop_last lt l h (by omega)
  exact take_last _ _ _ hl h (fun _ => h2)
/-- All, one by one. -/
def drainL (lt : α → α → Bool) : Nat → List α → List α
  | 0, _ => []
  | k + 1, l => if h : 0 < l.length then l[0] :: drainL lt k (popL lt l h) else []
theorem drain_perm [BEq α] [LawfulBEq α] (lt : α → α → Bool) : ∀ (k : Nat) (l : List α), l.length = k → (drainL lt k l).Perm l
  | 0, l, hk => by
    rw [List.length_eq_zero_iff.1 hk]; exact List.Perm.refl _
  | k + 1, l, hk => by
    have h : 0 < l.length := by omega
    unfold drainL
    rw [dif_pos h]
    exact (List.Perm.cons _ (drain_perm lt k _ (by rw [pop_len]; omega))).trans (pop_perm lt l h)
theorem drain_sorted [BEq α] [LawfulBEq α] {lt : α → α → Bool} (O : Ord lt) : ∀ (k : Nat) (l : List α), l.length = k → Heap lt l k → (drainL lt k l).Pairwise fun a b => lt b a = false
  | 0, l, hk, H => by unfold drainL; exact List.Pairwise.nil
  | k + 1, l, hk, H => by
    have h : 0 < l.length := by omega
    unfold drainL
    rw [dif_pos h]
    have hp := pop_heap O l h (by rw [hk]; exact H)
    rw [show l.length - 1 = k from by omega] at hp
    refine List.Pairwise.cons ?_ (drain_sorted O k _ (by rw [pop_len]; omega) hp)
    intro x hx
    have hx2 := (drain_perm lt k (popL lt l h) (by rw [pop_len]; omega)).mem_iff.1 hx
    have hx3 : x ∈ l := (pop_perm lt l h).mem_iff.1 (List.mem_cons_of_mem _ hx2)
    obtain ⟨j, hj, rfl⟩ := List.getElem_of_mem hx3
    exact heap_top O l (k + 1) H (by omega) j hj (by omega)
def pushes (lt : α → α → Bool) (l : List α) (xs : List α) : List α := xs.foldl (pushL lt) l
theorem pushes_ok [BEq α] [LawfulBEq α] {lt : α → α → Bool} (O : Ord lt) : ∀ (xs l : List α), Heap lt l l.length → Heap lt (pushes lt l xs) (pushes lt l xs).length ∧ (pushes lt l xs).Perm (xs ++ l)
  | [], l, H => ⟨H, List.Perm.refl l⟩
  | x :: xs, l, H => by
    obtain ⟨h1, h2⟩ := pushes_ok O xs (pushL lt l x) (by rw [push_len]; exact push_heap O l x H)
    refine ⟨h1, h2.trans ?_⟩
    refine ((push_perm lt l x).append_left xs).trans ?_
    simp
/-- By definition: one more, ahead of all that it stands ahead of. -/
def putL (lt : α → α → Bool) : List α → α → List α
  | [], x => [x]
  | y :: l, x => if lt y x = false then x :: y :: l else y :: putL lt l x
theorem put_perm (lt : α → α → Bool) : ∀ (l : List α) (x : α), (putL lt l x).Perm (x :: l)
  | [], x => List.Perm.refl _
  | y :: l, x => by
    unfold putL
    split
    · exact List.Perm.refl _
    · exact (List.Perm.cons y (put_perm lt l x)).trans (List.Perm.swap x y l)
theorem put_sorted {lt : α → α → Bool} (O : Ord lt) : ∀ (l : List α) (x : α), (l.Pairwise fun a b => lt b a = false) → (putL lt l x).Pairwise fun a b => lt b a = false
  | [], x, _ => by unfold putL; exact List.Pairwise.cons (fun _ h => by simp at h) List.Pairwise.nil
  | y :: l, x, h => by
    unfold putL
    by_cases c : lt y x = false
    · rw [if_pos c]
      refine List.Pairwise.cons (fun z hz => ?_) h
      rcases List.mem_cons.1 hz with rfl | hz
      · exact c
      · exact O.trans _ _ _ c (List.rel_of_pairwise_cons h hz)
    · rw [if_neg c]
      refine List.Pairwise.cons (fun z hz => ?_) (put_sorted O l x (List.Pairwise.of_cons h))
      rcases List.mem_cons.1 ((put_perm lt l x).mem_iff.1 hz) with rfl | hz
      · exact O.asym _ _ (by simpa using c)
      · exact List.rel_of_pairwise_cons h hz
theorem puts_ok {lt : α → α → Bool} (O : Ord lt) : ∀ (xs l : List α), (l.Pairwise fun a b => lt b a = false) → ((xs.foldl (putL lt) l).Pairwise fun a b => lt b a = false) ∧ (xs.foldl (putL lt) l).Perm (xs ++ l)
  | [], l, h => ⟨h, List.Perm.refl l⟩
  | x :: xs, l, h => by
    obtain ⟨h1, h2⟩ := puts_ok O xs (putL lt l x) (put_sorted O l x h)
    refine ⟨h1, h2.trans ?_⟩
    refine ((put_perm lt l x).append_left xs).trans ?_
    simp
/-- What a heap tells is what putting one by one tells, where no two stand alike. -/
theorem heap_is_put [BEq α] [LawfulBEq α] {lt : α → α → Bool} (O : Ord lt) (xs ys : List α) (hp : xs.Perm ys) (hd : ∀ a b, a ∈ xs → b ∈ xs → lt a b = false → lt b a = false → a = b) :
    drainL lt (pushes lt [] xs).length (pushes lt [] xs) = ys.foldl (putL lt) [] := by
  obtain ⟨h1, h2⟩ := pushes_ok O xs [] (fun j h _ _ => by simp at h)
  obtain ⟨h3, h4⟩ := puts_ok O ys [] List.Pairwise.nil
  rw [List.append_nil] at h2 h4
  have h5 := drain_perm lt _ (pushes lt [] xs) rfl
  have h6 := drain_sorted O _ (pushes lt [] xs) rfl h1
  refine List.Perm.eq_of_pairwise (le := fun a b => lt b a = false) ?_ h6 h3 (h5.trans (h2.trans (hp.trans h4.symm)))
  intro a b ha hb h7 h8
  exact hd a b ((h5.trans h2).mem_iff.1 ha) ((h4.trans hp.symm).mem_iff.1 hb) h8 h7
/-- By rising f, then by falling g. -/
def ltK (f g : α → Int) (a b : α) : Bool := decide (f a < f b) || (f a == f b && decide (g b < g a))
theorem ltK_iff (f g : α → Int) (a b : α) : ltK f g a b = true ↔ f a < f b ∨ (f a = f b ∧ g b < g a) := by
  unfold ltK
  rw [Bool.or_eq_true, Bool.and_eq_true, decide_eq_true_eq, decide_eq_true_eq, beq_iff_eq]
theorem ltK_no (f g : α → Int) (a b : α) : ltK f g a b = false ↔ f b < f a ∨ (f a = f b ∧ g a ≤ g b) := by
  rw [← Bool.not_eq_true, ltK_iff]; omega
theorem ord_keys (f g : α → Int) : Ord (ltK f g) :=
  ⟨fun a => by rw [ltK_no]; omega, fun a b h => by rw [ltK_iff] at h; rw [ltK_no]; omega, fun a b c h h2 => by rw [ltK_no] at *; omega⟩
end Go.Proofs.YtffldajbnhbkkaaDoor.HP
