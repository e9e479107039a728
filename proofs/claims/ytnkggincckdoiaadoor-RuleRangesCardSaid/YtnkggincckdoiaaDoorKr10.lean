import Derived.Test.YtnkggincckdoiaaDoorKr9
namespace Go.Proofs.YtnkggincckdoiaaDoor.Q
open Go.RowKit Go.Shelf
set_option linter.unusedVariables false
set_option linter.unusedSimpArgs false
def bl (c : UInt8) : Bool := sBl.data.toList.contains c
def low (c : UInt8) : Bool := sLow.data.toList.contains c
def dig (c : UInt8) : Bool := sDig.data.toList.contains c
def sig (c : UInt8) : Bool := decide (0 ≤ Lib.indexByte sSig.data.toList c)
def tokNL (l : List UInt8) : Option Nat :=
  if (l.takeWhile low).length ≠ 0 then some (l.takeWhile low).length
  else if (l.takeWhile dig).length ≠ 0 then some (l.takeWhile dig).length
  else if (Lib.hasPrefix l [33, 61] || Lib.hasPrefix l [46, 46]) = true then some 2
  else if l = [] then some 0
  else if sig (l.headD 0) = true then some 1 else none
def tokF : Nat → List UInt8 → Option (List (List UInt8))
  | 0, _ => none
  | k + 1, l =>
    match tokNL (l.dropWhile bl) with
    | none => none
    | some n => if l.dropWhile bl = [] then some [] else (tokF k ((l.dropWhile bl).drop n)).map ((l.dropWhile bl).take n :: ·)
theorem len_drop (p : UInt8 → Bool) (l : List UInt8) : l.length - (l.dropWhile p).length = (l.takeWhile p).length := by
  have := congrArg List.length (List.takeWhile_append_dropWhile (p := p) (l := l))
  rw [List.length_append] at this
  omega
theorem cut_data (s c : ByteArray) : (cutL s c).data.toList = s.data.toList.dropWhile (c.data.toList.contains ·) := by
  show (Lib.trimLeftS s.data.toList c.data.toList).toArray.toList = _
  rfl
theorem cut_len (s c : ByteArray) : s.size - (cutL s c).size = (s.data.toList.takeWhile (c.data.toList.contains ·)).length := by
  rw [← slen s, ← slen (cutL s c), cut_data]
  exact len_drop _ _
theorem nil_data (s : ByteArray) : s.data.toList = [] ↔ s.size = 0 := by rw [← List.length_eq_zero_iff, slen]
theorem tokN_L (s : ByteArray) : tokN s = tokNL s.data.toList := by
  unfold tokN tokNL
  rw [cut_len, cut_len]
  have h3 : (s.data.toList = []) = (s.size = 0) := propext (nil_data s)
  simp only [h3, sig, decide_eq_true_eq]
  rfl
theorem ext_drop (s : ByteArray) (n : Nat) : (s.extract n s.size).data.toList = s.data.toList.drop n := by
  rcases s with ⟨⟨l⟩⟩
  simp [ByteArray.data_extract, ByteArray.size]
  exact List.take_of_length_le (by simp)
theorem ext_take (s : ByteArray) (n : Nat) : s.extract 0 n = mkS (s.data.toList.take n) := by
  rcases s with ⟨⟨l⟩⟩
  apply ByteArray.ext
  apply Array.toList_inj.1
  simp [ByteArray.data_extract, mkS]
theorem toks_F (k : Nat) (s : ByteArray) : toks k s = (tokF k s.data.toList).map (·.map mkS) := by
  induction k generalizing s with
  | zero => rfl
  | succ k ih =>
    rw [toks, tokF, tokN_L, cut_data]
    have e : (s.data.toList.dropWhile (sBl.data.toList.contains ·)) = s.data.toList.dropWhile bl := rfl
    rw [e]
    cases hn : tokNL (s.data.toList.dropWhile bl) with
    | none => rfl
    | some n =>
      simp only []
      have hz : ((cutL s sBl).size = 0) = (s.data.toList.dropWhile bl = []) := by rw [← e, ← cut_data]; exact propext (nil_data _).symm
      rw [ih]
      simp only [hz]
      split
      · rfl
      · have e1 : ((cutL s sBl).extract n (cutL s sBl).size).data.toList = (s.data.toList.dropWhile bl).drop n := by
          rw [← e, ← cut_data]
          exact ext_drop _ n
        have e2 : (cutL s sBl).extract 0 n = mkS ((s.data.toList.dropWhile bl).take n) := by
          rw [← e, ← cut_data]
          exact ext_take _ n
        rw [e1, e2]
        cases tokF k ((s.data.toList.dropWhile bl).drop n) <;> rfl
def tokL (l : List UInt8) : Option (List (List UInt8)) := tokF (l.length + 1) l
theorem toks_L (s : ByteArray) : toks (s.size + 1) s = (tokL s.data.toList).map (·.map mkS) := by
  rw [toks_F, tokL, slen]
theorem tokNL_pos {l : List UInt8} {n : Nat} (h : tokNL l = some n) (h0 : l ≠ []) : 0 < n := by
  unfold tokNL at h
  split at h
  · cases h; omega
  · split at h
    · cases h; omega
    · split at h
      · cases h; omega
      · first | rw [if_neg h0] at h | skip
        split at h
        · cases h; omega
        · cases h
theorem tok_fuel : ∀ (k : Nat) (l : List UInt8), l.length < k → tokF k l = tokL l := by
  suffices H : ∀ (m k k' : Nat) (l : List UInt8), l.length ≤ m → l.length < k → l.length < k' → tokF k l = tokF k' l from fun k l h => H l.length k (l.length + 1) l (Nat.le_refl _) h (Nat.lt_succ_self _)
  intro m
  induction m with
  | zero =>
    intro k k' l hm hk hk'
    obtain rfl : l = [] := List.eq_nil_of_length_eq_zero (by omega)
    cases k with
    | zero => cases hk
    | succ k => cases k' with
      | zero => cases hk'
      | succ k' => rfl
  | succ m ih =>
    intro k k' l hm hk hk'
    cases k with
    | zero => omega
    | succ k => cases k' with
      | zero => omega
      | succ k' =>
        rw [tokF, tokF]
        cases hn : tokNL (l.dropWhile bl) with
        | none => rfl
        | some n =>
          simp only []
          split
          · rfl
          · rename_i h0
            have hp := tokNL_pos hn h0
            have hl : (l.dropWhile bl).length ≤ l.length := (List.dropWhile_sublist _).length_le
            have hd : ((l.dropWhile bl).drop n).length < l.length := by
              have : 0 < (l.dropWhile bl).length := List.length_pos_iff.2 h0
              rw [List.length_drop]; omega
            rw [ih k k' _ (by omega) (by omega) (by omega)]
theorem tokL_eq (l : List UInt8) : tokL l = match tokNL (l.dropWhile bl) with
    | none => none
    | some n => if l.dropWhile bl = [] then some [] else (tokL ((l.dropWhile bl).drop n)).map ((l.dropWhile bl).take n :: ·) := by
  rw [tokL, tokF]
  cases hn : tokNL (l.dropWhile bl) with
  | none => rfl
  | some n =>
    simp only []
    split
    · rfl
    · rename_i h0
      have hp := tokNL_pos hn h0
      have hl : (l.dropWhile bl).length ≤ l.length := (List.dropWhile_sublist _).length_le
      have hd : ((l.dropWhile bl).drop n).length < l.length := by
        have : 0 < (l.dropWhile bl).length := List.length_pos_iff.2 h0
        rw [List.length_drop]; omega
      rw [tok_fuel _ _ hd]
/-- Nothing runs from the one text into the other. -/
def Sep (u v : List UInt8) : Prop :=
  u = [] ∨ u.getLast? = some 32 ∨ v = [] ∨ ∃ c v', v = c :: v' ∧ low c = false ∧ dig c = false ∧ ¬(u.getLast? = some 33 ∧ c = 61) ∧ ¬(u.getLast? = some 46 ∧ c = 46)
theorem takew_app {p : UInt8 → Bool} {u v : List UInt8} (hu : u ≠ []) (h : u.getLast? = some 32 ∧ p 32 = false ∨ v = [] ∨ ∃ c v', v = c :: v' ∧ p c = false) : (u ++ v).takeWhile p = u.takeWhile p := by
  rw [List.takeWhile_append]
  split
  · rename_i hl
    have hall : u.takeWhile p = u := (List.takeWhile_prefix p).eq_of_length hl
    rcases h with ⟨h1, h2⟩ | rfl | ⟨c, v', rfl, hc⟩
    · exfalso
      have hm : (32 : UInt8) ∈ u := List.mem_of_getLast? h1
      have := List.all_takeWhile (p := p) (l := u)
      rw [hall, List.all_eq_true] at this
      rw [this 32 hm] at h2
      cases h2
    · rw [List.takeWhile_nil, List.append_nil, hall]
    · rw [List.takeWhile_cons_of_neg (by rw [hc]; decide), List.append_nil, hall]
  · rfl
theorem tokNL_app {u v : List UInt8} (hu : u ≠ []) (h : Sep u v) : tokNL (u ++ v) = tokNL u := by
  have e1 : (u ++ v).takeWhile low = u.takeWhile low := takew_app hu (by
    rcases h with h | h | h | ⟨c, v', h, h1, h2, h3, h4⟩
    · exact absurd h hu
    · exact Or.inl ⟨h, by decide⟩
    · exact Or.inr (Or.inl h)
    · exact Or.inr (Or.inr ⟨c, v', h, h1⟩))
  have e2 : (u ++ v).takeWhile dig = u.takeWhile dig := takew_app hu (by
    rcases h with h | h | h | ⟨c, v', h, h1, h2, h3, h4⟩
    · exact absurd h hu
    · exact Or.inl ⟨h, by decide⟩
    · exact Or.inr (Or.inl h)
    · exact Or.inr (Or.inr ⟨c, v', h, h2⟩))
  have e3 : ∀ a b : UInt8, (a = 33 ∧ b = 61 ∨ a = 46 ∧ b = 46) → Lib.hasPrefix (u ++ v) [a, b] = Lib.hasPrefix u [a, b] := by
    intro a b hab
    match u, hu with
    | x :: y :: u', _ => simp [Lib.hasPrefix, List.isPrefixOf]
    | [x], _ =>
      cases v with
      | nil => rfl
      | cons c v' =>
        simp only [Lib.hasPrefix, List.cons_append, List.nil_append, List.isPrefixOf_cons_cons, List.isPrefixOf_cons_nil, List.isPrefixOf_nil_left, Bool.and_true]
        rcases h with h | h | h | ⟨c', v'', h, h1, h2, h3, h4⟩
        · cases h
        · simp only [List.getLast?_singleton, Option.some.injEq] at h
          subst h
          have : (a == 32) = false := by rcases hab with ⟨rfl, _⟩ | ⟨rfl, _⟩ <;> rfl
          rw [this, Bool.false_and]; rfl
        · cases h
        · injection h with ha hb
          subst ha hb
          simp only [List.getLast?_singleton, Option.some.injEq] at h3 h4
          rw [Bool.and_false, Bool.and_eq_false_iff]
          by_cases hx : a = x
          · right
            subst hx
            refine beq_eq_false_iff_ne.2 (fun e => ?_)
            subst e
            rcases hab with ⟨rfl, rfl⟩ | ⟨rfl, rfl⟩
            · exact h3 ⟨rfl, rfl⟩
            · exact h4 ⟨rfl, rfl⟩
          · left; exact beq_eq_false_iff_ne.2 hx
  have e4 : (u ++ v = []) = (u = []) := by simp [hu]
  have e5 : (u ++ v).headD 0 = u.headD 0 := by cases u with
    | nil => exact absurd rfl hu
    | cons a b => rfl
  unfold tokNL
  rw [e1, e2, e3 33 61 (Or.inl ⟨rfl, rfl⟩), e3 46 46 (Or.inr ⟨rfl, rfl⟩), e5]
  simp only [e4]
theorem sep_suffix {u u' v : List UInt8} (h : Sep u v) (hs : u' <:+ u) : Sep u' v := by
  obtain ⟨t, rfl⟩ := hs
  by_cases hu : u' = []
  · exact Or.inl hu
  · have e : (t ++ u').getLast? = u'.getLast? := by
      cases hg : u'.getLast? with
      | none => exact absurd (List.getLast?_eq_none_iff.1 hg) hu
      | some x => rw [List.getLast?_append, hg]; rfl
    rcases h with h | h | h | ⟨c, v', h, h1, h2, h3, h4⟩
    · exact absurd (List.append_eq_nil_iff.1 h).2 hu
    · exact Or.inr (Or.inl (e ▸ h))
    · exact Or.inr (Or.inr (Or.inl h))
    · exact Or.inr (Or.inr (Or.inr ⟨c, v', h, h1, h2, e ▸ h3, e ▸ h4⟩))
theorem tokNL_le {l : List UInt8} {n : Nat} (h : tokNL l = some n) : n ≤ l.length := by
  have := tokN_le (s := mkS l) (n := n) (by rw [tokN_L]; simpa [mkS] using h)
  rwa [show (mkS l).size = l.length by simp [mkS, ByteArray.size]] at this
theorem tokL_app : ∀ (m : Nat) (u v : List UInt8), u.length ≤ m → Sep u v → tokL (u ++ v) = (tokL u).bind fun tu => (tokL v).map (tu ++ ·) := by
  intro m
  induction m with
  | zero =>
    intro u v hm h
    obtain rfl : u = [] := List.eq_nil_of_length_eq_zero (by omega)
    rw [List.nil_append, show tokL [] = some [] from rfl]
    cases tokL v <;> rfl
  | succ m ih =>
    intro u v hm h
    have hd : (u ++ v).dropWhile bl = if (u.dropWhile bl).isEmpty then v.dropWhile bl else u.dropWhile bl ++ v := List.dropWhile_append
    have hsuf : u.dropWhile bl <:+ u := List.dropWhile_suffix _
    by_cases hu : u.dropWhile bl = []
    · rw [hu] at hd
      simp only [List.isEmpty_nil, if_true] at hd
      have e1 : tokL u = some [] := by rw [tokL_eq, hu]; rfl
      have e2 : tokL (u ++ v) = tokL v := by rw [tokL_eq (u ++ v), hd, ← tokL_eq v]
      rw [e1, e2]
      cases tokL v <;> rfl
    · rw [if_neg (by simpa using hu)] at hd
      rw [tokL_eq (u ++ v), hd, tokNL_app hu (sep_suffix h hsuf), tokL_eq u]
      cases hn : tokNL (u.dropWhile bl) with
      | none => rfl
      | some n =>
        simp only []
        have hle := tokNL_le hn
        have hp := tokNL_pos hn hu
        have hl : (u.dropWhile bl).length ≤ u.length := hsuf.length_le
        rw [if_neg hu, if_neg (by simp [hu]), List.drop_append_of_le_length hle, List.take_append_of_le_length hle]
        have hlt : 0 < (u.dropWhile bl).length := List.length_pos_iff.2 hu
        rw [ih _ v (by rw [List.length_drop]; omega) (sep_suffix h ((List.drop_suffix _ _).trans hsuf))]
        cases tokL ((u.dropWhile bl).drop n) with
        | none => rfl
        | some tu => cases tokL v <;> rfl
theorem tok_app (u v : List UInt8) (h : Sep u v) : tokL (u ++ v) = (tokL u).bind fun tu => (tokL v).map (tu ++ ·) := tokL_app u.length u v (Nat.le_refl _) h
end Go.Proofs.YtnkggincckdoiaaDoor.Q
