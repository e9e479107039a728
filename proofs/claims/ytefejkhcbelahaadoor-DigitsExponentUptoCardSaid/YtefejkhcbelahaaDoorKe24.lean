import Derived.Test.YtefejkhcbelahaaDoorKe5
import Derived.Test.YtefejkhcbelahaaDoorKe23
namespace Go.Proofs.YtefejkhcbelahaaDoor.Q
open Go.RowKit Go.Proofs.YtefejkhcbelahaaDoorW.PrintWords Go.Proofs.YtefejkhcbelahaaDoorW.PrintLast Go.Proofs.YtefejkhcbelahaaDoorW.PrintMore
set_option linter.unusedVariables false
set_option linter.unusedSimpArgs false
def nv : List Int → Int
  | [] => 0
  | x :: xs => x + 65536 * nv xs
def Limbs (l : List Int) : Prop := ∀ x ∈ l, 0 ≤ x ∧ x < 65536
theorem nv_app : ∀ (l m : List Int), nv (l ++ m) = nv l + 65536 ^ l.length * nv m
  | [], m => by simp [nv]
  | x :: l, m => by
    show x + 65536 * nv (l ++ m) = x + 65536 * nv l + _
    rw [nv_app l m, List.length_cons, Int.pow_succ, Int.mul_add, ← Int.mul_assoc]
    rw [Int.mul_comm (65536 ^ l.length) 65536]; omega
theorem nv_nonneg : ∀ {l : List Int}, Limbs l → 0 ≤ nv l
  | [], _ => Int.le_refl _
  | x :: l, h => by
    have h1 := h x (by simp)
    have h2 := nv_nonneg (l := l) (fun y hy => h y (by simp [hy]))
    show 0 ≤ x + 65536 * nv l
    omega
theorem nv_zeros : ∀ {l : List Int}, (∀ x ∈ l, x = 0) → nv l = 0
  | [], _ => rfl
  | x :: l, h => by
    show x + 65536 * nv l = 0
    rw [h x (by simp), nv_zeros (fun y hy => h y (by simp [hy]))]; rfl
/-- No noughts at the end. -/
def Trimmed (l : List Int) : Prop := ∀ x, l.getLast? = some x → x ≠ 0
theorem nv_pos : ∀ {l : List Int}, Limbs l → Trimmed l → l ≠ [] → 0 < nv l
  | [], _, _, h => absurd rfl h
  | [x], h, t, _ => by
    have h1 := h x (by simp)
    have h2 := t x rfl
    show 0 < x + 65536 * 0
    omega
  | x :: y :: l, h, t, _ => by
    have h1 := h x (by simp)
    have h2 := nv_pos (l := y :: l) (fun z hz => h z (by simp at hz ⊢; right; exact hz)) (fun z hz => t z (by rw [List.getLast?_cons_cons]; exact hz)) (by simp)
    show 0 < x + 65536 * nv (y :: l)
    omega
theorem rdL (l : List Int) (i : Nat) (h : i < l.length) : rd l (i : Int) = l[i] := by
  unfold rd
  rw [Int.toNat_natCast, List.getD_eq_getElem?_getD, List.getElem?_eq_getElem h]; rfl
theorem take_trim (l : List Int) (m : Nat) (hm : m ≤ l.length) (hz : ∀ i (h : i < l.length), m ≤ i → l[i] = 0) : nv (l.take m) = nv l := by
  have h := nv_app (l.take m) (l.drop m)
  rw [List.take_append_drop] at h
  have hz2 : nv (l.drop m) = 0 := nv_zeros (fun x hx => by
    obtain ⟨i, hi, rfl⟩ := List.mem_iff_getElem.1 hx
    rw [List.getElem_drop]
    exact hz _ _ (by omega))
  rw [hz2] at h
  simp at h
  exact h.symm
theorem wrapP (m : Nat) (h : 0 < m) (hm : m ≤ 1000000) : wrap64 ((m : Int) - 1) = ((m - 1 : Nat) : Int) := by unfold wrap64; omega
theorem trimmed_take (l : List Int) (m : Nat) (hm : m ≤ l.length) (h : m = 0 ∨ ∃ h : m - 1 < l.length, l[m - 1] ≠ 0) : Trimmed (l.take m) := by
  intro x hx
  rcases h with rfl | ⟨h, h2⟩
  · simp at hx
  · by_cases hm0 : m = 0
    · subst hm0; simp at hx
    · rw [List.getLast?_eq_getElem?, List.length_take, Nat.min_eq_left hm, List.getElem?_take_of_lt (by omega), List.getElem?_eq_getElem h] at hx
      obtain rfl := Option.some.inj hx
      exact h2
theorem by_l1 (x7 : Int) (l : List Int) (hl : l.length ≤ 1000000) : ∀ (m k : Nat), m ≤ l.length → m < k → (∀ i (h : i < l.length), m ≤ i → l[i] = 0) →
    ∃ m', m' ≤ l.length ∧ quipuref02_by.l1 k l x7 (m : Int) = some (l.take m', x7) ∧ nv (l.take m') = nv l ∧ Trimmed (l.take m') := by
  intro m
  induction m with
  | zero =>
    intro k hm hk hz
    obtain ⟨k, rfl⟩ : ∃ q, k = q + 1 := ⟨k - 1, by omega⟩
    refine ⟨0, Nat.zero_le _, ?_, take_trim l 0 (Nat.zero_le _) hz, trimmed_take l 0 (Nat.zero_le _) (Or.inl rfl)⟩
    simp only [quipuref02_by.l1]
    rw [if_neg (by omega), if_pos (by omega), if_pos (by omega)]
    rfl
  | succ m ih =>
    intro k hm hk hz
    obtain ⟨k, rfl⟩ : ∃ q, k = q + 1 := ⟨k - 1, by omega⟩
    have hlt : m < l.length := by omega
    by_cases h0 : l[m] = 0
    · obtain ⟨m', h1, h2, h3⟩ := ih k (by omega) (by omega) (fun i h hi => by
        by_cases hi2 : i = m
        · subst hi2; exact h0
        · exact hz i h (by omega))
      refine ⟨m', h1, ?_, h3⟩
      simp only [quipuref02_by.l1]
      rw [if_pos (by omega), wrapP (m + 1) (by omega) (by omega), Nat.add_sub_cancel, if_pos (by omega), if_pos (by omega), rdL l m hlt, if_pos h0, h2]
    · refine ⟨m + 1, hm, ?_, take_trim l (m + 1) hm hz, trimmed_take l (m + 1) hm (Or.inr ⟨hlt, h0⟩)⟩
      simp only [quipuref02_by.l1]
      rw [if_pos (by omega), wrapP (m + 1) (by omega) (by omega), Nat.add_sub_cancel, if_pos (by omega), if_pos (by omega), rdL l m hlt, if_neg h0, if_pos (by omega), if_pos (by omega), Int.toNat_natCast]
theorem trim_l0 (l : List Int) (hl : l.length ≤ 1000000) : ∀ (m k : Nat), m ≤ l.length → m < k → (∀ i (h : i < l.length), m ≤ i → l[i] = 0) →
    ∃ m', m' ≤ l.length ∧ quipuref01_trim.l0 k l (m : Int) = some (l.take m') ∧ nv (l.take m') = nv l ∧ Trimmed (l.take m') := by
  intro m
  induction m with
  | zero =>
    intro k hm hk hz
    obtain ⟨k, rfl⟩ : ∃ q, k = q + 1 := ⟨k - 1, by omega⟩
    refine ⟨0, Nat.zero_le _, ?_, take_trim l 0 (Nat.zero_le _) hz, trimmed_take l 0 (Nat.zero_le _) (Or.inl rfl)⟩
    simp only [quipuref01_trim.l0]
    rw [if_neg (by omega), if_pos (by omega), if_pos (by omega)]
    rfl
  | succ m ih =>
    intro k hm hk hz
    obtain ⟨k, rfl⟩ : ∃ q, k = q + 1 := ⟨k - 1, by omega⟩
    have hlt : m < l.length := by omega
    by_cases h0 : l[m] = 0
    · obtain ⟨m', h1, h2, h3⟩ := ih k (by omega) (by omega) (fun i h hi => by
        by_cases hi2 : i = m
        · subst hi2; exact h0
        · exact hz i h (by omega))
      refine ⟨m', h1, ?_, h3⟩
      simp only [quipuref01_trim.l0]
      rw [if_pos (by omega), wrapP (m + 1) (by omega) (by omega), Nat.add_sub_cancel, if_pos (by omega), if_pos (by omega), rdL l m hlt, if_pos h0, h2]
    · refine ⟨m + 1, hm, ?_, take_trim l (m + 1) hm hz, trimmed_take l (m + 1) hm (Or.inr ⟨hlt, h0⟩)⟩
      simp only [quipuref01_trim.l0]
      rw [if_pos (by omega), wrapP (m + 1) (by omega) (by omega), Nat.add_sub_cancel, if_pos (by omega), if_pos (by omega), rdL l m hlt, if_neg h0, if_pos (by omega), if_pos (by omega), Int.toNat_natCast]
theorem or16 (r x : Int) (hr : 0 ≤ r) (hr2 : r < 10000) (hx : 0 ≤ x) (hx2 : x < 65536) : Go.bits .or .u32 ((r * 65536) % 4294967296) x = r * 65536 + x := by
  obtain ⟨a, rfl⟩ := Int.eq_ofNat_of_zero_le hr
  obtain ⟨b, rfl⟩ := Int.eq_ofNat_of_zero_le hx
  have e : ((a : Int) * 65536) % 4294967296 = ((a * 65536 : Nat) : Int) := by omega
  rw [e, u32_or_nat _ _ (by omega) (by omega)]
  have : a * 65536 ||| b = a * 65536 + b := by
    have := Nat.two_pow_add_eq_or_of_lt (i := 16) (b := b) (by omega) a
    rw [Nat.mul_comm a 65536]
    exact this.symm
  rw [this]; omega
/-- Long division by 10000. -/
theorem by_l0 (l : List Int) (hL : Limbs l) (hl : l.length ≤ 1000000) : ∀ (j k : Nat) (x6 : List Int) (x7 : Int), j ≤ l.length → j + l.length + 2 < k → x6.length = l.length → Limbs x6 → x7 = nv (l.drop j) % 10000 → nv (x6.drop j) = nv (l.drop j) / 10000 →
    ∃ q, quipuref02_by.l0 k l 10000 x6 x7 ((j : Int) - 1) = some (q, nv l % 10000) ∧ nv q = nv l / 10000 ∧ Limbs q ∧ Trimmed q ∧ q.length ≤ l.length := by
  intro j
  induction j with
  | zero =>
    intro k x6 x7 hj hk h6 hL6 h7 hq
    obtain ⟨k, rfl⟩ : ∃ q, k = q + 1 := ⟨k - 1, by omega⟩
    obtain ⟨m', h1, h2, h3, h4⟩ := by_l1 x7 x6 (by omega) x6.length k (Nat.le_refl _) (by omega) (fun i h hi => absurd hi (by omega))
    refine ⟨x6.take m', ?_, ?_, fun x hx => hL6 x (List.mem_of_mem_take hx), h4, ?_⟩
    · simp only [quipuref02_by.l0]
      rw [if_neg (by omega), h2, h7]; rfl
    · rw [h3]; exact hq
    · rw [List.length_take]; omega
  | succ j ih =>
    intro k x6 x7 hj hk h6 hL6 h7 hq
    obtain ⟨k, rfl⟩ : ∃ q, k = q + 1 := ⟨k - 1, by omega⟩
    have hlt : j < l.length := by omega
    have hlt6 : j < x6.length := by omega
    have hx := hL l[j] (List.getElem_mem hlt)
    have r0 : 0 ≤ x7 ∧ x7 < 10000 := by omega
    have ed : l.drop j = l[j] :: l.drop (j + 1) := List.drop_eq_getElem_cons hlt
    have ev : nv (l.drop j) = l[j] + 65536 * nv (l.drop (j + 1)) := by rw [ed]; rfl
    have et : Int.tdiv (x7 * 65536 + l[j]) 10000 = (x7 * 65536 + l[j]) / 10000 := Int.tdiv_eq_ediv_of_nonneg (by omega)
    have em : Int.tmod (x7 * 65536 + l[j]) 10000 = (x7 * 65536 + l[j]) % 10000 := Int.tmod_eq_emod_of_nonneg (by omega)
    have ew : wrap64 (((j + 1 : Nat) : Int) - 1 - 1) = (j : Int) - 1 := by unfold wrap64; omega
    have e1 : (((j + 1 : Nat) : Int) - 1) = (j : Int) := by omega
    have q1 : (x7 * 65536 + l[j]) / 10000 < 65536 := Int.ediv_lt_of_lt_mul (by decide) (by omega)
    have q0 : 0 ≤ (x7 * 65536 + l[j]) / 10000 := Int.ediv_nonneg (by omega) (by decide)
    have q2 : ((x7 * 65536 + l[j]) / 10000) % 4294967296 = (x7 * 65536 + l[j]) / 10000 := Int.emod_eq_of_lt q0 (by omega)
    simp only [quipuref02_by.l0]
    rw [ew, e1, if_pos (by omega), if_pos (by omega), if_pos (by omega), if_neg (by omega), if_pos (by omega), rdL l j hlt, or16 x7 l[j] r0.1 r0.2 hx.1 hx.2, et, em, q2, Int.toNat_natCast]
    refine ih k _ _ (by omega) (by omega) (by rw [List.length_set, h6]) ?_ ?_ ?_
    · intro y hy
      rcases List.mem_or_eq_of_mem_set hy with h | rfl
      · exact hL6 y h
      · exact ⟨q0, q1⟩
    · rw [ev]; omega
    · rw [List.drop_eq_getElem_cons (by rw [List.length_set]; exact hlt6), List.getElem_set_self, List.drop_set_of_lt (by omega)]
      show _ + 65536 * nv (x6.drop (j + 1)) = _
      rw [hq, ev]; omega
theorem by_p (l : List Int) (hL : Limbs l) (hl : l.length ≤ 1000000) (k : Nat) (hk : 2 * l.length + 2 < k) :
    ∃ q, quipuref02_by.f k l 10000 = some (q, nv l % 10000) ∧ nv q = nv l / 10000 ∧ Limbs q ∧ Trimmed q ∧ q.length ≤ l.length := by
  have w : wrap64 ((l.length : Int) - 1) = (l.length : Int) - 1 := by unfold wrap64; omega
  have e : nv (l.drop l.length) = 0 := by rw [List.drop_length]; rfl
  obtain ⟨q, h, h2⟩ := by_l0 l hL hl l.length k (List.replicate l.length 0) 0 (Nat.le_refl _) (by omega) (by simp) (fun x hx => by rw [List.eq_of_mem_replicate hx]; omega) (by rw [e]; rfl) (by
    rw [e, List.drop_of_length_le (by simp)]; rfl)
  refine ⟨q, ?_, h2⟩
  unfold quipuref02_by.f
  rw [Int.toNat_natCast, if_pos (by omega), if_pos (by omega), w]
  exact h
end Go.Proofs.YtefejkhcbelahaaDoor.Q

namespace Go.Proofs.YtefejkhcbelahaaDoor.Q
open Go.RowKit Go.Proofs.YtefejkhcbelahaaDoorW.PrintWords Go.Proofs.YtefejkhcbelahaaDoorW.PrintLast Go.Proofs.YtefejkhcbelahaaDoorW.PrintMore
set_option linter.unusedVariables false
set_option linter.unusedSimpArgs false
def dv : List Int → Nat
  | [] => 0
  | x :: xs => (x - 48).toNat + 10 * dv xs
def Digs (l : List Int) : Prop := ∀ x ∈ l, 48 ≤ x ∧ x ≤ 57
theorem dv_app : ∀ (l m : List Int), dv (l ++ m) = dv l + 10 ^ l.length * dv m
  | [], m => by simp [dv]
  | x :: l, m => by
    show (x - 48).toNat + 10 * dv (l ++ m) = (x - 48).toNat + 10 * dv l + _
    rw [dv_app l m, List.length_cons, Nat.pow_succ, Nat.mul_add, ← Nat.mul_assoc, Nat.mul_comm (10 ^ l.length) 10]; omega
theorem dv_zeros : ∀ {l : List Int}, (∀ x ∈ l, x = 48) → dv l = 0
  | [], _ => rfl
  | x :: l, h => by
    show (x - 48).toNat + 10 * dv l = 0
    rw [h x (by simp), dv_zeros (fun y hy => h y (by simp [hy]))]; rfl
theorem dv_trim (l : List Int) (m : Nat) (hz : ∀ i (h : i < l.length), m ≤ i → l[i] = 48) : dv (l.take m) = dv l := by
  have h := dv_app (l.take m) (l.drop m)
  rw [List.take_append_drop] at h
  have hz2 : dv (l.drop m) = 0 := dv_zeros (fun x hx => by
    obtain ⟨i, hi, rfl⟩ := List.mem_iff_getElem.1 hx
    rw [List.getElem_drop]
    exact hz _ _ (by omega))
  rw [hz2] at h
  simp at h
  exact h.symm
theorem rev_dec : ∀ (l : List Int), Digs l → l ≠ [] → (∀ x, l.getLast? = some x → x ≠ 48) → (l.reverse.map fun n => UInt8.ofNat n.toNat) = Lib.decDigits (dv l) ∧ 0 < dv l
  | [], _, h, _ => absurd rfl h
  | [x], h, _, t => by
    have h1 := h x (by simp)
    have h2 := t x rfl
    have e : dv [x] = (x - 48).toNat := by show (x - 48).toNat + 10 * 0 = _; omega
    rw [e, Lib.decDigits_one (by omega)]
    refine ⟨?_, by omega⟩
    show [UInt8.ofNat x.toNat] = _
    rw [show x.toNat = 48 + (x - 48).toNat from by omega]
  | x :: y :: l, h, _, t => by
    have h1 := h x (by simp)
    obtain ⟨h2, h3⟩ := rev_dec (y :: l) (fun z hz => h z (by simp at hz ⊢; right; exact hz)) (by simp) (fun z hz => t z (by rw [List.getLast?_cons_cons]; exact hz))
    have e : dv (x :: y :: l) = (x - 48).toNat + 10 * dv (y :: l) := rfl
    rw [List.reverse_cons, List.map_append, h2, e]
    refine ⟨?_, by omega⟩
    conv => rhs; rw [Lib.decDigits, dif_neg (by omega)]
    rw [show ((x - 48).toNat + 10 * dv (y :: l)) / 10 = dv (y :: l) from by omega, show ((x - 48).toNat + 10 * dv (y :: l)) % 10 = (x - 48).toNat from by omega]
    show _ ++ [UInt8.ofNat x.toNat] = _
    rw [show x.toNat = 48 + (x - 48).toNat from by omega]
theorem text_l3 (x3 : List Int) (hl : x3.length ≤ 1000000) : ∀ (m k : Nat) (x8 : List Int), m ≤ x3.length → m < k → x8.length + m ≤ 1000000 → quipuref02_Text.l3 k x3 x8 ((m : Int) - 1) = some (strOfNums (x8 ++ (x3.take m).reverse)) := by
  intro m
  induction m with
  | zero =>
    intro k x8 hm hk h8
    obtain ⟨k, rfl⟩ : ∃ q, k = q + 1 := ⟨k - 1, by omega⟩
    simp only [quipuref02_Text.l3]
    rw [if_neg (by omega)]
    simp
  | succ m ih =>
    intro k x8 hm hk h8
    obtain ⟨k, rfl⟩ : ∃ q, k = q + 1 := ⟨k - 1, by omega⟩
    have hlt : m < x3.length := by omega
    have e1 : (((m + 1 : Nat) : Int) - 1) = (m : Int) := by omega
    have ew : wrap64 ((m : Int) - 1) = (m : Int) - 1 := by unfold wrap64; omega
    have e2 : x3.take (m + 1) = x3.take m ++ [x3[m]] := by rw [List.take_add_one, List.getElem?_eq_getElem hlt]; rfl
    simp only [quipuref02_Text.l3]
    rw [e1, ew, if_pos (by omega), if_pos (by omega), if_pos (by omega), if_pos (by omega), rdL x3 m hlt, ih k _ (by omega) (by omega) (by rw [List.length_append]; simp; omega), e2, List.reverse_append, List.append_assoc]
    rfl
theorem strNums (l : List Int) (m : List UInt8) (h : (l.map fun n => UInt8.ofNat n.toNat) = m) : strOfNums l = mkS m := by unfold strOfNums mkS; rw [h]
theorem text_l2 (x3 : List Int) (hD : Digs x3) (hl : x3.length ≤ 100000) : ∀ (m k : Nat), m ≤ x3.length → x3.length + m + 2 < k → (∀ i (h : i < x3.length), m ≤ i → x3[i] = 48) → quipuref02_Text.l2 k x3 (m : Int) = some (mkS (Lib.decDigits (dv x3))) := by
  intro m
  induction m with
  | zero =>
    intro k hm hk hz
    obtain ⟨k, rfl⟩ : ∃ q, k = q + 2 := ⟨k - 2, by omega⟩
    have h0 : dv x3 = 0 := by rw [← dv_trim x3 0 hz]; rfl
    simp only [quipuref02_Text.l2, quipuref02_Text.j3]
    rw [if_neg (by omega), if_pos (show ((0 : Nat) : Int) = 0 from rfl), h0, Lib.decDigits_one (by omega)]
    rfl
  | succ m ih =>
    intro k hm hk hz
    obtain ⟨k, rfl⟩ : ∃ q, k = q + 2 := ⟨k - 2, by omega⟩
    have hlt : m < x3.length := by omega
    simp only [quipuref02_Text.l2]
    rw [if_pos (by omega), wrapP (m + 1) (by omega) (by omega), Nat.add_sub_cancel, if_pos (by omega), if_pos (by omega), rdL x3 m hlt]
    by_cases h0 : x3[m] = 48
    · rw [if_pos h0]
      exact ih (k + 1) (by omega) (by omega) (fun i h hi => by
        by_cases hi2 : i = m
        · subst hi2; exact h0
        · exact hz i h (by omega))
    · rw [if_neg h0]
      have hne : x3.take (m + 1) ≠ [] := by
        intro h
        have := congrArg List.length h
        rw [List.length_take, Nat.min_eq_left hm] at this
        simp at this
      obtain ⟨hr, _⟩ := rev_dec (x3.take (m + 1)) (fun x hx => hD x (List.mem_of_mem_take hx)) hne (fun x hx => by
        rw [List.getLast?_eq_getElem?, List.length_take, Nat.min_eq_left hm, List.getElem?_take_of_lt (by omega), Nat.add_sub_cancel, List.getElem?_eq_getElem hlt] at hx
        obtain rfl := Option.some.inj hx
        exact h0)
      rw [dv_trim x3 (m + 1) hz] at hr
      have h3 := text_l3 x3 (by omega) (m + 1) k [] hm (by omega) (by simp; omega)
      have ew : wrap64 (((m + 1 : Nat) : Int) - 1) = ((m + 1 : Nat) : Int) - 1 := by unfold wrap64; omega
      simp only [quipuref02_Text.j3]
      rw [if_neg (by omega), ew, h3, List.nil_append, strNums _ _ hr]
def low4 (r : Int) : List Int := [48 + r % 10, 48 + r / 10 % 10, 48 + r / 10 / 10 % 10, 48 + r / 10 / 10 / 10 % 10]
theorem text_l1 (k : Nat) (x3 q : List Int) (r : Int) (h0 : 0 ≤ r) (h1 : r < 10000) (hl : x3.length ≤ 1000000) : quipuref02_Text.l1 (k + 5) x3 q r 0 = quipuref02_Text.l0 k q (x3 ++ low4 r) := by
  have st : ∀ (k : Nat) (y : List Int) (u : Int) (i : Int), 0 ≤ u → u < 10000 → y.length ≤ 2000000 → 0 ≤ i → i < 4 → quipuref02_Text.l1 (k + 1) y q u i = quipuref02_Text.l1 k (y ++ [48 + u % 10]) q (u / 10) (i + 1) := by
    intro k y u i hu hu2 hy hi hi2
    simp only [quipuref02_Text.l1]
    have e1 : (48 + Int.tmod u 10) % 256 = 48 + u % 10 := by rw [Int.tmod_eq_emod_of_nonneg hu]; omega
    have e2 : (Int.tdiv u 10) % 4294967296 = u / 10 := by rw [Int.tdiv_eq_ediv_of_nonneg hu]; omega
    have e3 : wrap64 (i + 1) = i + 1 := by unfold wrap64; omega
    rw [if_pos hi2, if_pos (by omega), e1, e2, e3]
  rw [st (k + 4) x3 r 0 h0 h1 (by omega) (by omega) (by omega), st (k + 3) _ (r / 10) (0 + 1) (by omega) (by omega) (by rw [List.length_append]; simp; omega) (by omega) (by omega),
    st (k + 2) _ (r / 10 / 10) (0 + 1 + 1) (by omega) (by omega) (by simp only [List.length_append, List.length_cons, List.length_nil]; omega) (by omega) (by omega),
    st (k + 1) _ (r / 10 / 10 / 10) (0 + 1 + 1 + 1) (by omega) (by omega) (by simp only [List.length_append, List.length_cons, List.length_nil]; omega) (by omega) (by omega)]
  simp only [quipuref02_Text.l1]
  rw [if_neg (by omega)]
  simp [low4]
theorem text_l0 : ∀ (m : Nat) (x0 x3 : List Int), nv x0 < 10000 ^ m → Limbs x0 → Trimmed x0 → Digs x3 → x0.length ≤ 1000 → x3.length + 4 * m ≤ 1000 →
    Ev (fun k => quipuref02_Text.l0 k x0 x3) (mkS (Lib.decDigits (dv x3 + 10 ^ x3.length * (nv x0).toNat))) := by
  have done : ∀ (x3 : List Int), Digs x3 → x3.length ≤ 1000 → Ev (fun k => quipuref02_Text.l0 k [] x3) (mkS (Lib.decDigits (dv x3 + 10 ^ x3.length * (nv []).toNat))) := by
    intro x3 hd h3
    refine ⟨3000, fun k hk => ?_⟩
    obtain ⟨k, rfl⟩ : ∃ q, k = q + 1 := ⟨k - 1, by omega⟩
    simp only [quipuref02_Text.l0]
    rw [if_neg (by simp), text_l2 x3 hd (by omega) x3.length k (Nat.le_refl _) (by omega) (fun i h hi => absurd hi (by omega))]
    rfl
  intro m
  induction m with
  | zero =>
    intro x0 x3 hv hL ht hd h0 h3
    have : x0 = [] := by
      apply Classical.byContradiction
      intro h
      have := nv_pos hL ht h
      simp at hv
      omega
    subst this
    exact done x3 hd (by omega)
  | succ m ih =>
    intro x0 x3 hv hL ht hd h0 h3
    by_cases he : x0 = []
    · subst he; exact done x3 hd (by omega)
    · have hlen : 0 < x0.length := List.length_pos_iff.2 he
      obtain ⟨q, hq, hq1, hq2, hq3, hq4⟩ := by_p x0 hL (by omega) 3000 (by omega)
      have hnn := nv_nonneg hL
      have hr : 0 ≤ nv x0 % 10000 ∧ nv x0 % 10000 < 10000 := by omega
      have hI := ih q (x3 ++ low4 (nv x0 % 10000)) (by rw [hq1]; rw [Int.pow_succ] at hv; omega) hq2 hq3 (fun x hx => by
        rcases List.mem_append.1 hx with h | h
        · exact hd x h
        · simp only [low4, List.mem_cons, List.not_mem_nil, or_false] at h
          rcases h with rfl | rfl | rfl | rfl <;> omega) (by omega) (by rw [List.length_append]; simp [low4]; omega)
      have hdv : dv (low4 (nv x0 % 10000)) = (nv x0 % 10000).toNat := by
        simp only [low4, dv]; omega
      have el : (x3 ++ low4 (nv x0 % 10000)).length = x3.length + 4 := by rw [List.length_append]; rfl
      have e1 : dv (x3 ++ low4 (nv x0 % 10000)) + 10 ^ (x3 ++ low4 (nv x0 % 10000)).length * (nv q).toNat = dv x3 + 10 ^ x3.length * (nv x0).toNat := by
        rw [dv_app, hdv, el, Nat.pow_add, hq1, Nat.mul_assoc, Nat.add_assoc, ← Nat.mul_add]
        congr 2
        omega
      rw [e1] at hI
      obtain ⟨K, hK⟩ := hI
      refine ⟨K + 3007, fun k hk => ?_⟩
      obtain ⟨k, rfl⟩ : ∃ q, k = q + 6 := ⟨k - 6, by omega⟩
      obtain ⟨q', hq', hq1', _⟩ := by_p x0 hL (by omega) (k + 5) (by omega)
      have hqq : quipuref02_by.f (k + 5) x0 10000 = some (q, nv x0 % 10000) := at_rounds (quipuref02_by.mono x0 10000) (by omega) hq
      simp only [quipuref02_Text.l0]
      rw [if_pos (by omega), hqq]
      simp only [Option.bind_some]
      rw [text_l1 k x3 q _ hr.1 hr.2 (by omega)]
      exact hK k (by omega)
theorem Text_p (x0 : List Int) (hv : nv x0 < 18446744073709551616) (hL : Limbs x0) (ht : Trimmed x0) (h0 : x0.length ≤ 1000) : Ev (fun k => quipuref02_Text.f k x0) (mkS (Lib.decDigits (nv x0).toNat)) := by
  have := text_l0 5 x0 [] (Int.lt_of_lt_of_le hv (by decide)) hL ht (fun _ h => by simp at h) h0 (by simp)
  simpa [dv, quipuref02_Text.f] using this
theorem limb_at (v : Nat) (hv : v < 18446744073709551616) (i : Nat) (hi : i < 4) : (Go.bits .and .u64 (shr .u64 (v : Int) (wrap64 (16 * (i : Int)))) 65535) % 4294967296 = ((v / 65536 ^ i % 65536 : Nat) : Int) := by
  have w : wrap64 (16 * (i : Int)) = ((16 * i : Nat) : Int) := by unfold wrap64; omega
  have e0 : shr .u64 (v : Int) ((16 * i : Nat) : Int) = ((v / 65536 ^ i : Nat) : Int) := by
    unfold shr
    have e : min (((16 * i : Nat) : Int)).toNat IntKind.u64.bits = 16 * i := by
      have : IntKind.u64.bits = 64 := rfl
      rw [this]; omega
    have e65 : 65536 ^ i = 2 ^ (16 * i) := by rw [Nat.pow_mul]
    rw [e, e65]
    simp
  have hle : v / 65536 ^ i < 18446744073709551616 := Nat.lt_of_le_of_lt (Nat.div_le_self _ _) hv
  have ha : v / 65536 ^ i &&& 65535 = v / 65536 ^ i % 65536 := Nat.and_two_pow_sub_one_eq_mod (v / 65536 ^ i) 16
  have hb := u64_and_nat (v / 65536 ^ i) 65535 hle (by omega)
  rw [w, e0]
  rw [ha] at hb
  have hlt : v / 65536 ^ i % 65536 < 65536 := Nat.mod_lt _ (by decide)
  have : Go.bits .and .u64 ((v / 65536 ^ i : Nat) : Int) 65535 = ((v / 65536 ^ i % 65536 : Nat) : Int) := hb
  rw [this]
  omega
def limbs4 (v : Nat) : List Int := [((v % 65536 : Nat) : Int), ((v / 65536 % 65536 : Nat) : Int), ((v / 65536 ^ 2 % 65536 : Nat) : Int), ((v / 65536 ^ 3 % 65536 : Nat) : Int)]
theorem nv_limbs4 (v : Nat) (hv : v < 18446744073709551616) : nv (limbs4 v) = (v : Int) := by
  simp only [limbs4, nv]; omega
theorem In_p (v : Nat) (hv : v < 18446744073709551616) : ∃ l, (∀ k, 20 ≤ k → quipuref01_In.f k [(v : Int)] = some l) ∧ nv l = (v : Int) ∧ Limbs l ∧ Trimmed l ∧ l.length ≤ 4 := by
  have hLb : Limbs (limbs4 v) := by
    intro x hx
    simp only [limbs4, List.mem_cons, List.not_mem_nil, or_false] at hx
    rcases hx with rfl | rfl | rfl | rfl <;> omega
  obtain ⟨m', h1, h2, h3, h4⟩ := trim_l0 (limbs4 v) (by simp [limbs4]) 4 10 (Nat.le_refl _) (by omega) (fun i h hi => by simp [limbs4] at h; omega)
  refine ⟨(limbs4 v).take m', fun k hk => ?_, h3.trans (nv_limbs4 v hv), fun x hx => hLb x (List.mem_of_mem_take hx), h4, by rw [List.length_take]; simp [limbs4]; omega⟩
  obtain ⟨k, rfl⟩ : ∃ q, k = q + 7 := ⟨k - 7, by omega⟩
  have st : ∀ (k : Nat) (y : List Int) (i : Nat), y.length ≤ 1000 → i < 4 → quipuref01_In.l1 (k + 1) [(v : Int)] y 0 (i : Int) = quipuref01_In.l1 k [(v : Int)] (y ++ [((v / 65536 ^ i % 65536 : Nat) : Int)]) 0 ((i + 1 : Nat) : Int) := by
    intro k y i hy hi
    have w : wrap64 (16 * (i : Int)) = ((16 * i : Nat) : Int) := by unfold wrap64; omega
    have hr : rd [(v : Int)] 0 = (v : Int) := rfl
    have := limb_at v hv i hi
    simp only [quipuref01_In.l1]
    rw [hr, this, if_pos (by omega), if_pos (by omega), if_pos (by simp), if_pos (by rw [w]; omega), if_pos (by omega), wrapS i 10 (by omega) (by omega)]
  have e : quipuref01_In.l1 (k + 6) [(v : Int)] [] 0 0 = quipuref01_In.l1 (k + 2) [(v : Int)] (limbs4 v) 0 4 := by
    have s0 := st (k + 5) [] 0 (by simp) (by omega)
    have s1 := st (k + 4) ([] ++ [((v / 65536 ^ 0 % 65536 : Nat) : Int)]) 1 (by simp) (by omega)
    have s2 := st (k + 3) ([] ++ [((v / 65536 ^ 0 % 65536 : Nat) : Int)] ++ [((v / 65536 ^ 1 % 65536 : Nat) : Int)]) 2 (by simp) (by omega)
    have s3 := st (k + 2) ([] ++ [((v / 65536 ^ 0 % 65536 : Nat) : Int)] ++ [((v / 65536 ^ 1 % 65536 : Nat) : Int)] ++ [((v / 65536 ^ 2 % 65536 : Nat) : Int)]) 3 (by simp) (by omega)
    have : limbs4 v = [] ++ [((v / 65536 ^ 0 % 65536 : Nat) : Int)] ++ [((v / 65536 ^ 1 % 65536 : Nat) : Int)] ++ [((v / 65536 ^ 2 % 65536 : Nat) : Int)] ++ [((v / 65536 ^ 3 % 65536 : Nat) : Int)] := by
      simp [limbs4]
    rw [this]
    exact s0.trans (s1.trans (s2.trans s3))
  have hw : wrap64 ((0 : Int) + 1) = 1 := by unfold wrap64; omega
  unfold quipuref01_In.f
  rw [show k + 7 = (k + 6) + 1 from rfl, quipuref01_In.l0, if_pos (by simp), e, show k + 2 = (k + 1) + 1 from rfl, quipuref01_In.l1, if_neg (by omega), hw, quipuref01_In.l0, if_neg (by simp)]
  unfold quipuref01_trim.f
  have : ((limbs4 v).length : Int) = ((4 : Nat) : Int) := rfl
  rw [this, at_rounds (fun k => quipuref01_trim.mono_l k (limbs4 v) ((4 : Nat) : Int)) (show 10 ≤ k from by omega) h2]
  rfl
theorem Number_p (n : Int) (h1 : -9223372036854775808 ≤ n) (h2 : n ≤ 9223372036854775807) : Ev (fun k => quipuref05_Number.f k n) (mkS (Lib.itoa n)) := by
  have hu : IntKind.u64.wrap (if n < 0 then wrap64 (-n) else n) = ((n.natAbs : Nat) : Int) := by
    split
    · have : IntKind.u64.wrap (wrap64 (-n)) = (wrap64 (-n)) % 18446744073709551616 := rfl
      rw [this]; unfold wrap64; omega
    · have : IntKind.u64.wrap n = n % 18446744073709551616 := rfl
      rw [this]; omega
  obtain ⟨l, hl, hv, hL, ht, hn⟩ := In_p n.natAbs (by omega)
  obtain ⟨K, hK⟩ := Text_p l (by rw [hv]; omega) hL ht (by omega)
  rw [hv, Int.toNat_natCast] at hK
  refine ⟨K + 20, fun k hk => ?_⟩
  show quipuref05_Number.f k n = _
  unfold quipuref05_Number.f Lib.itoa
  by_cases h0 : n < 0
  · rw [if_pos h0] at hu
    rw [if_pos h0, if_pos h0, hu, hl k (by omega), Option.bind_some]
    have hk2 : quipuref02_Text.f k l = some _ := hK k (by omega)
    rw [hk2, Option.bind_some, if_pos ?_]
    · congr 1
    · have hle : ∀ (m u : Nat), u < 10 ^ (m + 1) → (Lib.decDigits u).length ≤ m + 1 := by
        intro m
        induction m with
        | zero => intro u hu; rw [Lib.decDigits_one (by omega)]; simp
        | succ m ih =>
          intro u hu
          by_cases c : u < 10
          · rw [Lib.decDigits_one c]; simp
          · rw [Lib.decDigits, dif_neg c, List.length_append]
            have := ih (u / 10) (by rw [Nat.pow_succ] at hu; omega)
            simp; omega
      have := hle 19 n.natAbs (by omega)
      rw [mkS_size]; omega
  · rw [if_neg h0] at hu
    rw [if_neg h0, if_neg h0, hu, hl k (by omega), Option.bind_some]
    have hk2 : quipuref02_Text.f k l = some _ := hK k (by omega)
    rw [hk2, Option.bind_some]
    congr 3
    omega
end Go.Proofs.YtefejkhcbelahaaDoor.Q
