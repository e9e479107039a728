import Derived.Test.YtnkggincckdoiaaDoorKr25
import Derived.Test.YtnkggincckdoiaaDoorKr26
namespace Go.Proofs.YtnkggincckdoiaaDoor.Q
open Go.RowKit Go.Shelf Go.Proofs.YtnkggincckdoiaaDoorW.PrintWords Go.Proofs.YtnkggincckdoiaaDoorW.PrintLast Go.Proofs.YtnkggincckdoiaaDoorW.PrintMore
set_option linter.unusedVariables false
set_option linter.unusedSimpArgs false
theorem all256 {p q : UInt8 → Bool} (h : ((List.range 256).all fun n => p (UInt8.ofNat n) == q (UInt8.ofNat n)) = true) (c : UInt8) : p c = q c := by
  have := List.all_eq_true.1 h c.toNat (List.mem_range.2 c.toNat_lt)
  rw [UInt8.ofNat_toNat] at this
  exact beq_iff_eq.1 this
theorem bl_i (c : UInt8) : bl c = decide ((c.toNat : Int) = 32) := all256 (q := fun c => decide ((c.toNat : Int) = 32)) (by kernel_rfl) c
theorem low_i (c : UInt8) : low c = (decide ((c.toNat : Int) ≥ 97) && decide ((c.toNat : Int) ≤ 122)) := all256 (q := fun c => (decide ((c.toNat : Int) ≥ 97) && decide ((c.toNat : Int) ≤ 122))) (by kernel_rfl) c
theorem dig_i (c : UInt8) : dig c = (decide ((c.toNat : Int) ≥ 48) && decide ((c.toNat : Int) ≤ 57)) := all256 (q := fun c => (decide ((c.toNat : Int) ≥ 48) && decide ((c.toNat : Int) ≤ 57))) (by kernel_rfl) c
theorem sig_i (c : UInt8) : sig c = (decide ((c.toNat : Int) = 58) || decide ((c.toNat : Int) = 59) || decide ((c.toNat : Int) = 37) || decide ((c.toNat : Int) = 61) || decide ((c.toNat : Int) = 44) || ((c.toNat : Int) == 43)) :=
  all256 (q := fun c => (decide ((c.toNat : Int) = 58) || decide ((c.toNat : Int) = 59) || decide ((c.toNat : Int) = 37) || decide ((c.toNat : Int) = 61) || decide ((c.toNat : Int) = 44) || ((c.toNat : Int) == 43))) (by kernel_rfl) c
theorem ext_at (s : ByteArray) (i n : Nat) (h : i + n ≤ s.size) : s.extract i (i + n) = mkS ((s.data.toList.drop i).take n) := by
  rcases s with ⟨⟨l⟩⟩
  apply ByteArray.ext
  apply Array.toList_inj.1
  simp [ByteArray.data_extract, mkS]
theorem wrapI1 (i : Nat) (h : i ≤ 4096) : wrap64 ((i : Int) + 1) = ((i + 1 : Nat) : Int) := by unfold wrap64; omega
theorem wrapI2 (i : Nat) (h : i ≤ 4096) : wrap64 ((i : Int) + 2) = ((i + 2 : Nat) : Int) := by unfold wrap64; omega
theorem parts_l1 (s : ByteArray) (out : List ByteArray) (i0 : Nat) (hs : s.size ≤ 4096) (ho : out.length < 8796093022208) : ∀ (m i k : Nat), i ≤ s.size → i0 ≤ i → ((s.data.toList.drop i).takeWhile low).length = m → m + 1 ≤ k →
    quipuref09_parts.l1 k s out (i : Int) (i0 : Int) = quipuref09_parts.l0 (k - m - 1) s (out ++ [s.extract i0 (i + m)]) ((i + m : Nat) : Int) := by
  intro m
  induction m with
  | zero =>
    intro i k hi h0 hm hk
    obtain ⟨k, rfl⟩ : ∃ k', k = k' + 1 := ⟨k - 1, by omega⟩
    rw [quipuref09_parts.l1]
    by_cases hlt : i < s.size
    · have hb := bt_get s i hlt
      rw [dropD s i hlt, List.takeWhile_cons] at hm
      have hc : low s[i] = false := by
        cases h : low s[i] with
        | false => rfl
        | true => rw [h] at hm; simp at hm
      rw [low_i, Bool.and_eq_false_iff, decide_eq_false_iff_not, decide_eq_false_iff_not] at hc
      rw [if_pos (by omega), if_pos (by omega), hb]
      by_cases h1 : ((s[i].toNat : Nat) : Int) ≥ 97
      · rw [if_pos h1, if_neg (by rcases hc with h | h <;> omega), if_pos (by omega), if_pos (by omega), if_pos (by omega), if_pos ho]
        simp
      · rw [if_neg h1, if_pos (by omega), if_pos (by omega), if_pos (by omega), if_pos ho]
        simp
    · rw [if_neg (by omega), if_pos (by omega), if_pos (by omega), if_pos (by omega), if_pos ho]
      simp
  | succ m ih =>
    intro i k hi h0 hm hk
    obtain ⟨k, rfl⟩ : ∃ k', k = k' + 1 := ⟨k - 1, by omega⟩
    have hlt : i < s.size := by
      refine Nat.lt_of_not_le fun h => ?_
      rw [List.drop_eq_nil_of_le (by rw [slen]; omega)] at hm
      simp at hm
    have hb := bt_get s i hlt
    rw [dropD s i hlt, List.takeWhile_cons] at hm
    have hc : low s[i] = true := by
      cases h : low s[i] with
      | true => rfl
      | false => rw [h] at hm; simp at hm
    rw [hc] at hm
    simp only [if_true, List.length_cons, Nat.add_right_cancel_iff] at hm
    rw [low_i, Bool.and_eq_true, decide_eq_true_eq, decide_eq_true_eq] at hc
    rw [quipuref09_parts.l1, if_pos (by omega), if_pos (by omega), hb, if_pos hc.1, if_pos hc.2, wrapI1 i (by omega), ih (i + 1) k (by omega) (by omega) hm (by omega)]
    rw [show i + 1 + m = i + (m + 1) by omega, show k + 1 - (m + 1) - 1 = k - m - 1 by omega]
theorem parts_l2 (s : ByteArray) (out : List ByteArray) (i0 : Nat) (hs : s.size ≤ 4096) (ho : out.length < 8796093022208) : ∀ (m i k : Nat), i ≤ s.size → i0 ≤ i → ((s.data.toList.drop i).takeWhile dig).length = m → m + 1 ≤ k →
    quipuref09_parts.l2 k s out (i : Int) (i0 : Int) = quipuref09_parts.l0 (k - m - 1) s (out ++ [s.extract i0 (i + m)]) ((i + m : Nat) : Int) := by
  intro m
  induction m with
  | zero =>
    intro i k hi h0 hm hk
    obtain ⟨k, rfl⟩ : ∃ k', k = k' + 1 := ⟨k - 1, by omega⟩
    rw [quipuref09_parts.l2]
    by_cases hlt : i < s.size
    · have hb := bt_get s i hlt
      rw [dropD s i hlt, List.takeWhile_cons] at hm
      have hc : dig s[i] = false := by
        cases h : dig s[i] with
        | false => rfl
        | true => rw [h] at hm; simp at hm
      rw [dig_i, Bool.and_eq_false_iff, decide_eq_false_iff_not, decide_eq_false_iff_not] at hc
      rw [if_pos (by omega), if_pos (by omega), hb]
      by_cases h1 : ((s[i].toNat : Nat) : Int) ≥ 48
      · rw [if_pos h1, if_neg (by rcases hc with h | h <;> omega), if_pos (by omega), if_pos (by omega), if_pos (by omega), if_pos ho]
        simp
      · rw [if_neg h1, if_pos (by omega), if_pos (by omega), if_pos (by omega), if_pos ho]
        simp
    · rw [if_neg (by omega), if_pos (by omega), if_pos (by omega), if_pos (by omega), if_pos ho]
      simp
  | succ m ih =>
    intro i k hi h0 hm hk
    obtain ⟨k, rfl⟩ : ∃ k', k = k' + 1 := ⟨k - 1, by omega⟩
    have hlt : i < s.size := by
      refine Nat.lt_of_not_le fun h => ?_
      rw [List.drop_eq_nil_of_le (by rw [slen]; omega)] at hm
      simp at hm
    have hb := bt_get s i hlt
    rw [dropD s i hlt, List.takeWhile_cons] at hm
    have hc : dig s[i] = true := by
      cases h : dig s[i] with
      | true => rfl
      | false => rw [h] at hm; simp at hm
    rw [hc] at hm
    simp only [if_true, List.length_cons, Nat.add_right_cancel_iff] at hm
    rw [dig_i, Bool.and_eq_true, decide_eq_true_eq, decide_eq_true_eq] at hc
    rw [quipuref09_parts.l2, if_pos (by omega), if_pos (by omega), hb, if_pos hc.1, if_pos hc.2, wrapI1 i (by omega), ih (i + 1) k (by omega) (by omega) hm (by omega)]
    rw [show i + 1 + m = i + (m + 1) by omega, show k + 1 - (m + 1) - 1 = k - m - 1 by omega]
def finP (out : List ByteArray) : Option (List (List UInt8)) → List ByteArray × Bool
  | none => ([], false)
  | some ts => (out ++ ts.map mkS, true)
theorem finP_cons (out : List ByteArray) (t : List UInt8) (o : Option (List (List UInt8))) : finP out (o.map (t :: ·)) = finP (out ++ [mkS t]) o := by
  cases o with
  | none => rfl
  | some ts => simp [finP]
theorem tok_step {c : UInt8} {l : List UInt8} (hb : bl c = false) : tokL (c :: l) = match tokNL (c :: l) with
    | none => none
    | some n => (tokL ((c :: l).drop n)).map ((c :: l).take n :: ·) := by
  have e : (c :: l).dropWhile bl = c :: l := by rw [List.dropWhile_cons, hb]; rfl
  rw [tokL_eq, e]
  cases tokNL (c :: l) with
  | none => rfl
  | some n => simp only []; rw [if_neg (by simp)]
theorem parts_l0 (s : ByteArray) (hs : s.size ≤ 4096) : ∀ (r i k : Nat) (out : List ByteArray), s.size - i ≤ r → i ≤ s.size → out.length ≤ i → 5 * (s.size - i) + 1 ≤ k →
    quipuref09_parts.l0 k s out (i : Int) = some (finP out (tokL (s.data.toList.drop i))) := by
  intro r
  induction r with
  | zero =>
    intro i k out hr hi ho hk
    obtain ⟨k, rfl⟩ : ∃ k', k = k' + 1 := ⟨k - 1, by omega⟩
    rw [quipuref09_parts.l0, if_neg (by omega), List.drop_eq_nil_of_le (by rw [slen]; omega), show tokL [] = some [] by kernel_rfl]
    simp [finP]
  | succ r ih =>
    intro i k out hr hi ho hk
    rcases Nat.lt_or_ge i s.size with hlt | hge
    case inr => exact ih i k out (by omega) hi ho hk
    obtain ⟨k, rfl⟩ : ∃ k', k = k' + 1 := ⟨k - 1, by omega⟩
    have hb := bt_get s i hlt
    have hd := dropD s i hlt
    have hwl : ∀ p : UInt8 → Bool, ((s.data.toList.drop i).takeWhile p).length ≤ s.size - i := fun p => by
      refine Nat.le_trans (List.takeWhile_sublist p).length_le ?_
      rw [List.length_drop, slen]
      exact Nat.le_refl _
    rw [quipuref09_parts.l0, if_pos (by omega), if_pos (by omega), hb]
    by_cases hbl : bl s[i] = true
    · have h32 := hbl
      rw [bl_i, decide_eq_true_eq] at h32
      have e32 : s[i] = 32 := UInt8.toNat_inj.1 (by have : (32 : UInt8).toNat = 32 := rfl; omega)
      rw [if_pos h32, wrapI1 i (by omega), ih (i + 1) k out (by omega) (by omega) (by omega) (by omega), hd, e32, tok_blank]
    · have hbf : bl s[i] = false := by simpa using hbl
      have h32 := hbf
      rw [bl_i, decide_eq_false_iff_not] at h32
      rw [if_neg h32, hd, tok_step hbf, ← hd]
      have hj1 : (if ((s[i].toNat : Nat) : Int) ≥ 97 then quipuref09_parts.j1 k s out (i : Int) (i : Int) ((s[i].toNat : Nat) : Int) (decide (((s[i].toNat : Nat) : Int) ≤ 122)) else quipuref09_parts.j1 k s out (i : Int) (i : Int) ((s[i].toNat : Nat) : Int) false) = quipuref09_parts.j1 k s out (i : Int) (i : Int) ((s[i].toNat : Nat) : Int) (low s[i]) := by
        rw [low_i]
        by_cases h : ((s[i].toNat : Nat) : Int) ≥ 97
        · rw [if_pos h, decide_eq_true h, Bool.true_and]
        · rw [if_neg h, decide_eq_false h, Bool.false_and]
      rw [hj1]
      obtain ⟨k, rfl⟩ : ∃ k', k = k' + 1 := ⟨k - 1, by omega⟩
      rw [quipuref09_parts.j1]
      by_cases hlo : low s[i] = true
      · rw [if_pos hlo]
        generalize hm : ((s.data.toList.drop i).takeWhile low).length = m
        have hm1 : 0 < m := by rw [← hm, hd, List.takeWhile_cons, hlo]; simp
        have hm2 := hwl low
        rw [hm] at hm2
        have hn : tokNL (s.data.toList.drop i) = some m := by rw [tokNL, if_pos (by omega), hm]
        rw [parts_l1 s out i hs (by omega) m i k (by omega) (Nat.le_refl _) hm (by omega), ih (i + m) _ _ (by omega) (by omega) (by rw [List.length_append, List.length_singleton]; omega) (by omega), hn]
        simp only []
        rw [finP_cons, ext_at s i m (by omega), List.drop_drop]
      · have hlf : low s[i] = false := by simpa using hlo
        rw [if_neg hlo]
        have hw0 : ((s.data.toList.drop i).takeWhile low).length = 0 := by rw [hd, List.takeWhile_cons, hlf]; rfl
        have hj3 : (if ((s[i].toNat : Nat) : Int) ≥ 48 then quipuref09_parts.j3 k s out (i : Int) (i : Int) ((s[i].toNat : Nat) : Int) (decide (((s[i].toNat : Nat) : Int) ≤ 57)) else quipuref09_parts.j3 k s out (i : Int) (i : Int) ((s[i].toNat : Nat) : Int) false) = quipuref09_parts.j3 k s out (i : Int) (i : Int) ((s[i].toNat : Nat) : Int) (dig s[i]) := by
          rw [dig_i]
          by_cases h : ((s[i].toNat : Nat) : Int) ≥ 48
          · rw [if_pos h, decide_eq_true h, Bool.true_and]
          · rw [if_neg h, decide_eq_false h, Bool.false_and]
        rw [hj3]
        obtain ⟨k, rfl⟩ : ∃ k', k = k' + 1 := ⟨k - 1, by omega⟩
        rw [quipuref09_parts.j3]
        by_cases hdi : dig s[i] = true
        · rw [if_pos hdi]
          generalize hm : ((s.data.toList.drop i).takeWhile dig).length = m
          have hm1 : 0 < m := by rw [← hm, hd, List.takeWhile_cons, hdi]; simp
          have hm2 := hwl dig
          rw [hm] at hm2
          have hn : tokNL (s.data.toList.drop i) = some m := by rw [tokNL, if_neg (by omega), if_pos (by omega), hm]
          rw [parts_l2 s out i hs (by omega) m i k (by omega) (Nat.le_refl _) hm (by omega), ih (i + m) _ _ (by omega) (by omega) (by rw [List.length_append, List.length_singleton]; omega) (by omega), hn]
          simp only []
          rw [finP_cons, ext_at s i m (by omega), List.drop_drop]
        · have hdf : dig s[i] = false := by simpa using hdi
          rw [if_neg hdi]
          have hw1 : ((s.data.toList.drop i).takeWhile dig).length = 0 := by rw [hd, List.takeWhile_cons, hdf]; rfl
          have hj5 : ∀ u : Int, (if u = 58 then quipuref09_parts.j5 k s out (i : Int) (i : Int) true else if u = 59 then quipuref09_parts.j5 k s out (i : Int) (i : Int) true else if u = 37 then quipuref09_parts.j5 k s out (i : Int) (i : Int) true else if u = 61 then quipuref09_parts.j5 k s out (i : Int) (i : Int) true else if u = 44 then quipuref09_parts.j5 k s out (i : Int) (i : Int) true else quipuref09_parts.j5 k s out (i : Int) (i : Int) (u == 43)) = quipuref09_parts.j5 k s out (i : Int) (i : Int) (decide (u = 58) || decide (u = 59) || decide (u = 37) || decide (u = 61) || decide (u = 44) || (u == 43)) := by
            intro u
            repeat' split
            all_goals simp_all
          rw [hj5, ← sig_i]
          obtain ⟨k, rfl⟩ : ∃ k', k = k' + 1 := ⟨k - 1, by omega⟩
          rw [quipuref09_parts.j5]
          have hne : s.data.toList.drop i ≠ [] := by rw [hd]; simp
          by_cases hsi : sig s[i] = true
          · rw [if_pos hsi]
            have hn : tokNL (s.data.toList.drop i) = some 1 := by
              rw [tokNL, if_neg (by omega), if_neg (by omega), if_neg, if_neg hne, if_pos (by rw [hd]; exact hsi)]
              intro h
              rw [hd, Bool.or_eq_true] at h
              have h33 : s[i] ≠ 33 := fun e => by rw [e] at hsi; exact absurd hsi (by decide)
              have h46 : s[i] ≠ 46 := fun e => by rw [e] at hsi; exact absurd hsi (by decide)
              rcases h with h | h <;> simp [Lib.hasPrefix] at h
              · exact h33 h.1.symm
              · exact h46 h.1.symm
            rw [wrapI1 i (by omega), if_pos (by omega), if_pos (by omega), if_pos (by omega), if_pos (by omega), ih (i + 1) k _ (by omega) (by omega) (by rw [List.length_append, List.length_singleton]; omega) (by omega), hn]
            simp only [Int.toNat_natCast]
            rw [finP_cons, ext_at s i 1 (by omega), List.drop_drop]
          · rw [if_neg hsi, wrapI1 i (by omega), wrapI2 i (by omega)]
            have hn : tokNL (s.data.toList.drop i) = if (Lib.hasPrefix (s.data.toList.drop i) [33, 61] || Lib.hasPrefix (s.data.toList.drop i) [46, 46]) = true then some 2 else none := by
              rw [tokNL, if_neg (by omega), if_neg (by omega)]
              split
              · rfl
              · first | rw [if_neg hne, if_neg (by rw [hd]; exact hsi)] | rw [if_neg (by rw [hd]; exact hsi)]
            by_cases h2 : i + 1 < s.size
            · have hx : (s.extract (i : Int).toNat ((i + 2 : Nat) : Int).toNat).toList = (s.data.toList.drop i).take 2 := by
                rw [Int.toNat_natCast, Int.toNat_natCast, toList_data, ext_at s i 2 (by omega), mkS_data]
              have h2e : ∀ a b : UInt8, Lib.hasPrefix (s.data.toList.drop i) [a, b] = decide ((s.data.toList.drop i).take 2 = [a, b]) := by
                intro a b
                rw [hd, dropD s (i + 1) h2]
                simp [Lib.hasPrefix, List.isPrefixOf, eq_comm]
                rw [Bool.eq_iff_iff]
                simp
              rw [if_pos (by omega), if_pos (by omega), if_pos (by omega), if_pos (by omega), hx, hn, h2e, h2e]
              have hgo : (if (0 : Int) ≤ (i : Int) then if (i : Int) ≤ ((i + 2 : Nat) : Int) then if out.length < 8796093022208 then quipuref09_parts.l0 k s (out ++ [s.extract (i : Int).toNat ((i + 2 : Nat) : Int).toNat]) ((i + 2 : Nat) : Int) else none else none else none) = some (finP out ((tokL ((s.data.toList.drop i).drop 2)).map ((s.data.toList.drop i).take 2 :: ·))) := by
                rw [if_pos (by omega), if_pos (by omega), if_pos (by omega), ih (i + 2) k _ (by omega) (by omega) (by rw [List.length_append, List.length_singleton]; omega) (by omega), finP_cons, Int.toNat_natCast, Int.toNat_natCast, ext_at s i 2 (by omega), List.drop_drop]
              rw [hgo]
              by_cases p1 : (s.data.toList.drop i).take 2 = [33, 61]
              · rw [if_pos p1, decide_eq_true p1, Bool.true_or, if_pos rfl]
              · rw [if_neg p1, decide_eq_false p1, Bool.false_or]
                by_cases p2 : (s.data.toList.drop i).take 2 = [46, 46]
                · rw [if_pos p2, decide_eq_true p2, if_pos rfl]
                · rw [if_neg p2, decide_eq_false p2, if_neg (by decide)]
                  rfl
            · rw [if_neg (by omega), hn, if_neg]
              · rfl
              · rw [hd, List.drop_eq_nil_of_le (by rw [slen]; omega)]
                simp [Lib.hasPrefix]
theorem parts_eq (s : ByteArray) (hs : s.size ≤ 4096) (k : Nat) (hk : 5 * s.size + 1 ≤ k) : quipuref09_parts.f k s = some (finP [] (tokL s.data.toList)) := by
  have := parts_l0 s hs s.size 0 k [] (by omega) (Nat.zero_le _) (Nat.zero_le _) (by omega)
  rw [List.drop_zero] at this
  exact this
end Go.Proofs.YtnkggincckdoiaaDoor.Q
