import Derived.Test.YtfgjfkocbennnaaDoorOpsl
namespace Go.Proofs.YtfgjfkocbennnaaDoor.Q
open Go.RowKit Go.Proofs.YtfgjfkocbennnaaDoorW.PrintWords
set_option linter.unusedVariables false
set_option linter.unusedSimpArgs false

/-! ### The number itself, plainly -/
theorem lead_split : ∀ l : List UInt8, List.replicate (l.length - (leadL l).length) 48 ++ leadL l = l
  | [] => rfl
  | a :: l => by
    have ih := lead_split l
    have h := leadL_le l
    cases ha : (a == (48 : UInt8)) with
    | false =>
      have e : leadL (a :: l) = a :: l := by unfold leadL; simp only [List.dropWhile, ha]
      rw [e, Nat.sub_self]; rfl
    | true =>
      have e : leadL (a :: l) = leadL l := by unfold leadL; simp only [List.dropWhile, ha]
      rw [e, List.length_cons, Nat.succ_sub h, List.replicate_succ, List.cons_append, ih, beq_iff_eq.1 ha]
theorem bare_lead {L : List UInt8} (h : bareL L ≠ []) : leadL (bareL L) ≠ [] := fun e => by
  obtain ⟨b, hb, hne⟩ := bare_last h
  exact hne (lead_nil.1 e b hb)
theorem ahead_nought {L : List UInt8} (h : bareL L ≠ []) : aheadL (bareL L) ≠ [48] := fun e => by
  rw [aheadL_eq, if_neg (bare_lead h)] at e
  obtain ⟨b, r, e2, hb⟩ := lead_head (bare_lead h)
  rw [e2] at e
  injection e with e3 _
  exact hb e3
/-- The fraction is put together again. -/
theorem frac_again {L : List UInt8} (h : bareL L ≠ []) : List.replicate ((bareL L).length - (aheadL (bareL L)).length) 48 ++ aheadL (bareL L) ++ List.replicate (L.length - (bareL L).length) 48 = L := by
  have e : aheadL (bareL L) = leadL (bareL L) := by rw [aheadL_eq, if_neg (bare_lead h)]
  rw [e, lead_split]
  exact (bare_split L).symm
theorem frac_noughts {L : List UInt8} (h : bareL L = []) : List.replicate L.length 48 = L := by
  have := bare_split L
  rw [h, List.nil_append] at this
  simpa using this.symm
theorem lead_ahead (l r : List UInt8) : leadL (aheadL l ++ r) = leadL (l ++ r) := by
  by_cases h : leadL l = []
  · have e : aheadL l = [48] := by rw [aheadL_eq, if_pos h]
    rw [e]
    have e2 : leadL ([48] ++ r) = leadL r := rfl
    rw [e2]
    have hl := lead_split l
    rw [h, List.append_nil] at hl
    rw [← hl]
    generalize l.length - ([] : List UInt8).length = n
    induction n with
    | zero => rfl
    | succ n ih => rw [List.replicate_succ, List.cons_append]; exact ih
  · have hx : ∃ b ∈ l, b ≠ 48 := Classical.byContradiction fun hn => h (lead_nil.2 fun b hb => Classical.byContradiction fun hne => hn ⟨b, hb, hne⟩)
    have e : aheadL l = leadL l := by rw [aheadL_eq, if_neg h]
    rw [e, lead_app hx]
    obtain ⟨b, q, e2, hb⟩ := lead_head h
    rw [e2]
    have h3 : (b == (48 : UInt8)) = false := beq_eq_false_iff_ne.2 hb
    unfold leadL
    simp only [List.cons_append, List.dropWhile, h3]
theorem ahead_ahead (l : List UInt8) : aheadL (aheadL l) = aheadL l := by
  have h := lead_ahead l []
  rw [List.append_nil, List.append_nil] at h
  rw [aheadL_eq (aheadL l), h]
  exact (aheadL_eq l).symm
theorem bare_zeros (r : List UInt8) (n : Nat) : bareL (r ++ List.replicate n 48) = bareL r := by
  induction n with
  | zero => rw [List.replicate_zero, List.append_nil]
  | succ n ih =>
    rw [List.replicate_succ', ← List.append_assoc]
    have : ∀ s : List UInt8, bareL (s ++ [48]) = bareL s := fun s => by unfold bareL; rw [List.reverse_append]; rfl
    rw [this, ih]
/-- Digits and exponent of a row of digits. -/
def digX (t : List UInt8) (x : Int) : List UInt8 × Int := (bareL (leadL t), if bareL (leadL t) = [] then 0 else x + (leadL t).length - (bareL (leadL t)).length)
theorem digX_zeros (t : List UInt8) (n : Nat) (x : Int) : digX (t ++ List.replicate n 48) x = digX t (x + n) := by
  unfold digX
  by_cases h : leadL t = []
  · have hz : leadL (t ++ List.replicate n 48) = [] := lead_nil.2 fun b hb => by
      rcases List.mem_append.1 hb with hb | hb
      · exact lead_nil.1 h b hb
      · exact List.eq_of_mem_replicate hb
    rw [h, hz]; rfl
  · have hx : ∃ b ∈ t, b ≠ 48 := Classical.byContradiction fun hn => h (lead_nil.2 fun b hb => Classical.byContradiction fun hne => hn ⟨b, hb, hne⟩)
    rw [lead_app hx, bare_zeros, List.length_append, List.length_replicate]
    congr 1
    split
    · rfl
    · omega
theorem valP_eq {n : Bool} {a b : ByteArray} {e : Int} (hm : mayR 0 n a b e = true) :
    valP 0 n a b e = if decMayB 0 n (mkS (digX (a.data.toList ++ b.data.toList) (e - b.size)).1) (digX (a.data.toList ++ b.data.toList) (e - b.size)).2 = true then (0, n, mkS (digX (a.data.toList ++ b.data.toList) (e - b.size)).1, (digX (a.data.toList ++ b.data.toList) (e - b.size)).2, 0) else (0, false, ⟨#[]⟩, 0, 51) := by
  unfold valP
  rw [hm, if_neg (by simp), if_pos rfl]
  rfl
theorem digX_ahead (l r : List UInt8) (x : Int) : digX (aheadL l ++ r) x = digX (l ++ r) x := by unfold digX; rw [lead_ahead]
/-- What is Compact stands for the same number. -/
theorem digX_whole (la lb : List UInt8) (i : Nat) : digX (aheadL (wholeL la lb i) ++ lb.drop i) (0 - ((lb.drop i).length : Int)) = digX (la ++ lb) ((i : Int) - lb.length) := by
  rw [digX_ahead]
  unfold wholeL
  by_cases h : i ≤ lb.length
  · rw [show i - lb.length = 0 by omega, List.replicate_zero, List.append_nil, List.append_assoc, List.take_append_drop, List.length_drop]
    congr 1
    omega
  · rw [List.drop_of_length_le (by omega), List.take_of_length_le (by omega), List.append_nil, ← List.append_assoc, digX_zeros]
    congr 1
    simp
    omega
theorem whole_dig {la lb : List UInt8} (i : Nat) (ha : digB la = true) (hb : digB lb = true) : digB (aheadL (wholeL la lb i)) = true ∧ digB (lb.drop i) = true := by
  have dr : digB (lb.drop i) = true := digB_sub (fun x hx => List.mem_of_mem_drop hx) hb
  have dw : digB (wholeL la lb i) = true := digB_app ha (digB_app (digB_sub (fun x hx => List.mem_of_mem_take hx) hb) (digB_rep _))
  refine ⟨?_, dr⟩
  rw [aheadL_eq]
  split
  · decide
  · exact digB_sub (fun b hb => mem_of_dropWhile _ b hb) dw
theorem ahead_ne (l : List UInt8) : aheadL l ≠ [] := by
  rw [aheadL_eq]; split
  · simp
  · assumption
/-- What the flat digits tell. -/
theorem flat_may {n : Bool} {la lb : List UInt8} {i : Nat} (ha : digB la = true) (hb : digB lb = true) (h1 : (aheadL (wholeL la lb i)).length ≤ 4000) (h2 : (lb.drop i).length ≤ 4000) :
    mayR 0 n (mkS (aheadL (wholeL la lb i))) (mkS (lb.drop i)) 0 = true := by
  obtain ⟨d1, d2⟩ := whole_dig i ha hb
  have hne : (aheadL (wholeL la lb i)).length ≠ 0 := fun h => ahead_ne _ (List.length_eq_zero_iff.1 h)
  generalize aheadL (wholeL la lb i) = x at *
  generalize lb.drop i = y at *
  unfold mayR rowB
  rw [if_pos rfl, mkS_data, mkS_data, mkS_size, mkS_size, d1, d2, decide_eq_true (show x.length ≤ 4096 by omega), decide_eq_true (show y.length ≤ 4096 by omega), beq_eq_false_iff_ne.2 (show x.length + y.length ≠ 0 by omega)]
  rfl
theorem flat_val {n : Bool} {a b : ByteArray} {e : Int} {i : Nat} (he : e = (i : Int)) (hm : mayR 0 n a b e = true) (h1 : (aheadL (wholeL a.data.toList b.data.toList i)).length ≤ 4000) (h2 : (b.data.toList.drop i).length ≤ 4000) :
    valP 0 n (mkS (aheadL (wholeL a.data.toList b.data.toList i))) (mkS (b.data.toList.drop i)) 0 = valP 0 n a b e := by
  subst he
  obtain ⟨s1, s2, s3, s4, s5, s6, s7⟩ := may_size hm
  have hf := flat_may (n := n) s5 s6 h1 h2
  rw [valP_eq hf, valP_eq hm, mkS_data, mkS_data, mkS_size, digX_whole, slen]
theorem flat_of (la lb : List UInt8) (i : Nat) : okOps (aheadL (wholeL la lb i)) (lb.drop i) 0 = ((okOps la lb i).1, (okOps la lb i).2.1, (okOps la lb i).2.2.1, (okOps la lb i).2.2.2.1, (okOps la lb i).2.2.2.2.1, 0, 0) := by
  unfold okOps
  have : wholeL (aheadL (wholeL la lb i)) (lb.drop i) 0 = aheadL (wholeL la lb i) := by unfold wholeL; simp
  rw [this, ahead_ahead, List.drop_zero]
  rfl
end Go.Proofs.YtfgjfkocbennnaaDoor.Q
