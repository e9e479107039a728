import Derived.Test.YtfgjfkocbennnaaDoorMayp
namespace Go.Proofs.YtfgjfkocbennnaaDoor.Q
open Go.RowKit Go.Proofs.YtfgjfkocbennnaaDoorW.PrintWords Go.Proofs.YtfgjfkocbennnaaDoorW.PrintMore
set_option linter.unusedVariables false
set_option linter.unusedSimpArgs false

/-! ### Rows of digits, their noughts ahead and behind -/
theorem bare_nil {r : List UInt8} : bareL r = [] ↔ ∀ b ∈ r, b = 48 := by
  rw [← trimRight_48]
  unfold Lib.trimRightS
  rw [List.reverse_eq_nil_iff]
  constructor
  · intro h b hb
    cases hc : (b == 48) with
    | true => exact beq_iff_eq.1 hc
    | false =>
      have := mem_dropWhile (p := (([48] : List UInt8).contains ·)) r.reverse b (List.mem_reverse.2 hb) (by rw [contains1]; exact hc)
      rw [h] at this
      simp at this
  · intro h
    exact dropWhile_all _ (fun b hb => by rw [contains1]; exact beq_iff_eq.2 (h b (List.mem_reverse.1 hb)))
theorem take_drop_rev (p : UInt8 → Bool) : ∀ l : List UInt8, l = l.takeWhile p ++ l.dropWhile p := fun l => (List.takeWhile_append_dropWhile).symm
theorem mem_takeW : ∀ (l : List UInt8) (b : UInt8), b ∈ l.takeWhile (· == (48 : UInt8)) → b = 48
  | [], b, h => by simp at h
  | a :: l, b, h => by
    simp only [List.takeWhile] at h
    cases ha : (a == (48 : UInt8)) with
    | false => rw [ha] at h; simp at h
    | true =>
      rw [ha] at h
      rcases List.mem_cons.1 h with rfl | h2
      · exact beq_iff_eq.1 ha
      · exact mem_takeW l b h2
theorem bare_split (r : List UInt8) : r = bareL r ++ List.replicate (r.length - (bareL r).length) 48 := by
  have h := take_drop_rev (· == (48 : UInt8)) r.reverse
  have h2 : ∀ b ∈ r.reverse.takeWhile (· == (48 : UInt8)), b = 48 := by
    intro b hb
    exact mem_takeW _ b hb
  have h3 : r.reverse.takeWhile (· == (48 : UInt8)) = List.replicate (r.reverse.takeWhile (· == (48 : UInt8))).length 48 := List.eq_replicate_of_mem h2
  have h4 : r = (r.reverse.dropWhile (· == 48)).reverse ++ (r.reverse.takeWhile (· == (48 : UInt8))).reverse := by
    have := congrArg List.reverse h
    rwa [List.reverse_reverse, List.reverse_append] at this
  have hl : r.length = (bareL r).length + (r.reverse.takeWhile (· == (48 : UInt8))).length := by
    have h5 := congrArg List.length h4
    rw [List.length_append, List.length_reverse, List.length_reverse] at h5
    unfold bareL
    rw [List.length_reverse]
    exact h5
  have e : r.length - (bareL r).length = (r.reverse.takeWhile (· == (48 : UInt8))).length := by omega
  rw [e]
  conv => lhs; rw [h4]
  show bareL r ++ _ = _
  congr 1
  rw [h3, List.length_replicate, List.reverse_replicate]
theorem lead_app {x y : List UInt8} (h : ∃ b ∈ x, b ≠ 48) : leadL (x ++ y) = leadL x ++ y := by
  unfold leadL
  induction x with
  | nil => obtain ⟨b, hb, _⟩ := h; simp at hb
  | cons a x ih =>
    simp only [List.cons_append, List.dropWhile]
    cases ha : (a == (48 : UInt8)) with
    | false => rfl
    | true =>
      refine ih ?_
      obtain ⟨b, hb, hne⟩ := h
      rcases List.mem_cons.1 hb with rfl | hb2
      · exact absurd (beq_iff_eq.1 ha) hne
      · exact ⟨b, hb2, hne⟩
theorem lead_nil {l : List UInt8} : leadL l = [] ↔ ∀ b ∈ l, b = 48 := by
  constructor
  · intro h b hb
    cases hc : (b == (48 : UInt8)) with
    | true => exact beq_iff_eq.1 hc
    | false =>
      have := mem_dropWhile (p := (· == (48 : UInt8))) l b hb hc
      unfold leadL at h
      rw [h] at this
      simp at this
  · intro h
    exact dropWhile_all _ (fun b hb => beq_iff_eq.2 (h b hb))
theorem aheadL_eq (l : List UInt8) : aheadL l = if leadL l = [] then [48] else leadL l := rfl
theorem lead_head {l : List UInt8} (h : leadL l ≠ []) : ∃ b r, leadL l = b :: r ∧ b ≠ 48 := by
  unfold leadL at *
  induction l with
  | nil => exact absurd rfl h
  | cons a l ih =>
    simp only [List.dropWhile] at h ⊢
    cases ha : (a == (48 : UInt8)) with
    | true => rw [ha] at h; exact ih h
    | false => exact ⟨a, l, rfl, fun e => by rw [e] at ha; cases ha⟩
theorem digB_sub {l m : List UInt8} (h : ∀ b ∈ m, b ∈ l) (hd : digB l = true) : digB m = true := by
  unfold digB at *
  rw [List.all_eq_true] at *
  exact fun b hb => hd b (h b hb)
theorem digB_app {l m : List UInt8} (h1 : digB l = true) (h2 : digB m = true) : digB (l ++ m) = true := by
  unfold digB at *
  rw [List.all_append, h1, h2]; rfl
theorem digB_rep (n : Nat) : digB (List.replicate n 48) = true := by
  unfold digB
  rw [List.all_eq_true]
  intro b hb
  rw [List.eq_of_mem_replicate hb]; decide
theorem ahead_number {l : List UInt8} {m : Nat} (hd : digB l = true) (hl : l.length ≤ m) : numberB (mkS (aheadL l)) (m : Int) = true := by
  unfold numberB
  rw [mkS_data, mkS_size, aheadL_eq]
  by_cases h : leadL l = []
  · rw [if_pos h]; rfl
  · rw [if_neg h]
    obtain ⟨b, r, e, hb⟩ := lead_head h
    have h1 : digB (leadL l) = true := digB_sub (fun b hb => mem_of_dropWhile l b hb) hd
    have h2 := leadL_le l
    rw [h1, decide_eq_true (show ((leadL l).length : Int) ≤ (m : Int) by omega), e]
    have h3 : (b == 48) = false := beq_eq_false_iff_ne.2 hb
    simp [h3]
theorem bare_last {r : List UInt8} (h : bareL r ≠ []) : ∃ b ∈ bareL r, b ≠ 48 := by
  apply Classical.byContradiction
  intro hn
  have hall : ∀ b ∈ bareL r, b = 48 := fun b hb => Classical.byContradiction fun hne => hn ⟨b, hb, hne⟩
  apply h
  rw [bare_nil]
  intro b hb
  rw [bare_split r] at hb
  rcases List.mem_append.1 hb with hb | hb
  · exact hall b hb
  · exact List.eq_of_mem_replicate hb
/-- What is told may be. -/
theorem told_may {a b : List UInt8} {e : Nat} (ha : a.length ≤ 4096) (hb : b.length ≤ 4096) (he : e ≤ 2001) (da : digB a = true) (db : digB b = true) :
    mayO (okOps a b e).1 (okOps a b e).2.1 (okOps a b e).2.2.1 (okOps a b e).2.2.2.1 (okOps a b e).2.2.2.2.1 (okOps a b e).2.2.2.2.2.1 = true := by
  unfold okOps mayO
  simp only
  have dr : digB (b.drop e) = true := digB_sub (fun x hx => List.mem_of_mem_drop hx) db
  have lr : (b.drop e).length ≤ 4096 := by rw [List.length_drop]; omega
  have dw : digB (wholeL a b e) = true := digB_app da (digB_app (digB_sub (fun x hx => List.mem_of_mem_take hx) db) (digB_rep _))
  have lw : (wholeL a b e).length ≤ 8192 := by
    unfold wholeL
    simp only [List.length_append, List.length_take, List.length_replicate]
    omega
  generalize b.drop e = r at dr lr
  have hbl := bareL_le r
  have dbr : digB (bareL r) = true := digB_sub (fun x hx => by rw [bare_split r]; exact List.mem_append_left _ hx) dr
  have n1 := ahead_number dw lw
  have n2 := ahead_number (m := r.length) dr (Nat.le_refl _)
  have n3 := ahead_number (m := (bareL r).length) dbr (Nat.le_refl _)
  have e1 : ((8192 : Nat) : Int) = 8192 := rfl
  rw [e1] at n1
  rw [n1, n2, n3]
  have hrng : rangeO (r.length : Int) ((bareL r).length : Int) (e : Int) = true := by
    unfold rangeO
    simp only [Bool.and_eq_true, decide_eq_true_eq]
    omega
  rw [hrng]
  simp only [Bool.true_and]
  unfold lastO
  have hT : (mkS (aheadL (bareL r))).toList = aheadL (bareL r) := by rw [toList_data, mkS_data]
  have hF : (mkS (aheadL r)).toList = aheadL r := by rw [toList_data, mkS_data]
  rw [hT, hF]
  by_cases hz : bareL r = []
  · have h1 : aheadL (bareL r) = [48] := by rw [hz]; rfl
    have h2 : aheadL r = [48] := by rw [aheadL_eq, if_pos (lead_nil.2 (bare_nil.1 hz))]
    rw [h1, if_pos rfl, h2]; rfl
  · have hx := bare_last hz
    have hl1 : leadL (bareL r) ≠ [] := fun h => by
      obtain ⟨b, hb, hne⟩ := hx
      exact hne (lead_nil.1 h b hb)
    have h1 : aheadL (bareL r) = leadL (bareL r) := by rw [aheadL_eq, if_neg hl1]
    have h2 : leadL r = leadL (bareL r) ++ List.replicate (r.length - (bareL r).length) 48 := by
      conv => lhs; rw [bare_split r]
      exact lead_app hx
    have h3 : aheadL r = leadL (bareL r) ++ List.replicate (r.length - (bareL r).length) 48 := by
      rw [aheadL_eq, if_neg (by rw [h2]; intro h; exact hl1 (List.append_eq_nil_iff.1 h).1), h2]
    have h4 : ((r.length : Int) - ((bareL r).length : Int)).toNat = r.length - (bareL r).length := by omega
    obtain ⟨c, q, e2, hc⟩ := lead_head hl1
    rw [h1, if_neg (by rw [e2]; intro h; injection h with h5 _; exact hc h5), h3, h4]
    exact beq_self_eq_true _
end Go.Proofs.YtfgjfkocbennnaaDoor.Q
