import Derived.Test.YtffldajbnhbkkaaDoorKv27
namespace Go.Proofs.YtffldajbnhbkkaaDoor.Q
open Go.RowKit Go.Proofs.YtffldajbnhbkkaaDoorW.PrintWords Go.Proofs.YtffldajbnhbkkaaDoorW.PrintLast Go.Proofs.YtffldajbnhbkkaaDoorW.PrintMore
set_option linter.unusedVariables false
set_option linter.unusedSimpArgs false
def flatL (l : List S31) : List Int := l.flatMap fun x => [x.f1, x.f2]
/-- The edges: each once, rising. -/
def edgesL (s : ByteArray) (l : List S31) : List Int := Lib.compact (sortI ([0, (s.size : Int)] ++ flatL l))
def fieldGo (a b : Int) : List S31 → Int → Int
  | [], f => f
  | x :: xs, f => fieldGo a b xs (if x.f1 ≤ a then (if b ≤ x.f2 then x.f0 else f) else f)
def subS (s : ByteArray) (a b : Int) : ByteArray := s.extract a.toNat b.toNat
def leafGo (s : ByteArray) (l : List S31) : List Int → List S43
  | a :: b :: r => ⟨subS s a b, fieldGo a b l 0⟩ :: leafGo s l (b :: r)
  | _ => []
/-- What Leaves tells. -/
def leavesR (s : ByteArray) (l : List S31) : List S43 × Int := if chkB s l = true then (leafGo s l (edgesL s l), 0) else ([], 170)
theorem placeB_in {s : ByteArray} {n : Int} (h : placeB s n = true) : 0 ≤ n ∧ n ≤ s.size := by
  unfold placeB at h
  by_cases h0 : 0 ≤ n
  · rw [decide_eq_true h0, Bool.true_and] at h
    refine ⟨h0, ?_⟩
    unfold placeN at h
    by_cases h1 : n.toNat = s.size
    · omega
    · rw [decide_eq_false h1, Bool.false_or] at h
      by_cases h2 : n.toNat < s.data.size
      · have : s.data.size = s.size := rfl
        omega
      · rw [Array.getElem?_eq_none (by omega)] at h
        cases h
  · rw [decide_eq_false h0] at h; cases h
theorem chkGo_all {s : ByteArray} : ∀ (l rs : List S31), chkGo s l rs = true → ∀ x ∈ l, spanBad s x = false
  | [], _, _, x, hx => by cases hx
  | y :: l, rs, h, x, hx => by
    unfold chkGo at h
    by_cases c : spanBad s y = true
    · rw [if_pos c] at h; cases h
    · rw [if_neg c] at h
      by_cases c2 : topBad (popE rs y.f1) y.f2 = true
      · rw [if_pos c2] at h; cases h
      · rw [if_neg c2] at h
        rcases List.mem_cons.1 hx with rfl | hx
        · simpa using c
        · exact chkGo_all l _ h x hx
theorem chk_span {s : ByteArray} {l : List S31} (h : chkB s l = true) : ∀ x ∈ l, spanBad s x = false := by
  unfold chkB at h
  rw [Bool.and_eq_true, Bool.and_eq_true] at h
  exact chkGo_all l [] h.2.2
theorem span_in {s : ByteArray} {x : S31} (h : spanBad s x = false) : 1 ≤ x.f0 ∧ x.f0 < 18 ∧ placeB s x.f1 = true ∧ placeB s x.f2 = true ∧ x.f1 < x.f2 := by
  unfold spanBad at h
  rw [Bool.or_eq_false_iff, Bool.or_eq_false_iff] at h
  obtain ⟨h1, h2, h3⟩ := h
  have a1 := of_decide_eq_false h1
  have a2 := of_decide_eq_false h2
  rw [Bool.not_eq_false'] at h3
  unfold stretchB at h3
  rw [Bool.and_eq_true, Bool.and_eq_true] at h3
  exact ⟨by omega, by omega, h3.1.1, h3.1.2, of_decide_eq_true h3.2⟩
theorem mem_compact {zs : List Int} {x : Int} (h : x ∈ Lib.compact zs) : x ∈ zs := by
  unfold Lib.compact Lib.compactUpTo at h
  obtain ⟨i, hi, rfl⟩ := List.mem_map.1 h
  have hi2 := List.mem_range.1 (List.mem_filter.1 hi).1
  rw [getElem!_pos _ _ (by simpa using hi2)]
  simp
theorem compact_pair {zs : List Int} (h : zs.Pairwise (· ≤ ·)) : (Lib.compact zs).Pairwise (· ≤ ·) := by
  unfold Lib.compact Lib.compactUpTo
  have e : (List.range zs.length).map (fun i => zs.toArray[i]!) = zs := by
    refine List.ext_getElem (by simp) (fun i h1 h2 => ?_)
    simp [h2]
  have hs : (((List.range zs.length).filter (Lib.keeps zs.toArray)).map (fun i => zs.toArray[i]!)).Sublist ((List.range zs.length).map (fun i => zs.toArray[i]!)) := (List.filter_sublist).map _
  rw [e] at hs
  exact h.sublist hs
theorem sortI_pair (zs : List Int) : (sortI zs).Pairwise (· ≤ ·) := by
  have := List.pairwise_mergeSort (le := fun x y : Int => decide (x ≤ y)) (by intro a b c; simp; omega) (by intro a b; simp; omega) zs
  exact this.imp (fun h => by simpa using h)
theorem edges_in {s : ByteArray} {l : List S31} (h : chkB s l = true) : ∀ e ∈ edgesL s l, 0 ≤ e ∧ e ≤ s.size := by
  intro e he
  have h1 := List.mem_mergeSort.1 (mem_compact he)
  rcases List.mem_append.1 h1 with h2 | h2
  · simp only [List.mem_cons, List.not_mem_nil, or_false] at h2
    rcases h2 with rfl | rfl
    · exact ⟨Int.le_refl _, Int.natCast_nonneg _⟩
    · exact ⟨Int.natCast_nonneg _, Int.le_refl _⟩
  · obtain ⟨x, hx, hxe⟩ := List.mem_flatMap.1 h2
    obtain ⟨_, _, p1, p2, _⟩ := span_in (chk_span h x hx)
    simp only [List.mem_cons, List.not_mem_nil, or_false] at hxe
    rcases hxe with rfl | rfl
    · exact placeB_in p1
    · exact placeB_in p2
theorem edges_pair (s : ByteArray) (l : List S31) : (edgesL s l).Pairwise (· ≤ ·) := compact_pair (sortI_pair _)
theorem flat_len (l : List S31) : (flatL l).length = 2 * l.length := by
  induction l with
  | nil => rfl
  | cons x l ih => show (flatL l).length + 1 + 1 = _; rw [ih, List.length_cons]; omega
theorem edges_le (s : ByteArray) (l : List S31) : (edgesL s l).length ≤ 2 * l.length + 2 := by
  refine Nat.le_trans (compact_le _) ?_
  rw [sortI_len, List.length_append, flat_len]; simp; omega
theorem edges_pos (s : ByteArray) (l : List S31) : 0 < (edgesL s l).length := by
  unfold edgesL Lib.compact Lib.compactUpTo
  rw [List.length_map]
  refine List.length_pos_iff.2 (fun e => ?_)
  have hm : 0 ∈ (List.range (sortI ([0, (s.size : Int)] ++ flatL l)).length).filter (Lib.keeps (sortI ([0, (s.size : Int)] ++ flatL l)).toArray) := by
    refine List.mem_filter.2 ⟨List.mem_range.2 (by rw [sortI_len, List.length_append]; simp; omega), Lib.keeps_lt_one _ 0 (by omega)⟩
  rw [e] at hm; cases hm
theorem flat_take (l : List S31) (i : Nat) (h : i < l.length) : flatL (l.take (i + 1)) = flatL (l.take i) ++ [l[i].f1, l[i].f2] := by
  unfold flatL
  rw [List.take_succ_eq_append_getElem h, List.flatMap_append]; rfl
theorem leaf_step (s : ByteArray) (l : List S31) (E : List Int) (j : Nat) (h : j + 1 < E.length) : leafGo s l (E.drop j) = ⟨subS s E[j] E[j + 1], fieldGo E[j] E[j + 1] l 0⟩ :: leafGo s l (E.drop (j + 1)) := by
  rw [List.drop_eq_getElem_cons (by omega : j < E.length), List.drop_eq_getElem_cons h]; rfl
theorem leaf_done (s : ByteArray) (l : List S31) (E : List Int) (j : Nat) (h : j + 1 = E.length) : leafGo s l (E.drop j) = [] := by
  rw [List.drop_eq_getElem_cons (by omega : j < E.length), List.drop_of_length_le (by omega)]; rfl
theorem leafGo_len (s : ByteArray) (l : List S31) : ∀ E : List Int, (leafGo s l E).length ≤ E.length
  | [] => Nat.le_refl _
  | [a] => Nat.zero_le _
  | a :: b :: r => by
    show (leafGo s l (b :: r)).length + 1 ≤ _
    have := leafGo_len s l (b :: r)
    rw [List.length_cons]; omega
end Go.Proofs.YtffldajbnhbkkaaDoor.Q
