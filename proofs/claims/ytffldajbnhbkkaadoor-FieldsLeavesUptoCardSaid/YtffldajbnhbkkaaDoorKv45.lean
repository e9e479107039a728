import Derived.Test.YtffldajbnhbkkaaDoorKv43
import Derived.Test.YtffldajbnhbkkaaDoorKv40
import Derived.Test.YtffldajbnhbkkaaDoorKv35
import Derived.Test.YtffldajbnhbkkaaDoorKv2
import Derived.Test.YtffldajbnhbkkaaDoorKv41
import Derived.Test.YtffldajbnhbkkaaDoorKv42
import Derived.Test.YtffldajbnhbkkaaDoorKv44
import Derived.Test.YtffldajbnhbkkaaDoorKv5
namespace Go.Proofs.YtffldajbnhbkkaaDoor.Q
open Go.RowKit Go.Proofs.YtffldajbnhbkkaaDoorW.PrintWords Go.Proofs.YtffldajbnhbkkaaDoorW.PrintLast Go.Proofs.YtffldajbnhbkkaaDoorW.PrintMore
set_option linter.unusedVariables false
set_option linter.unusedSimpArgs false
def crX (a b : S31) : Bool := cr1 a b || cr1 b a
def rowBad (s : ByteArray) (l : List S31) (i : Nat) : Bool := spanBad s (rd_T31 l (i : Int)) || (decide (0 < i) && lt31 (rd_T31 l (i : Int)) (rd_T31 l ((i - 1 : Nat) : Int)))
def mayFrom (s : ByteArray) (l : List S31) : Nat → Nat → Bool
  | 0, _ => true
  | d + 1, i => if rowBad s l i = true then false else if (l.take i).any (fun y => crX y (rd_T31 l (i : Int))) = true then false else mayFrom s l d (i + 1)
def mayB (s : ByteArray) (l : List S31) : Bool := Lib.validD s.data.toList && mayFrom s l l.length 0
theorem mayFrom_iff (s : ByteArray) (l : List S31) : ∀ (d i : Nat), i + d = l.length → (mayFrom s l d i = true ↔ ∀ j, i ≤ j → j < l.length → rowBad s l j = false ∧ (l.take j).any (fun y => crX y (rd_T31 l (j : Int))) = false)
  | 0, i, h => ⟨fun _ j h1 h2 => by omega, fun _ => rfl⟩
  | d + 1, i, h => by
    have ih := mayFrom_iff s l d (i + 1) (by omega)
    unfold mayFrom
    by_cases c1 : rowBad s l i = true
    · rw [if_pos c1]
      refine ⟨fun e => (by cases e), fun e => ?_⟩
      have := (e i (Nat.le_refl _) (by omega)).1
      rw [c1] at this; cases this
    · rw [if_neg c1]
      by_cases c2 : (l.take i).any (fun y => crX y (rd_T31 l (i : Int))) = true
      · rw [if_pos c2]
        refine ⟨fun e => (by cases e), fun e => ?_⟩
        have := (e i (Nat.le_refl _) (by omega)).2
        rw [c2] at this; cases this
      · rw [if_neg c2, ih]
        refine ⟨fun e j h1 h2 => ?_, fun e j h1 h2 => e j (by omega) h2⟩
        rcases Nat.eq_or_lt_of_le h1 with rfl | h1
        · exact ⟨by simpa using c1, by simpa using c2⟩
        · exact e j h1 h2
theorem chk_may (s : ByteArray) (l : List S31) : chkB s l = mayB s l := by
  have hm := mayFrom_iff s l l.length 0 (by omega)
  rw [Bool.eq_iff_iff, chkB_iff]
  unfold mayB
  rw [Bool.and_eq_true, hm]
  refine and_congr_right (fun _ => ?_)
  constructor
  · rintro ⟨h1, h2, h3⟩ j _ hj
    have hp := List.pairwise_iff_getElem.1 h1
    refine ⟨?_, ?_⟩
    · unfold rowBad
      rw [rd31 l j hj, h2 _ (List.getElem_mem hj), Bool.false_or]
      by_cases h0 : 0 < j
      · rw [rd31 l (j - 1) (by omega), hp (j - 1) j (by omega) hj (by omega), Bool.and_false]
      · rw [decide_eq_false h0, Bool.false_and]
    · rw [rd31 l j hj, List.any_eq_false]
      intro y hy
      obtain ⟨k, hk, rfl⟩ := List.mem_iff_getElem.1 hy
      rw [List.length_take] at hk
      rw [List.getElem_take]
      have e1 := List.pairwise_iff_getElem.1 h3 k j (by omega) hj (by omega)
      have e2 : cr1 l[j] l[k] = false := by
        cases hc : cr1 l[j] l[k] with
        | false => rfl
        | true =>
          have := (cr1_iff _ _).1 hc
          have := no_lt (hp k j (by omega) hj (by omega))
          omega
      unfold crX
      rw [e1, e2]; simp
  · intro e
    have hs : sortB l = true := by
      unfold sortB
      have : ∀ k, k < l.length → sortTo l k = true := by
        intro k
        induction k with
        | zero => intro _; rfl
        | succ k ih =>
          intro hk
          have := (e (k + 1) (Nat.zero_le _) hk).1
          unfold rowBad at this
          rw [Bool.or_eq_false_iff, decide_eq_true (Nat.succ_pos k), Bool.true_and] at this
          unfold sortTo
          rw [if_neg (by rw [show k + 1 - 1 = k from rfl] at this; rw [this.2]; simp), ih (by omega)]
      rcases Nat.eq_zero_or_pos l.length with h0 | h0
      · rw [h0]; rfl
      · exact this _ (by omega)
    refine ⟨ordd_of (sorted_of hs), fun x hx => ?_, List.pairwise_iff_getElem.2 (fun i j hi hj hij => ?_)⟩
    · obtain ⟨j, hj, rfl⟩ := List.mem_iff_getElem.1 hx
      have := (e j (Nat.zero_le _) hj).1
      unfold rowBad at this
      rw [Bool.or_eq_false_iff, rd31 l j hj] at this
      exact this.1
    · have := (e j (Nat.zero_le _) hj).2
      rw [List.any_eq_false] at this
      have hm : l[i] ∈ l.take j := List.mem_iff_getElem.2 ⟨i, by rw [List.length_take]; omega, List.getElem_take⟩
      have := this _ hm
      rw [rd31 l j hj] at this
      unfold crX at this
      cases hc : cr1 l[i] l[j] with
      | false => rfl
      | true => rw [hc] at this; simp at this
theorem wrapP (i n : Nat) (h : i < n) (h0 : 0 < i) (hn : n ≤ 140737488355328) : wrap64 ((i : Int) - 1) = ((i - 1 : Nat) : Int) := by unfold wrap64; omega
/-- May's inner loop. -/
theorem may_l1 (s : ByteArray) (l : List S31) (hl : l.length ≤ 1000000) (i : Nat) (hi : i < l.length) (x : S31) (r : Bool) : ∀ (d j : Nat), i - j = d → j ≤ i → (((l.take i).drop j).any (fun y => crX y x) = true → r = false) → (((l.take i).drop j).any (fun y => crX y x) = false → Ev (fun n => quipuref17_May.l0 n (wrap64 ((i : Int) + 1)) s l) r) →
    Ev (fun n => quipuref17_May.l1 n (i : Int) (j : Int) s l x.f0 x.f1 x.f2) r
  | 0, j, hd, hj, h1, h2 => by
    have e : (l.take i).drop j = [] := List.drop_of_length_le (by rw [List.length_take]; omega)
    rw [e] at h2
    refine (h2 rfl).step 1 (fun k => ?_)
    show quipuref17_May.l1 (k + 1) (i : Int) (j : Int) s l x.f0 x.f1 x.f2 = _
    conv => lhs; unfold quipuref17_May.l1
    rw [if_neg (by omega)]
  | d + 1, j, hd, hj, h1, h2 => by
    have hjt : j < (l.take i).length := by rw [List.length_take]; omega
    have e : (l.take i).drop j = l[j] :: (l.take i).drop (j + 1) := by
      rw [List.drop_eq_getElem_cons hjt, List.getElem_take]
    rw [e, List.any_cons] at h1 h2
    have hst : ∀ k, quipuref17_May.l1 (k + 1) (i : Int) (j : Int) s l x.f0 x.f1 x.f2 = if crX l[j] x = true then some false else quipuref17_May.l1 k (i : Int) ((j + 1 : Nat) : Int) s l x.f0 x.f1 x.f2 := fun k => by
      conv => lhs; unfold quipuref17_May.l1
      rw [if_pos (by omega), if_pos (by omega), if_pos (by omega), rd31 l j (by omega), refcross_p, Option.bind_some, wrapS j 10000000 (by omega) (by omega)]
      rfl
    by_cases c : crX l[j] x = true
    · rw [h1 (by rw [c, Bool.true_or])]
      exact Ev.now 1 (fun k => by rw [hst, if_pos c])
    · have cf : crX l[j] x = false := by simpa using c
      rw [cf, Bool.false_or] at h1 h2
      refine (may_l1 s l hl i hi x r d (j + 1) (by omega) (by omega) h1 h2).step 1 (fun k => ?_)
      show quipuref17_May.l1 (k + 1) (i : Int) (j : Int) s l x.f0 x.f1 x.f2 = _
      rw [hst, if_neg c]
theorem may_row (s : ByteArray) (l : List S31) (hl : l.length ≤ 1000000) (hs : s.size < 1000000000) (hv : Lib.validD s.data.toList = true) (i : Nat) (hi : i < l.length) (k : Nat) :
    quipuref17_May.l0 (k + 1) (i : Int) s l = quipuref17_May.j1 k (i : Int) (rowBad s l i) s l (rd_T31 l (i : Int)).f0 (rd_T31 l (i : Int)).f1 (rd_T31 l (i : Int)).f2 := by
  conv => lhs; unfold quipuref17_May.l0
  rw [if_pos (by omega), if_pos (by omega)]
  unfold rowBad spanBad stretchB
  generalize hx : rd_T31 l (i : Int) = x
  by_cases c1 : x.f0 < 1
  · rw [if_pos c1, decide_eq_true c1]; rfl
  · rw [if_neg c1, decide_eq_false c1]
    by_cases c2 : x.f0 > 17
    · rw [if_pos c2, decide_eq_true (show 18 ≤ x.f0 by omega)]; rfl
    · rw [if_neg c2, decide_eq_false (show ¬ 18 ≤ x.f0 by omega), place_p s x.f1 hs hv, Option.bind_some]
      cases p1 : placeB s x.f1 with
      | false => rw [if_neg (by simp)]; rfl
      | true =>
        rw [if_pos rfl, place_p s x.f2 hs hv, Option.bind_some]
        cases p2 : placeB s x.f2 with
        | false => rw [if_neg (by simp)]; rfl
        | true =>
          rw [if_pos rfl]
          by_cases c3 : x.f1 ≥ x.f2
          · rw [if_pos c3, decide_eq_false (show ¬ x.f1 < x.f2 by omega)]; rfl
          · rw [if_neg c3, decide_eq_true (show x.f1 < x.f2 by omega)]
            by_cases h0 : 0 < i
            · rw [if_pos (by omega), wrapP i 10000000 (by omega) h0 (by omega), if_pos (by omega), if_pos (by omega), ahead_p, Option.bind_some, decide_eq_true h0]
              simp
            · rw [if_neg (by omega), decide_eq_false h0]; rfl
theorem may_l0 (s : ByteArray) (l : List S31) (hl : l.length ≤ 1000000) (hs : s.size < 1000000000) (hv : Lib.validD s.data.toList = true) : ∀ (d i : Nat), i + d = l.length → Ev (fun n => quipuref17_May.l0 n (i : Int) s l) (mayFrom s l d i)
  | 0, i, h => Ev.now 1 (fun k => by
    show quipuref17_May.l0 (k + 1) (i : Int) s l = _
    unfold quipuref17_May.l0
    rw [if_neg (by omega)]; rfl)
  | d + 1, i, h => by
    have ih := may_l0 s l hl hs hv d (i + 1) (by omega)
    have hi : i < l.length := by omega
    by_cases c1 : rowBad s l i = true
    · have e : mayFrom s l (d + 1) i = false := by unfold mayFrom; rw [if_pos c1]
      rw [e]
      refine Ev.now 2 (fun k => ?_)
      show quipuref17_May.l0 ((k + 1) + 1) (i : Int) s l = _
      rw [may_row s l hl hs hv i hi, c1]
      unfold quipuref17_May.j1
      rw [if_pos rfl]
    · have cf : rowBad s l i = false := by simpa using c1
      have hl1 := may_l1 s l hl i hi (rd_T31 l (i : Int)) (mayFrom s l (d + 1) i) i 0 (by omega) (Nat.zero_le _) (fun h2 => by
        rw [List.drop_zero] at h2
        unfold mayFrom; rw [if_neg c1, if_pos h2]) (fun h2 => by
        rw [List.drop_zero] at h2
        rw [wrapS i 10000000 (by omega) (by omega)]
        have e : mayFrom s l (d + 1) i = mayFrom s l d (i + 1) := by
          conv => lhs; unfold mayFrom
          rw [if_neg c1, if_neg (by rw [h2]; simp)]
        rw [e]; exact ih)
      refine hl1.step 2 (fun k => ?_)
      show quipuref17_May.l0 ((k + 1) + 1) (i : Int) s l = _
      rw [may_row s l hl hs hv i hi, cf]
      conv => lhs; unfold quipuref17_May.j1
      rw [if_neg (by simp)]; rfl
theorem refmay_p (s : ByteArray) (l : List S31) (hl : l.length ≤ 1000000) (hs : s.size < 1000000000) : Ev (fun k => quipuref17_May.f k s l) (chkB s l) := by
  rw [chk_may]
  unfold mayB
  cases hv : Lib.validD s.data.toList with
  | false =>
    refine Ev.now 0 (fun k => ?_)
    show quipuref17_May.f k s l = _
    unfold quipuref17_May.f
    rw [valid_f _ (by omega), hv, Option.bind_some, if_neg (by simp)]; rfl
  | true =>
    refine (may_l0 s l hl hs hv l.length 0 (by omega)).step 0 (fun k => ?_)
    show quipuref17_May.f k s l = _
    unfold quipuref17_May.f
    rw [valid_f _ (by omega), hv, Option.bind_some, if_pos rfl]; rfl
end Go.Proofs.YtffldajbnhbkkaaDoor.Q

namespace Go.Proofs.YtffldajbnhbkkaaDoor.Q
set_option linter.unusedVariables false
set_option linter.unusedSimpArgs false
def Cov (p : Int) (x : S31) : Prop := x.f1 ≤ p ∧ p < x.f2
instance (p : Int) (x : S31) : Decidable (Cov p x) := inferInstanceAs (Decidable (_ ∧ _))
/-- The field of the piece that a place lies in. -/
def fldAt : List S43 → Int → Int → Int
  | [], _, _ => 0
  | q :: qs, n, p => if p < n + q.f0.size then q.f1 else fldAt qs (n + q.f0.size) p
/-- What covers a place of the pieces. -/
def Told (l : List S43) (n p : Int) (E : List S31) : Prop := (∃ x ∈ E, Cov p x ∧ x.f0 = fldAt l n p ∧ ∀ y ∈ E, Cov p y → y = x ∨ lt31 y x = true) ∨ (fldAt l n p = 0 ∧ ∀ y ∈ E, ¬ Cov p y)
theorem Told.more {l l' : List S43} {n n' p : Int} {E E' : List S31} (h : Told l n p E) (hf : fldAt l' n' p = fldAt l n p) (hs : ∀ y ∈ E, y ∈ E') (hn : ∀ y ∈ E', y ∈ E ∨ ¬ Cov p y) : Told l' n' p E' := by
  rcases h with ⟨x, hx, h1, h2, h3⟩ | ⟨h1, h2⟩
  · refine Or.inl ⟨x, hs x hx, h1, by rw [hf]; exact h2, fun y hy hc => ?_⟩
    rcases hn y hy with h | h
    · exact h3 y h hc
    · exact absurd hc h
  · refine Or.inr ⟨by rw [hf]; exact h1, fun y hy => ?_⟩
    rcases hn y hy with h | h
    · exact h2 y h
    · exact h
end Go.Proofs.YtffldajbnhbkkaaDoor.Q

namespace Go.Proofs.YtffldajbnhbkkaaDoor.Q
set_option linter.unusedVariables false
set_option linter.unusedSimpArgs false
def lastZ : List Int → Int → Int
  | [], a => a
  | b :: r, _ => lastZ r b
theorem lastZ_mem : ∀ (E : List Int) (a : Int), lastZ E a ∈ a :: E
  | [], a => List.mem_singleton.2 rfl
  | b :: r, a => List.mem_cons_of_mem _ (lastZ_mem r b)
theorem lastZ_ge : ∀ (E : List Int) (a : Int), (a :: E).Pairwise (· ≤ ·) → ∀ e ∈ a :: E, e ≤ lastZ E a
  | [], a, h, e, he => by rw [List.mem_singleton.1 he]; exact Int.le_refl _
  | b :: r, a, h, e, he => by
    have ih := lastZ_ge r b (List.Pairwise.of_cons h)
    rcases List.mem_cons.1 he with rfl | he
    · exact Int.le_trans (List.rel_of_pairwise_cons h (List.mem_cons_self ..)) (ih b (List.mem_cons_self ..))
    · exact ih e he
theorem compactTo_mem (d : Array Int) : ∀ (m j : Nat), j < m → d[j]! ∈ Lib.compactUpTo d m
  | 0, j, h => by omega
  | m + 1, j, h => by
    rw [Lib.compactUpTo_succ]
    by_cases c : j < m
    · exact List.mem_append_left _ (compactTo_mem d m j c)
    · have e : j = m := by omega
      subst e
      by_cases k : Lib.keeps d j = true
      · rw [if_pos k]; exact List.mem_append_right _ (List.mem_singleton.2 rfl)
      · unfold Lib.keeps at k
        simp only [decide_eq_true_eq, not_or, Decidable.not_not, ne_eq] at k
        rw [k.2]
        exact List.mem_append_left _ (compactTo_mem d j (j - 1) (by omega))
theorem compact_mem {zs : List Int} {x : Int} (h : x ∈ zs) : x ∈ Lib.compact zs := by
  obtain ⟨i, hi, rfl⟩ := List.getElem_of_mem h
  have := compactTo_mem zs.toArray zs.length i hi
  rw [getElem!_pos _ _ (by simpa using hi)] at this
  simpa [Lib.compact] using this
theorem edges_mem (s : ByteArray) (l : List S31) (x : Int) (h : x ∈ [0, (s.size : Int)] ++ flatL l) : x ∈ edgesL s l := compact_mem (List.mem_mergeSort.2 h)
end Go.Proofs.YtffldajbnhbkkaaDoor.Q

namespace Go.Proofs.YtffldajbnhbkkaaDoor.Q
set_option linter.unusedVariables false
set_option linter.unusedSimpArgs false
theorem compactTo_lt (d : Array Int) (h : ∀ i j, i ≤ j → j < d.size → d[i]! ≤ d[j]!) : ∀ m, m ≤ d.size → (Lib.compactUpTo d m).Pairwise (· < ·) ∧ ∀ e ∈ Lib.compactUpTo d m, ∃ i, i < m ∧ e = d[i]!
  | 0, _ => ⟨by unfold Lib.compactUpTo; simp, by unfold Lib.compactUpTo; simp⟩
  | m + 1, hm => by
    obtain ⟨i1, i2⟩ := compactTo_lt d h m (by omega)
    rw [Lib.compactUpTo_succ]
    by_cases c : Lib.keeps d m = true
    · rw [if_pos c]
      refine ⟨List.pairwise_append.2 ⟨i1, List.pairwise_singleton _ _, fun a ha b hb => ?_⟩, fun e he => ?_⟩
      · obtain ⟨i, hi, rfl⟩ := i2 a ha
        obtain rfl := List.mem_singleton.1 hb
        have h1 := h i (m - 1) (by omega) (by omega)
        have h2 := h (m - 1) m (by omega) (by omega)
        unfold Lib.keeps at c
        have c := of_decide_eq_true c
        rcases c with c | c
        · omega
        · show d[i]! < d[m]!
          omega
      · rcases List.mem_append.1 he with he | he
        · obtain ⟨i, hi, e⟩ := i2 e he
          exact ⟨i, by omega, e⟩
        · exact ⟨m, by omega, List.mem_singleton.1 he⟩
    · rw [if_neg c, List.append_nil]
      refine ⟨i1, fun e he => ?_⟩
      obtain ⟨i, hi, e⟩ := i2 e he
      exact ⟨i, by omega, e⟩
theorem edges_lt (s : ByteArray) (l : List S31) : (edgesL s l).Pairwise (· < ·) := by
  have hp := sortI_pair ([0, (s.size : Int)] ++ flatL l)
  unfold edgesL Lib.compact
  generalize sortI ([0, (s.size : Int)] ++ flatL l) = zs at hp
  refine (compactTo_lt zs.toArray (fun i j hij hj => ?_) zs.length (by simp)).1
  have hj2 : j < zs.length := by simpa using hj
  rw [getElem!_pos zs.toArray i (by simp; omega), getElem!_pos zs.toArray j hj]
  rw [List.getElem_toArray, List.getElem_toArray]
  rcases Nat.eq_or_lt_of_le hij with rfl | hij
  · exact Int.le_refl _
  · exact List.pairwise_iff_getElem.1 hp i j (by omega) hj2 hij
/-- The edges, one by one. -/
theorem edges_form {s : ByteArray} {l : List S31} (h : chkB s l = true) : ∃ R, edgesL s l = 0 :: R ∧ ((0 : Int) :: R).Pairwise (· < ·) ∧ (∀ e ∈ (0 : Int) :: R, 0 ≤ e ∧ e ≤ s.size) ∧ lastZ R 0 = s.size ∧ (∀ x ∈ l, x.f1 ∈ (0 : Int) :: R ∧ x.f2 ∈ (0 : Int) :: R) ∧ (∀ e ∈ R, e = s.size ∨ ∃ x ∈ l, x.f1 = e ∨ x.f2 = e) := by
  have hin := edges_in h
  have hp := edges_lt s l
  have hm := edges_mem s l
  have hb : ∀ e ∈ edgesL s l, e = 0 ∨ e = s.size ∨ ∃ x ∈ l, x.f1 = e ∨ x.f2 = e := fun e he => by
    have h1 := List.mem_mergeSort.1 (mem_compact he)
    rcases List.mem_append.1 h1 with h2 | h2
    · simp only [List.mem_cons, List.not_mem_nil, or_false] at h2
      rcases h2 with h2 | h2
      · exact Or.inl h2
      · exact Or.inr (Or.inl h2)
    · obtain ⟨x, hx, hxe⟩ := List.mem_flatMap.1 h2
      simp only [List.mem_cons, List.not_mem_nil, or_false] at hxe
      exact Or.inr (Or.inr ⟨x, hx, by rcases hxe with rfl | rfl <;> simp⟩)
  revert hin hp hm hb
  generalize edgesL s l = E
  intro hin hp hm hb
  have h0 : (0 : Int) ∈ E := hm 0 (by simp)
  have hz : (s.size : Int) ∈ E := hm _ (by simp)
  cases E with
  | nil => cases h0
  | cons a E =>
    have ha : a = 0 := by
      have h1 := (hin a (List.mem_cons_self ..)).1
      rcases List.mem_cons.1 h0 with h2 | h2
      · exact h2.symm
      · have : a < 0 := List.rel_of_pairwise_cons hp h2
        omega
    subst ha
    refine ⟨E, rfl, hp, hin, ?_, fun x hx => ⟨hm _ (List.mem_append_right _ (List.mem_flatMap.2 ⟨x, hx, by simp⟩)), hm _ (List.mem_append_right _ (List.mem_flatMap.2 ⟨x, hx, by simp⟩))⟩, fun e he => ?_⟩
    · have h1 := (hin _ (lastZ_mem E 0)).2
      have h2 := lastZ_ge E 0 (hp.imp (fun h => Int.le_of_lt h)) _ hz
      omega
    · have hpos : 0 < e := List.rel_of_pairwise_cons hp he
      rcases hb e (List.mem_cons_of_mem _ he) with h1 | h1 | h1
      · omega
      · exact Or.inl h1
      · exact Or.inr h1
end Go.Proofs.YtffldajbnhbkkaaDoor.Q
