import Derived.Lib.ValidLaws
import Derived.Lib.Bits
import Derived.Test.YtffldajbnhbkkaaDoorKc29
import Derived.Test.YtffldajbnhbkkaaDoorKc35
import Derived.Test.YtffldajbnhbkkaaDoorKc20
import Derived.Test.YtffldajbnhbkkaaDoorKc4
import Derived.Test.YtffldajbnhbkkaaDoorKc2
import Derived.Test.YtffldajbnhbkkaaDoorKc36
namespace Go.Proofs.YtffldajbnhbkkaaDoor.Q
open Go.Lib
set_option linter.unusedVariables false
set_option linter.unusedSimpArgs false
theorem dec_app (n m b0 b1 b2 b3 c1 c2 c3 : Nat) (h1 : 1 < n → c1 = b1) (h2 : 2 < n → c2 = b2) (h3 : 3 < n → c3 = b3) (hv : ¬ decodeN n b0 b1 b2 b3 = (65533, 1)) : decodeN (n + m) b0 c1 c2 c3 = decodeN n b0 b1 b2 b3 := by
  by_cases a0 : b0 < 128
  · unfold decodeN; rw [if_pos a0, if_pos a0]
  by_cases a1 : b0 / 32 = 6
  · have a2 : ¬ b0 / 16 = 14 := by omega
    have a3 : ¬ b0 / 8 = 30 := by omega
    by_cases n1 : 1 < n
    · rw [h1 n1]
      have n1' : 1 < n + m := by omega
      unfold decodeN
      simp only [a0, a1, a2, a3, n1, n1', true_and, false_and, if_false, ↓reduceIte]
    · exfalso; apply hv
      unfold decodeN
      simp only [a0, a1, a2, a3, n1, true_and, false_and, and_false, if_false, ↓reduceIte]
  by_cases a2 : b0 / 16 = 14
  · have a3 : ¬ b0 / 8 = 30 := by omega
    by_cases n2 : 2 < n
    · have n1 : 1 < n := by omega
      rw [h1 n1, h2 n2]
      have n1' : 1 < n + m := by omega
      have n2' : 2 < n + m := by omega
      unfold decodeN
      simp only [a0, a1, a2, a3, n1, n1', n2, n2', true_and, false_and, if_false, ↓reduceIte]
    · exfalso; apply hv
      unfold decodeN
      simp only [a0, a1, a2, a3, n2, true_and, false_and, and_false, if_false, ↓reduceIte]
  by_cases a3 : b0 / 8 = 30
  · by_cases n3 : 3 < n
    · have n1 : 1 < n := by omega
      have n2 : 2 < n := by omega
      rw [h1 n1, h2 n2, h3 n3]
      have n1' : 1 < n + m := by omega
      have n2' : 2 < n + m := by omega
      have n3' : 3 < n + m := by omega
      unfold decodeN
      simp only [a0, a1, a2, a3, n1, n1', n2, n2', n3, n3', true_and, false_and, if_false, ↓reduceIte]
    · exfalso; apply hv
      unfold decodeN
      simp only [a0, a1, a2, a3, n3, true_and, false_and, and_false, if_false, ↓reduceIte]
  exfalso; apply hv
  unfold decodeN
  simp only [a0, a1, a2, a3, false_and, if_false, ↓reduceIte]
theorem decL_app (A B : List UInt8) (hne : A ≠ []) (hv : ¬ ((decodeL A).1 = 65533 ∧ (decodeL A).2 = 1)) : decodeL (A ++ B) = decodeL A := by
  have hl : 0 < A.length := List.length_pos_iff.2 hne
  have g : ∀ i, i < A.length → (A ++ B).getD i 0 = A.getD i 0 := fun i hi => by
    rw [List.getD_eq_getElem?_getD, List.getD_eq_getElem?_getD, List.getElem?_append_left hi]
  rw [decodeL_N A] at hv ⊢
  rw [decodeL_N (A ++ B), List.length_append, g 0 hl]
  refine dec_app _ _ _ _ _ _ _ _ _ (fun h => by rw [g 1 h]) (fun h => by rw [g 2 h]) (fun h => by rw [g 3 h]) (fun e => hv ?_)
  rw [e]; exact ⟨rfl, rfl⟩
theorem valid_app : ∀ (n : Nat) (A B : List UInt8), A.length ≤ n → validD A = true → validD (A ++ B) = validD B
  | 0, A, B, hn, h => by
    have : A = [] := List.eq_nil_of_length_eq_zero (by omega)
    rw [this]; rfl
  | n + 1, A, B, hn, h => by
    by_cases hne : A = []
    · rw [hne]; rfl
    · have hl : 0 < A.length := List.length_pos_iff.2 hne
      rw [validD_step A hne] at h
      by_cases c : (decodeL A).1 = 65533 ∧ (decodeL A).2 = 1
      · rw [if_pos c] at h; cases h
      · rw [if_neg c] at h
        have hw := decodeL_width A
        have hle := decodeL_le A hne
        have e := decL_app A B hne c
        rw [validD_step (A ++ B) (by simp [hne]), e, if_neg c, List.drop_append_of_le_length (by omega)]
        exact valid_app n _ B (by rw [List.length_drop]; omega) h
/-- A valid text begins where a rune begins. -/
theorem valid_head {b : UInt8} {t : List UInt8} (h : validD (b :: t) = true) : runeStart (b.toNat : Int) = true := by
  rw [validD_step _ (by simp)] at h
  by_cases c : 128 ≤ b.toNat ∧ b.toNat < 192
  · have e : decodeL (b :: t) = (65533, 1) := by
      rw [decodeL_N]
      exact decodeN_bad _ _ _ _ _ (Or.inl ⟨c.1, by have := c.2; show b.toNat < 194; omega⟩)
    rw [e] at h
    simp at h
  · unfold runeStart
    rw [bne_iff_ne]
    omega
end Go.Proofs.YtffldajbnhbkkaaDoor.Q

namespace Go.Proofs.YtffldajbnhbkkaaDoor.Q
set_option linter.unusedVariables false
set_option linter.unusedSimpArgs false
/-- Spans in order, each of two places. -/
def Ordd (l : List S31) : Prop := l.Pairwise fun a b => lt31 b a = false
theorem ordd_of {l : List S31} (h : Sorted l) : Ordd l := List.pairwise_iff_getElem.2 (fun i j hi hj hij => h i j hi hj (Nat.le_of_lt hij))
theorem no_lt {a b : S31} (h : lt31 b a = false) : a.f1 < b.f1 ∨ (b.f1 = a.f1 ∧ b.f2 ≤ a.f2) := (HP.ltK_no _ _ _ _).1 h
theorem cr1_iff (a b : S31) : cr1 a b = true ↔ a.f1 < b.f1 ∧ b.f1 < a.f2 ∧ a.f2 < b.f2 := by
  unfold cr1
  simp only [Bool.and_eq_true, decide_eq_true_eq]
/-- What the stack holds at a place. -/
structure Stk (P rs l : List S31) : Prop where
  ord : ∀ a ∈ P, ∀ b ∈ l, lt31 b a = false
  sub : ∀ a ∈ rs, a ∈ P
  chain : rs.Pairwise fun a b => a.f2 ≤ b.f2
  gone : ∀ a ∈ P, a ∉ rs → ∀ b ∈ l, a.f2 ≤ b.f1
theorem popE_sub (rs : List S31) (f : Int) : ∀ a ∈ popE rs f, a ∈ rs := by
  induction rs with
  | nil => intro a h; exact h
  | cons y ys ih =>
    intro a h
    unfold popE at h
    split at h
    · exact List.mem_cons_of_mem _ (ih a h)
    · exact h
theorem popE_chain {rs : List S31} (f : Int) (h : rs.Pairwise fun a b => a.f2 ≤ b.f2) : (popE rs f).Pairwise fun a b => a.f2 ≤ b.f2 := by
  induction rs with
  | nil => exact h
  | cons y ys ih =>
    unfold popE
    split
    · exact ih (List.Pairwise.of_cons h)
    · exact h
theorem popE_gone {rs : List S31} (f : Int) (h : rs.Pairwise fun a b => a.f2 ≤ b.f2) : (∀ a ∈ rs, a ∉ popE rs f → a.f2 ≤ f) ∧ ∀ a ∈ popE rs f, f < a.f2 := by
  induction rs with
  | nil => exact ⟨fun a h => (by cases h), fun a h => (by cases h)⟩
  | cons y ys ih =>
    obtain ⟨i1, i2⟩ := ih (List.Pairwise.of_cons h)
    unfold popE
    by_cases c : y.f2 ≤ f
    · rw [if_pos c]
      refine ⟨fun a ha hn => ?_, i2⟩
      rcases List.mem_cons.1 ha with rfl | ha
      · exact c
      · exact i1 a ha hn
    · rw [if_neg c]
      refine ⟨fun a ha hn => absurd ha hn, fun a ha => ?_⟩
      rcases List.mem_cons.1 ha with rfl | ha
      · omega
      · have := List.rel_of_pairwise_cons h ha; omega
open Classical in
theorem Stk.step {P rs l : List S31} {x : S31} (h : Stk P rs (x :: l)) (ho : Ordd (x :: l)) (hb : topBad (popE rs x.f1) x.f2 = false) (hx : x.f1 < x.f2) : Stk (P ++ [x]) (x :: popE rs x.f1) l := by
  have hg := popE_gone x.f1 h.chain
  refine ⟨fun a ha b hb' => ?_, fun a ha => ?_, ?_, fun a ha hn b hb' => ?_⟩
  · rcases List.mem_append.1 ha with ha | ha
    · exact h.ord a ha b (List.mem_cons_of_mem _ hb')
    · obtain rfl := List.mem_singleton.1 ha
      exact List.rel_of_pairwise_cons ho hb'
  · rcases List.mem_cons.1 ha with rfl | ha
    · exact List.mem_append_right _ (List.mem_singleton.2 rfl)
    · exact List.mem_append_left _ (h.sub a (popE_sub _ _ a ha))
  · refine List.Pairwise.cons (fun a ha => ?_) (popE_chain _ h.chain)
    have hc := popE_chain x.f1 h.chain
    revert hb ha hc
    generalize popE rs x.f1 = q
    intro hb ha hc
    cases q with
    | nil => cases ha
    | cons y ys =>
      have h1 : ¬ y.f2 < x.f2 := of_decide_eq_false hb
      rcases List.mem_cons.1 ha with rfl | ha
      · omega
      · have := List.rel_of_pairwise_cons hc ha; omega
  · have hob := List.rel_of_pairwise_cons ho hb'
    have hxb : x.f1 ≤ b.f1 := by rcases no_lt hob with h1 | h1 <;> omega
    rcases List.mem_append.1 ha with ha | ha
    · by_cases hr : a ∈ rs
      · have := hg.1 a hr (fun h2 => hn (List.mem_cons_of_mem _ h2))
        omega
      · have := h.gone a ha hr x (List.mem_cons_self ..)
        omega
    · obtain rfl := List.mem_singleton.1 ha
      exact absurd (List.mem_cons_self ..) hn
open Classical in
/-- x crosses none that stands ahead just if the top does not bar it. -/
theorem Stk.cross {P rs l : List S31} {x : S31} (h : Stk P rs (x :: l)) : topBad (popE rs x.f1) x.f2 = true ↔ ∃ a ∈ P, cr1 a x = true := by
  have hg := popE_gone x.f1 h.chain
  have hs := popE_sub rs x.f1
  have hc := popE_chain x.f1 h.chain
  constructor
  · intro hb
    revert hb hs hc hg
    generalize popE rs x.f1 = q
    intro hg hs hc hb
    cases q with
    | nil => cases hb
    | cons y ys =>
      have h1 : y.f2 < x.f2 := of_decide_eq_true hb
      have h2 := hg.2 y (List.mem_cons_self ..)
      have hy := h.sub y (hs y (List.mem_cons_self ..))
      refine ⟨y, hy, (cr1_iff y x).2 ⟨?_, h2, h1⟩⟩
      rcases no_lt (h.ord y hy x (List.mem_cons_self ..)) with h3 | h3 <;> omega
  · rintro ⟨a, ha, hcr⟩
    obtain ⟨c1, c2, c3⟩ := (cr1_iff a x).1 hcr
    have hr : a ∈ rs := by
      by_cases hr : a ∈ rs
      · exact hr
      · have := h.gone a ha hr x (List.mem_cons_self ..); omega
    have hq : a ∈ popE rs x.f1 := by
      by_cases hq : a ∈ popE rs x.f1
      · exact hq
      · have := hg.1 a hr hq; omega
    revert hq hc
    generalize popE rs x.f1 = q
    intro hc hq
    cases q with
    | nil => cases hq
    | cons y ys =>
      show decide (y.f2 < x.f2) = true
      rcases List.mem_cons.1 hq with rfl | hq
      · exact decide_eq_true c3
      · have := List.rel_of_pairwise_cons hc hq
        exact decide_eq_true (by omega)
/-- No two of them cross. -/
def NoX (l : List S31) : Prop := l.Pairwise fun a b => cr1 a b = false
theorem chkGo_iff (s : ByteArray) : ∀ (l rs P : List S31), Stk P rs l → Ordd l → (chkGo s l rs = true ↔ (∀ x ∈ l, spanBad s x = false) ∧ (∀ a ∈ P, ∀ x ∈ l, cr1 a x = false) ∧ NoX l)
  | [], rs, P, h, ho => ⟨fun _ => ⟨fun x hx => (by cases hx), fun a _ x hx => (by cases hx), List.Pairwise.nil⟩, fun _ => rfl⟩
  | x :: l, rs, P, h, ho => by
    unfold chkGo
    by_cases c : spanBad s x = true
    · rw [if_pos c]
      refine ⟨fun e => (by cases e), fun e => ?_⟩
      have := e.1 x (List.mem_cons_self ..)
      rw [c] at this; cases this
    · rw [if_neg c]
      have cf : spanBad s x = false := by simpa using c
      by_cases c2 : topBad (popE rs x.f1) x.f2 = true
      · rw [if_pos c2]
        refine ⟨fun e => (by cases e), fun e => ?_⟩
        obtain ⟨a, ha, hcr⟩ := h.cross.1 c2
        rw [e.2.1 a ha x (List.mem_cons_self ..)] at hcr; cases hcr
      · rw [if_neg c2]
        have c2f : topBad (popE rs x.f1) x.f2 = false := by simpa using c2
        obtain ⟨_, _, _, _, hlt⟩ := span_in cf
        have hst := h.step ho c2f hlt
        rw [chkGo_iff s l (x :: popE rs x.f1) (P ++ [x]) hst (List.Pairwise.of_cons ho)]
        constructor
        · rintro ⟨h1, h2, h3⟩
          refine ⟨fun y hy => ?_, fun a ha y hy => ?_, List.Pairwise.cons (fun b hb => h2 x (List.mem_append_right _ (List.mem_singleton.2 rfl)) b hb) h3⟩
          · rcases List.mem_cons.1 hy with rfl | hy
            · exact cf
            · exact h1 y hy
          · rcases List.mem_cons.1 hy with rfl | hy
            · cases hcr : cr1 a y with
              | false => rfl
              | true => exact absurd (h.cross.2 ⟨a, ha, hcr⟩) c2
            · exact h2 a (List.mem_append_left _ ha) y hy
        · rintro ⟨h1, h2, h3⟩
          refine ⟨fun y hy => h1 y (List.mem_cons_of_mem _ hy), fun a ha y hy => ?_, List.Pairwise.of_cons h3⟩
          rcases List.mem_append.1 ha with ha | ha
          · exact h2 a ha y (List.mem_cons_of_mem _ hy)
          · obtain rfl := List.mem_singleton.1 ha
            exact List.rel_of_pairwise_cons h3 hy
theorem sortB_of {l : List S31} (h : Ordd l) : sortB l = true := by
  unfold sortB
  have : ∀ k, k < l.length → sortTo l k = true := by
    intro k
    induction k with
    | zero => intro _; rfl
    | succ k ih =>
      intro hk
      unfold sortTo
      rw [rd31 l (k + 1) hk, rd31 l k (by omega), if_neg, ih (by omega)]
      rw [List.pairwise_iff_getElem.1 h k (k + 1) (by omega) hk (by omega)]; simp
  rcases Nat.eq_zero_or_pos l.length with h0 | h0
  · rw [h0]; rfl
  · exact this _ (by omega)
/-- Check, in plain words. -/
theorem chkB_iff (s : ByteArray) (l : List S31) : chkB s l = true ↔ Lib.validD s.data.toList = true ∧ Ordd l ∧ (∀ x ∈ l, spanBad s x = false) ∧ NoX l := by
  unfold chkB
  rw [Bool.and_eq_true, Bool.and_eq_true]
  constructor
  · rintro ⟨h1, h2, h3⟩
    have ho := ordd_of (sorted_of h2)
    have := (chkGo_iff s l [] [] ⟨fun a h => (by cases h), fun a h => (by cases h), List.Pairwise.nil, fun a h => (by cases h)⟩ ho).1 h3
    exact ⟨h1, ho, this.1, this.2.2⟩
  · rintro ⟨h1, h2, h3, h4⟩
    refine ⟨h1, sortB_of h2, (chkGo_iff s l [] [] ⟨fun a h => (by cases h), fun a h => (by cases h), List.Pairwise.nil, fun a h => (by cases h)⟩ h2).2 ⟨h3, fun a h => (by cases h), h4⟩⟩
end Go.Proofs.YtffldajbnhbkkaaDoor.Q

namespace Go.Proofs.YtffldajbnhbkkaaDoor.Q
set_option linter.unusedVariables false
set_option linter.unusedSimpArgs false
/-- The whole digits that go on: they began, and end, ahead of n. -/
def StOk (st : Option (Int × Int)) (n : Int) : Prop := ∀ a b, st = some (a, b) → a < b ∧ b ≤ n
theorem StOk.none (n : Int) : StOk none n := fun a b h => by cases h
theorem StOk.on {st : Option (Int × Int)} {n m : Int} (h : StOk st n) (hm : n ≤ m) : StOk st m := fun a b e => by have := h a b e; omega
theorem first_le {st : Option (Int × Int)} {n : Int} (h : StOk st n) : firstOf n st ≤ n := by
  unfold firstOf
  cases st with
  | none => exact Int.le_refl _
  | some p => have := h p.1 p.2 rfl; show p.1 ≤ n; omega
theorem StOk.go {st : Option (Int × Int)} {n k : Int} (h : StOk st n) (hk : 0 < k) : StOk (some (firstOf n st, n + k)) (n + k) := by
  intro a b e
  injection e with e
  injection e with e1 e2
  have := first_le h
  omega
theorem mem_flush {st : Option (Int × Int)} {x : S31} (h : x ∈ flush st) : ∃ a b, st = some (a, b) ∧ x = ⟨2, a, b⟩ := by
  unfold flush at h
  cases st with
  | none => cases h
  | some p => exact ⟨p.1, p.2, rfl, List.mem_singleton.1 h⟩
/-- Where a span of the pieces lies: behind n, or it is the whole digits' own one. -/
theorem evs_in : ∀ (l : List S43) (n : Int) (st : Option (Int × Int)), StOk st n → ∀ x ∈ evs l n st, (n ≤ x.f1 ∨ ∃ a b, st = some (a, b) ∧ x.f0 = 2 ∧ x.f1 = a ∧ (x.f2 = b ∨ n < x.f2)) ∧ x.f1 < x.f2
  | [], n, st, h, x, hx => by
    obtain ⟨a, b, e, rfl⟩ := mem_flush hx
    have := h a b e
    exact ⟨Or.inr ⟨a, b, e, rfl, rfl, Or.inl rfl⟩, this.1⟩
  | p :: ps, n, st, h, x, hx => by
    unfold evs at hx
    by_cases c0 : p.f0.size = 0
    · rw [if_pos c0] at hx
      exact evs_in ps n st h x hx
    · rw [if_neg c0] at hx
      by_cases c2 : p.f1 = 2
      · rw [if_pos c2] at hx
        obtain ⟨h1, h2⟩ := evs_in ps _ _ (h.go (by omega : (0 : Int) < (p.f0.size : Int))) x hx
        refine ⟨?_, h2⟩
        rcases h1 with h1 | ⟨a, b, e, f0, f1, f2⟩
        · left; omega
        · injection e with e
          injection e with e1 e2
          cases st with
          | none =>
            have e3 : n = a := e1
            left; omega
          | some q =>
            have e3 : q.1 = a := e1
            right
            refine ⟨q.1, q.2, rfl, f0, by omega, Or.inr ?_⟩
            rcases f2 with f2 | f2 <;> omega
      · rw [if_neg c2] at hx
        by_cases c3 : p.f1 = 3
        · rw [if_pos c3] at hx
          rcases List.mem_cons.1 hx with rfl | hx
          · exact ⟨Or.inl (Int.le_refl _), show n < n + (p.f0.size : Int) by omega⟩
          · obtain ⟨h1, h2⟩ := evs_in ps _ _ (h.on (by omega : n ≤ n + (p.f0.size : Int))) x hx
            refine ⟨?_, h2⟩
            rcases h1 with h1 | ⟨a, b, e, f0, f1, f2⟩
            · left; omega
            · exact Or.inr ⟨a, b, e, f0, f1, by rcases f2 with f2 | f2; exact Or.inl f2; right; omega⟩
        · rw [if_neg c3] at hx
          rcases List.mem_append.1 hx with hx | hx
          · obtain ⟨a, b, e, rfl⟩ := mem_flush hx
            have := h a b e
            exact ⟨Or.inr ⟨a, b, e, rfl, rfl, Or.inl rfl⟩, this.1⟩
          · rcases List.mem_append.1 hx with hx | hx
            · by_cases c : p.f1 = 0
              · rw [if_pos c] at hx; cases hx
              · rw [if_neg c] at hx
                obtain rfl := List.mem_singleton.1 hx
                exact ⟨Or.inl (Int.le_refl _), show n < n + (p.f0.size : Int) by omega⟩
            · obtain ⟨h1, h2⟩ := evs_in ps _ _ (StOk.none (n + (p.f0.size : Int))) x hx
              refine ⟨?_, h2⟩
              rcases h1 with h1 | ⟨a, b, e, _⟩
              · left; omega
              · cases e
theorem cr1_no {a b : S31} (h : b.f1 ≤ a.f1 ∨ a.f2 ≤ b.f1 ∨ b.f2 ≤ a.f2) : cr1 a b = false := by
  cases hc : cr1 a b with
  | false => rfl
  | true => have := (cr1_iff a b).1 hc; omega
/-- No two of them cross. -/
theorem evs_nox : ∀ (l : List S43) (n : Int) (st : Option (Int × Int)), StOk st n → ∀ x ∈ evs l n st, ∀ y ∈ evs l n st, cr1 x y = false
  | [], n, st, h, x, hx, y, hy => by
    obtain ⟨a, b, e, rfl⟩ := mem_flush hx
    obtain ⟨a', b', e', rfl⟩ := mem_flush hy
    rw [e] at e'
    injection e' with e'
    injection e' with e1 e2
    exact cr1_no (Or.inl (show a' ≤ a by omega))
  | p :: ps, n, st, h, x, hx, y, hy => by
    unfold evs at hx hy
    by_cases c0 : p.f0.size = 0
    · rw [if_pos c0] at hx hy
      exact evs_nox ps n st h x hx y hy
    · rw [if_neg c0] at hx hy
      by_cases c2 : p.f1 = 2
      · rw [if_pos c2] at hx hy
        exact evs_nox ps _ _ (h.go (by omega : (0 : Int) < (p.f0.size : Int))) x hx y hy
      · rw [if_neg c2] at hx hy
        by_cases c3 : p.f1 = 3
        · rw [if_pos c3] at hx hy
          have ho := h.on (by omega : n ≤ n + (p.f0.size : Int))
          rcases List.mem_cons.1 hx with rfl | hx <;> rcases List.mem_cons.1 hy with rfl | hy
          · exact cr1_no (Or.inl (Int.le_refl _))
          · refine cr1_no ?_
            show y.f1 ≤ n ∨ n + (p.f0.size : Int) ≤ y.f1 ∨ _
            rcases (evs_in ps _ _ ho y hy).1 with h1 | ⟨a, b, e, _, f1, f2⟩
            · omega
            · have := h a b e; omega
          · refine cr1_no ?_
            show n ≤ x.f1 ∨ x.f2 ≤ n ∨ n + (p.f0.size : Int) ≤ x.f2
            rcases (evs_in ps _ _ ho x hx).1 with h1 | ⟨a, b, e, _, f1, f2⟩
            · omega
            · have := h a b e; omega
          · exact evs_nox ps _ _ ho x hx y hy
        · rw [if_neg c3] at hx hy
          have hlow : ∀ z ∈ flush st, z.f2 ≤ n := fun z hz => by
            obtain ⟨a, b, e, rfl⟩ := mem_flush hz
            exact (h a b e).2
          have hmid : ∀ z ∈ (if p.f1 = 0 then [] else [(⟨p.f1, n, n + p.f0.size⟩ : S31)]), z.f1 = n ∧ z.f2 = n + p.f0.size := fun z hz => by
            by_cases c : p.f1 = 0
            · rw [if_pos c] at hz; cases hz
            · rw [if_neg c] at hz
              obtain rfl := List.mem_singleton.1 hz
              exact ⟨rfl, rfl⟩
          have hhi : ∀ z ∈ evs ps (n + p.f0.size) none, n + p.f0.size ≤ z.f1 ∧ z.f1 < z.f2 := fun z hz => by
            obtain ⟨h1, h2⟩ := evs_in ps _ _ (StOk.none _) z hz
            rcases h1 with h1 | ⟨a, b, e, _⟩
            · exact ⟨h1, h2⟩
            · cases e
          rcases List.mem_append.1 hx with hx | hx
          · rcases List.mem_append.1 hy with hy | hy
            · obtain ⟨a, b, e, rfl⟩ := mem_flush hx
              obtain ⟨a', b', e', rfl⟩ := mem_flush hy
              rw [e] at e'
              injection e' with e'
              injection e' with e1 e2
              exact cr1_no (Or.inl (show a' ≤ a by omega))
            · have h1 := hlow x hx
              rcases List.mem_append.1 hy with hy | hy
              · have := hmid y hy; exact cr1_no (by omega)
              · have := hhi y hy; exact cr1_no (by omega)
          · rcases List.mem_append.1 hy with hy | hy
            · have h1 := hlow y hy
              rcases List.mem_append.1 hx with hx | hx
              · have := hmid x hx; exact cr1_no (by omega)
              · have := hhi x hx; exact cr1_no (by omega)
            · rcases List.mem_append.1 hx with hx | hx <;> rcases List.mem_append.1 hy with hy | hy
              · have := hmid x hx; have := hmid y hy; exact cr1_no (by omega)
              · have := hmid x hx; have := hhi y hy; exact cr1_no (by omega)
              · have := hhi x hx; have := hmid y hy; exact cr1_no (by omega)
              · exact evs_nox ps _ _ (StOk.none _) x hx y hy
/-- The spans, put in order. -/
theorem puts_ordd (xs : List S31) : Ordd (putsL [] xs) := (HP.puts_ok ord31 xs [] List.Pairwise.nil).1
theorem puts_mem (xs : List S31) (x : S31) : x ∈ putsL [] xs ↔ x ∈ xs := by
  have h := (HP.puts_ok ord31 xs [] List.Pairwise.nil).2
  rw [List.append_nil] at h
  exact h.mem_iff
theorem puts_nox (l : List S43) : NoX (putsL [] (evs l 0 none)) := by
  refine List.pairwise_iff_getElem.2 (fun i j hi hj _ => ?_)
  exact evs_nox l 0 none (StOk.none _) _ ((puts_mem _ _).1 (List.getElem_mem hi)) _ ((puts_mem _ _).1 (List.getElem_mem hj))
end Go.Proofs.YtffldajbnhbkkaaDoor.Q

namespace Go.Proofs.YtffldajbnhbkkaaDoor.Q
set_option linter.unusedVariables false
set_option linter.unusedSimpArgs false
theorem mkS_size (l : List UInt8) : (mkS l).size = l.length := by show l.toArray.size = _; simp
theorem placeB_at (A B : List UInt8) (h : Lib.validD B = true) : placeB (mkS (A ++ B)) (A.length : Int) = true := by
  unfold placeB
  rw [decide_eq_true (Int.natCast_nonneg _), Bool.true_and, Int.toNat_natCast]
  unfold placeN
  cases B with
  | nil => rw [mkS_size, List.append_nil, decide_eq_true rfl]; rfl
  | cons b t =>
    have e : (mkS (A ++ b :: t)).data[A.length]? = some b := by
      show (A ++ b :: t).toArray[A.length]? = some b
      simp
    rw [e]
    show (_ || Lib.runeStart (b.toNat : Int)) = true
    rw [valid_head h, Bool.or_true]
theorem ok_of {p : S43} (h : okP p = true) : 0 ≤ p.f1 ∧ p.f1 ≤ 17 ∧ Lib.validD p.f0.data.toList = true := by
  unfold okP at h
  rw [Bool.and_eq_true, Bool.and_eq_true] at h
  exact ⟨of_decide_eq_true h.1.1, of_decide_eq_true h.1.2, h.2⟩
theorem all_ok {p : S43} {ps : List S43} (h : (p :: ps).all okP = true) : okP p = true ∧ ps.all okP = true := by
  rw [List.all_cons, Bool.and_eq_true] at h; exact h
theorem valid_text : ∀ ps : List S43, ps.all okP = true → Lib.validD (textP ps) = true
  | [], _ => rfl
  | p :: ps, h => by
    obtain ⟨h1, h2⟩ := all_ok h
    rw [textP_cons, valid_app _ _ _ (Nat.le_refl _) (ok_of h1).2.2]
    exact valid_text ps h2
theorem evs_places (S : ByteArray) : ∀ (l : List S43) (n : Int) (T : List UInt8) (st : Option (Int × Int)), (T.length : Int) = n → mkS (T ++ textP l) = S → l.all okP = true → (∀ a b, st = some (a, b) → placeB S a = true ∧ placeB S b = true) →
    ∀ x ∈ evs l n st, (1 ≤ x.f0 ∧ x.f0 < 18) ∧ placeB S x.f1 = true ∧ placeB S x.f2 = true
  | [], n, T, st, hn, hS, hok, hst, x, hx => by
    obtain ⟨a, b, e, rfl⟩ := mem_flush hx
    exact ⟨⟨show (1 : Int) ≤ 2 by decide, show (2 : Int) < 18 by decide⟩, hst a b e⟩
  | p :: ps, n, T, st, hn, hS, hok, hst, x, hx => by
    obtain ⟨h1, h2⟩ := all_ok hok
    obtain ⟨o1, o2, o3⟩ := ok_of h1
    have hS2 : mkS ((T ++ p.f0.data.toList) ++ textP ps) = S := by rw [List.append_assoc]; exact hS
    have hl2 : ((T ++ p.f0.data.toList).length : Int) = n + p.f0.size := by rw [List.length_append, slenF]; omega
    have hp : placeB S n = true := by
      have := placeB_at T (textP (p :: ps)) (valid_text _ hok)
      rw [hS, hn] at this; exact this
    have hp2 : placeB S (n + p.f0.size) = true := by
      have := placeB_at (T ++ p.f0.data.toList) (textP ps) (valid_text _ h2)
      rw [hS2, hl2] at this; exact this
    unfold evs at hx
    by_cases c0 : p.f0.size = 0
    · rw [if_pos c0] at hx
      exact evs_places S ps n (T ++ p.f0.data.toList) st (by omega) hS2 h2 hst x hx
    · rw [if_neg c0] at hx
      by_cases c2 : p.f1 = 2
      · rw [if_pos c2] at hx
        refine evs_places S ps _ (T ++ p.f0.data.toList) _ hl2 hS2 h2 (fun a b e => ?_) x hx
        injection e with e
        injection e with e1 e2
        subst e1 e2
        refine ⟨?_, hp2⟩
        cases st with
        | none => exact hp
        | some q => exact (hst q.1 q.2 rfl).1
      · rw [if_neg c2] at hx
        by_cases c3 : p.f1 = 3
        · rw [if_pos c3] at hx
          rcases List.mem_cons.1 hx with rfl | hx
          · exact ⟨⟨show (1 : Int) ≤ 3 by decide, show (3 : Int) < 18 by decide⟩, hp, hp2⟩
          · exact evs_places S ps _ (T ++ p.f0.data.toList) _ hl2 hS2 h2 hst x hx
        · rw [if_neg c3] at hx
          rcases List.mem_append.1 hx with hx | hx
          · obtain ⟨a, b, e, rfl⟩ := mem_flush hx
            exact ⟨⟨show (1 : Int) ≤ 2 by decide, show (2 : Int) < 18 by decide⟩, hst a b e⟩
          · rcases List.mem_append.1 hx with hx | hx
            · by_cases c : p.f1 = 0
              · rw [if_pos c] at hx; cases hx
              · rw [if_neg c] at hx
                obtain rfl := List.mem_singleton.1 hx
                exact ⟨⟨show 1 ≤ p.f1 by omega, show p.f1 < 18 by omega⟩, hp, hp2⟩
            · exact evs_places S ps _ (T ++ p.f0.data.toList) _ hl2 hS2 h2 (fun a b e => by cases e) x hx
/-- What is built passes the check. -/
theorem chk_built (l : List S43) (h : l.all okP = true) : chkB (mkS (textP l)) (putsL [] (evs l 0 none)) = true := by
  refine (chkB_iff _ _).2 ⟨valid_text l h, puts_ordd _, fun x hx => ?_, puts_nox l⟩
  have hx := (puts_mem _ _).1 hx
  obtain ⟨⟨h1, h2⟩, h3, h4⟩ := evs_places (mkS (textP l)) l 0 [] none rfl rfl h (fun a b e => by cases e) x hx
  have h5 := (evs_in l 0 none (StOk.none _) x hx).2
  unfold spanBad stretchB
  rw [h3, h4, decide_eq_true h5, decide_eq_false (by omega), decide_eq_false (by omega)]
  rfl
end Go.Proofs.YtffldajbnhbkkaaDoor.Q

namespace Go.Proofs.YtffldajbnhbkkaaDoor.Q
open Go.RowKit Go.Proofs.YtffldajbnhbkkaaDoorW.PrintWords Go.Proofs.YtffldajbnhbkkaaDoorW.PrintLast Go.Proofs.YtffldajbnhbkkaaDoorW.PrintMore
set_option linter.unusedVariables false
set_option linter.unusedSimpArgs false
def crX (a b : S31) : Bool := cr1 a b || cr1 b a
theorem crX_cross (a b : S31) : crX a b = crossB a b := by
  unfold crX crossB
  by_cases h : a.f1 > b.f1
  · have : cr1 a b = false := by unfold cr1; rw [decide_eq_false (by omega)]; rfl
    rw [if_pos h, this, Bool.false_or]
  · have : cr1 b a = false := by unfold cr1; rw [decide_eq_false (by omega)]; rfl
    rw [if_neg h, this, Bool.or_false]
end Go.Proofs.YtffldajbnhbkkaaDoor.Q

namespace Go.Proofs.YtffldajbnhbkkaaDoor.Q
set_option linter.unusedVariables false
set_option linter.unusedSimpArgs false
def Cov (p : Int) (x : S31) : Prop := x.f1 ≤ p ∧ p < x.f2
instance (p : Int) (x : S31) : Decidable (Cov p x) := inferInstanceAs (Decidable (_ ∧ _))
/-- The field of the piece that a place lies in. -/
def fldAt : List S43 → Int → Int → Int
  | [], _, _ => 0
  | q :: qs, n, p => if p < n + q.f0.size then q.f1 else fldAt qs (n + q.f0.size) p
/-- What covers a place of the pieces. -/
def Told (l : List S43) (n p : Int) (E : List S31) : Prop := (∃ x ∈ E, Cov p x ∧ x.f0 = fldAt l n p ∧ ∀ y ∈ E, Cov p y → y = x ∨ lt31 y x = true) ∨ (fldAt l n p = 0 ∧ ∀ y ∈ E, ¬ Cov p y)
theorem Told.more {l l' : List S43} {n n' p : Int} {E E' : List S31} (h : Told l n p E) (hf : fldAt l' n' p = fldAt l n p) (hs : ∀ y ∈ E, y ∈ E') (hn : ∀ y ∈ E', y ∈ E ∨ ¬ Cov p y) : Told l' n' p E' := by
  rcases h with ⟨x, hx, h1, h2, h3⟩ | ⟨h1, h2⟩
  · refine Or.inl ⟨x, hs x hx, h1, by rw [hf]; exact h2, fun y hy hc => ?_⟩
    rcases hn y hy with h | h
    · exact h3 y h hc
    · exact absurd hc h
  · refine Or.inr ⟨by rw [hf]; exact h1, fun y hy => ?_⟩
    rcases hn y hy with h | h
    · exact h2 y h
    · exact h
end Go.Proofs.YtffldajbnhbkkaaDoor.Q

namespace Go.Proofs.YtffldajbnhbkkaaDoor.Q
set_option linter.unusedVariables false
set_option linter.unusedSimpArgs false
theorem sub_size (s : ByteArray) (a b : Int) (h0 : 0 ≤ a) (h1 : a ≤ b) (h2 : b ≤ s.size) : (subS s a b).size = (b - a).toNat := by
  unfold subS
  rw [ByteArray.size_extract]
  omega
def lastZ : List Int → Int → Int
  | [], a => a
  | b :: r, _ => lastZ r b
theorem lastZ_mem : ∀ (E : List Int) (a : Int), lastZ E a ∈ a :: E
  | [], a => List.mem_singleton.2 rfl
  | b :: r, a => List.mem_cons_of_mem _ (lastZ_mem r b)
theorem lastZ_ge : ∀ (E : List Int) (a : Int), (a :: E).Pairwise (· ≤ ·) → ∀ e ∈ a :: E, e ≤ lastZ E a
  | [], a, h, e, he => by rw [List.mem_singleton.1 he]; exact Int.le_refl _
  | b :: r, a, h, e, he => by
    have ih := lastZ_ge r b (List.Pairwise.of_cons h)
    rcases List.mem_cons.1 he with rfl | he
    · exact Int.le_trans (List.rel_of_pairwise_cons h (List.mem_cons_self ..)) (ih b (List.mem_cons_self ..))
    · exact ih e he
theorem compactTo_mem (d : Array Int) : ∀ (m j : Nat), j < m → d[j]! ∈ Lib.compactUpTo d m
  | 0, j, h => by omega
  | m + 1, j, h => by
    rw [Lib.compactUpTo_succ]
    by_cases c : j < m
    · exact List.mem_append_left _ (compactTo_mem d m j c)
    · have e : j = m := by omega
      subst e
      by_cases k : Lib.keeps d j = true
      · rw [if_pos k]; exact List.mem_append_right _ (List.mem_singleton.2 rfl)
      · unfold Lib.keeps at k
        simp only [decide_eq_true_eq, not_or, Decidable.not_not, ne_eq] at k
        rw [k.2]
        exact List.mem_append_left _ (compactTo_mem d j (j - 1) (by omega))
theorem compact_mem {zs : List Int} {x : Int} (h : x ∈ zs) : x ∈ Lib.compact zs := by
  obtain ⟨i, hi, rfl⟩ := List.getElem_of_mem h
  have := compactTo_mem zs.toArray zs.length i hi
  rw [getElem!_pos _ _ (by simpa using hi)] at this
  simpa [Lib.compact] using this
theorem edges_mem (s : ByteArray) (l : List S31) (x : Int) (h : x ∈ [0, (s.size : Int)] ++ flatL l) : x ∈ edgesL s l := compact_mem (List.mem_mergeSort.2 h)
end Go.Proofs.YtffldajbnhbkkaaDoor.Q

namespace Go.Proofs.YtffldajbnhbkkaaDoor.Q
set_option linter.unusedVariables false
set_option linter.unusedSimpArgs false
theorem crX_sym (a b : S31) : crX a b = crX b a := by unfold crX; rw [Bool.or_comm]
theorem nox_sym {l : List S31} (h1 : Ordd l) (h2 : NoX l) : l.Pairwise fun a b => crX a b = false := by
  refine (h1.and h2).imp (fun {a b} h => ?_)
  obtain ⟨h3, h4⟩ := h
  have e2 : cr1 b a = false := by
    cases hc : cr1 b a with
    | false => rfl
    | true =>
      have := (cr1_iff _ _).1 hc
      have := no_lt h3
      omega
  unfold crX
  rw [h4, e2]; rfl
theorem findX_no {x : S31} : ∀ {l : List S31}, findX x l = false → ∀ y ∈ l, crX x y = false
  | [], _, y, hy => by cases hy
  | z :: l, h, y, hy => by
    have h : (crossB x z || findX x l) = false := h
    rw [Bool.or_eq_false_iff] at h
    rcases List.mem_cons.1 hy with rfl | hy
    · rw [crX_cross]; exact h.1
    · exact findX_no h.2 y hy
theorem wrap_parts {s : ByteArray} {l : List S31} {x : S31} (h : wrapOk s l x = true) : chkB s l = true ∧ spanBad s x = false ∧ findX x l = false := by
  unfold wrapOk at h
  simp only [Bool.and_eq_true, decide_eq_true_eq, Bool.not_eq_true'] at h
  obtain ⟨h1, h2, h3, h4, h5⟩ := h
  refine ⟨h1, ?_, h5⟩
  unfold spanBad
  rw [h4, decide_eq_false (by omega), decide_eq_false (by omega)]; rfl
theorem chk_wrap {s : ByteArray} {l : List S31} {x : S31} (h : wrapOk s l x = true) : chkB s (HP.putL lt31 l x) = true := by
  obtain ⟨h1, h2, h3⟩ := wrap_parts h
  obtain ⟨v, o, b, n⟩ := (chkB_iff s l).1 h1
  have hp := HP.put_perm lt31 l x
  refine (chkB_iff _ _).2 ⟨v, HP.put_sorted ord31 l x o, fun y hy => ?_, ?_⟩
  · rcases List.mem_cons.1 (hp.mem_iff.1 hy) with rfl | hy
    · exact h2
    · exact b y hy
  · have hx : (x :: l).Pairwise fun a b => crX a b = false := List.Pairwise.cons (findX_no h3) (nox_sym o n)
    have := (hp.symm.pairwise_iff (fun {a b} h => by rw [crX_sym]; exact h)).1 hx
    refine this.imp (fun {a b} h => ?_)
    unfold crX at h
    rw [Bool.or_eq_false_iff] at h
    exact h.1
theorem compactTo_lt (d : Array Int) (h : ∀ i j, i ≤ j → j < d.size → d[i]! ≤ d[j]!) : ∀ m, m ≤ d.size → (Lib.compactUpTo d m).Pairwise (· < ·) ∧ ∀ e ∈ Lib.compactUpTo d m, ∃ i, i < m ∧ e = d[i]!
  | 0, _ => ⟨by unfold Lib.compactUpTo; simp, by unfold Lib.compactUpTo; simp⟩
  | m + 1, hm => by
    obtain ⟨i1, i2⟩ := compactTo_lt d h m (by omega)
    rw [Lib.compactUpTo_succ]
    by_cases c : Lib.keeps d m = true
    · rw [if_pos c]
      refine ⟨List.pairwise_append.2 ⟨i1, List.pairwise_singleton _ _, fun a ha b hb => ?_⟩, fun e he => ?_⟩
      · obtain ⟨i, hi, rfl⟩ := i2 a ha
        obtain rfl := List.mem_singleton.1 hb
        have h1 := h i (m - 1) (by omega) (by omega)
        have h2 := h (m - 1) m (by omega) (by omega)
        unfold Lib.keeps at c
        have c := of_decide_eq_true c
        rcases c with c | c
        · omega
        · show d[i]! < d[m]!
          omega
      · rcases List.mem_append.1 he with he | he
        · obtain ⟨i, hi, e⟩ := i2 e he
          exact ⟨i, by omega, e⟩
        · exact ⟨m, by omega, List.mem_singleton.1 he⟩
    · rw [if_neg c, List.append_nil]
      refine ⟨i1, fun e he => ?_⟩
      obtain ⟨i, hi, e⟩ := i2 e he
      exact ⟨i, by omega, e⟩
theorem edges_lt (s : ByteArray) (l : List S31) : (edgesL s l).Pairwise (· < ·) := by
  have hp := sortI_pair ([0, (s.size : Int)] ++ flatL l)
  unfold edgesL Lib.compact
  generalize sortI ([0, (s.size : Int)] ++ flatL l) = zs at hp
  refine (compactTo_lt zs.toArray (fun i j hij hj => ?_) zs.length (by simp)).1
  have hj2 : j < zs.length := by simpa using hj
  rw [getElem!_pos zs.toArray i (by simp; omega), getElem!_pos zs.toArray j hj]
  rw [List.getElem_toArray, List.getElem_toArray]
  rcases Nat.eq_or_lt_of_le hij with rfl | hij
  · exact Int.le_refl _
  · exact List.pairwise_iff_getElem.1 hp i j (by omega) hj2 hij
/-- The edges, one by one. -/
theorem edges_form {s : ByteArray} {l : List S31} (h : chkB s l = true) : ∃ R, edgesL s l = 0 :: R ∧ ((0 : Int) :: R).Pairwise (· < ·) ∧ (∀ e ∈ (0 : Int) :: R, 0 ≤ e ∧ e ≤ s.size) ∧ lastZ R 0 = s.size ∧ (∀ x ∈ l, x.f1 ∈ (0 : Int) :: R ∧ x.f2 ∈ (0 : Int) :: R) ∧ (∀ e ∈ R, e = s.size ∨ ∃ x ∈ l, x.f1 = e ∨ x.f2 = e) := by
  have hin := edges_in h
  have hp := edges_lt s l
  have hm := edges_mem s l
  have hb : ∀ e ∈ edgesL s l, e = 0 ∨ e = s.size ∨ ∃ x ∈ l, x.f1 = e ∨ x.f2 = e := fun e he => by
    have h1 := List.mem_mergeSort.1 (mem_compact he)
    rcases List.mem_append.1 h1 with h2 | h2
    · simp only [List.mem_cons, List.not_mem_nil, or_false] at h2
      rcases h2 with h2 | h2
      · exact Or.inl h2
      · exact Or.inr (Or.inl h2)
    · obtain ⟨x, hx, hxe⟩ := List.mem_flatMap.1 h2
      simp only [List.mem_cons, List.not_mem_nil, or_false] at hxe
      exact Or.inr (Or.inr ⟨x, hx, by rcases hxe with rfl | rfl <;> simp⟩)
  revert hin hp hm hb
  generalize edgesL s l = E
  intro hin hp hm hb
  have h0 : (0 : Int) ∈ E := hm 0 (by simp)
  have hz : (s.size : Int) ∈ E := hm _ (by simp)
  cases E with
  | nil => cases h0
  | cons a E =>
    have ha : a = 0 := by
      have h1 := (hin a (List.mem_cons_self ..)).1
      rcases List.mem_cons.1 h0 with h2 | h2
      · exact h2.symm
      · have : a < 0 := List.rel_of_pairwise_cons hp h2
        omega
    subst ha
    refine ⟨E, rfl, hp, hin, ?_, fun x hx => ⟨hm _ (List.mem_append_right _ (List.mem_flatMap.2 ⟨x, hx, by simp⟩)), hm _ (List.mem_append_right _ (List.mem_flatMap.2 ⟨x, hx, by simp⟩))⟩, fun e he => ?_⟩
    · have h1 := (hin _ (lastZ_mem E 0)).2
      have h2 := lastZ_ge E 0 (hp.imp (fun h => Int.le_of_lt h)) _ hz
      omega
    · have hpos : 0 < e := List.rel_of_pairwise_cons hp he
      rcases hb e (List.mem_cons_of_mem _ he) with h1 | h1 | h1
      · omega
      · exact Or.inl h1
      · exact Or.inr h1
theorem fieldGo_in (a b : Int) : ∀ (l : List S31) (f : Int), (∀ x ∈ l, 0 ≤ x.f0 ∧ x.f0 ≤ 17) → 0 ≤ f ∧ f ≤ 17 → 0 ≤ fieldGo a b l f ∧ fieldGo a b l f ≤ 17
  | [], f, _, h => h
  | x :: l, f, hl, h => by
    have hx := hl x (List.mem_cons_self ..)
    unfold fieldGo
    refine fieldGo_in a b l _ (fun y hy => hl y (List.mem_cons_of_mem _ hy)) ?_
    split
    · split
      · exact hx
      · exact h
    · exact h
end Go.Proofs.YtffldajbnhbkkaaDoor.Q
