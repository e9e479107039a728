import Derived.Lib.ValidLaws
import Derived.Lib.Bits
import Derived.Test.YtffldajbnhbkkaaDoorKv28
import Derived.Test.YtffldajbnhbkkaaDoorKv34
import Derived.Test.YtffldajbnhbkkaaDoorKv19
namespace Go.Proofs.YtffldajbnhbkkaaDoor.Q
open Go.Lib
set_option linter.unusedVariables false
set_option linter.unusedSimpArgs false
theorem dec_app (n m b0 b1 b2 b3 c1 c2 c3 : Nat) (h1 : 1 < n → c1 = b1) (h2 : 2 < n → c2 = b2) (h3 : 3 < n → c3 = b3) (hv : ¬ decodeN n b0 b1 b2 b3 = (65533, 1)) : decodeN (n + m) b0 c1 c2 c3 = decodeN n b0 b1 b2 b3 := by
  by_cases a0 : b0 < 128
  · unfold decodeN; rw [if_pos a0, if_pos a0]
  by_cases a1 : b0 / 32 = 6
  · have a2 : ¬ b0 / 16 = 14 := by omega
    have a3 : ¬ b0 / 8 = 30 := by omega
    by_cases n1 : 1 < n
    · rw [h1 n1]
      have n1' : 1 < n + m := by omega
      unfold decodeN
      simp only [a0, a1, a2, a3, n1, n1', true_and, false_and, if_false, ↓reduceIte]
    · exfalso; apply hv
      unfold decodeN
      simp only [a0, a1, a2, a3, n1, true_and, false_and, and_false, if_false, ↓reduceIte]
  by_cases a2 : b0 / 16 = 14
  · have a3 : ¬ b0 / 8 = 30 := by omega
    by_cases n2 : 2 < n
    · have n1 : 1 < n := by omega
      rw [h1 n1, h2 n2]
      have n1' : 1 < n + m := by omega
      have n2' : 2 < n + m := by omega
      unfold decodeN
      simp only [a0, a1, a2, a3, n1, n1', n2, n2', true_and, false_and, if_false, ↓reduceIte]
    · exfalso; apply hv
      unfold decodeN
      simp only [a0, a1, a2, a3, n2, true_and, false_and, and_false, if_false, ↓reduceIte]
  by_cases a3 : b0 / 8 = 30
  · by_cases n3 : 3 < n
    · have n1 : 1 < n := by omega
      have n2 : 2 < n := by omega
      rw [h1 n1, h2 n2, h3 n3]
      have n1' : 1 < n + m := by omega
      have n2' : 2 < n + m := by omega
      have n3' : 3 < n + m := by omega
      unfold decodeN
      simp only [a0, a1, a2, a3, n1, n1', n2, n2', n3, n3', true_and, false_and, if_false, ↓reduceIte]
    · exfalso; apply hv
      unfold decodeN
      simp only [a0, a1, a2, a3, n3, true_and, false_and, and_false, if_false, ↓reduceIte]
  exfalso; apply hv
  unfold decodeN
  simp only [a0, a1, a2, a3, false_and, if_false, ↓reduceIte]
theorem decL_app (A B : List UInt8) (hne : A ≠ []) (hv : ¬ ((decodeL A).1 = 65533 ∧ (decodeL A).2 = 1)) : decodeL (A ++ B) = decodeL A := by
  have hl : 0 < A.length := List.length_pos_iff.2 hne
  have g : ∀ i, i < A.length → (A ++ B).getD i 0 = A.getD i 0 := fun i hi => by
    rw [List.getD_eq_getElem?_getD, List.getD_eq_getElem?_getD, List.getElem?_append_left hi]
  rw [decodeL_N A] at hv ⊢
  rw [decodeL_N (A ++ B), List.length_append, g 0 hl]
  refine dec_app _ _ _ _ _ _ _ _ _ (fun h => by rw [g 1 h]) (fun h => by rw [g 2 h]) (fun h => by rw [g 3 h]) (fun e => hv ?_)
  rw [e]; exact ⟨rfl, rfl⟩
theorem valid_app : ∀ (n : Nat) (A B : List UInt8), A.length ≤ n → validD A = true → validD (A ++ B) = validD B
  | 0, A, B, hn, h => by
    have : A = [] := List.eq_nil_of_length_eq_zero (by omega)
    rw [this]; rfl
  | n + 1, A, B, hn, h => by
    by_cases hne : A = []
    · rw [hne]; rfl
    · have hl : 0 < A.length := List.length_pos_iff.2 hne
      rw [validD_step A hne] at h
      by_cases c : (decodeL A).1 = 65533 ∧ (decodeL A).2 = 1
      · rw [if_pos c] at h; cases h
      · rw [if_neg c] at h
        have hw := decodeL_width A
        have hle := decodeL_le A hne
        have e := decL_app A B hne c
        rw [validD_step (A ++ B) (by simp [hne]), e, if_neg c, List.drop_append_of_le_length (by omega)]
        exact valid_app n _ B (by rw [List.length_drop]; omega) h
/-- A valid text begins where a rune begins. -/
theorem valid_head {b : UInt8} {t : List UInt8} (h : validD (b :: t) = true) : runeStart (b.toNat : Int) = true := by
  rw [validD_step _ (by simp)] at h
  by_cases c : 128 ≤ b.toNat ∧ b.toNat < 192
  · have e : decodeL (b :: t) = (65533, 1) := by
      rw [decodeL_N]
      exact decodeN_bad _ _ _ _ _ (Or.inl ⟨c.1, by have := c.2; show b.toNat < 194; omega⟩)
    rw [e] at h
    simp at h
  · unfold runeStart
    rw [bne_iff_ne]
    omega
end Go.Proofs.YtffldajbnhbkkaaDoor.Q

namespace Go.Proofs.YtffldajbnhbkkaaDoor.Q
open Go.Lib
set_option linter.unusedVariables false
set_option linter.unusedSimpArgs false
theorem dec_cut (n m b0 b1 b2 b3 c1 c2 c3 : Nat) (hv : ¬ decodeN n b0 b1 b2 b3 = (65533, 1)) (hm : (decodeN n b0 b1 b2 b3).2 ≤ m) (h1 : 1 < m → c1 = b1) (h2 : 2 < m → c2 = b2) (h3 : 3 < m → c3 = b3) : decodeN m b0 c1 c2 c3 = decodeN n b0 b1 b2 b3 := by
  rcases decodeN_shape n b0 b1 b2 b3 with ⟨c, e⟩ | ⟨d0, d1, d2, d3, e⟩ | ⟨d0, d1, d2, d3, d4, d5, e⟩ | ⟨d0, d1, d2, d3, d4, d5, d6, e⟩ | e
  · rw [e]; unfold decodeN; rw [if_pos c]
  · rw [e] at hm ⊢
    have hm : 2 ≤ m := hm
    rw [h1 (by omega)]
    unfold decodeN
    rw [if_neg (by omega), if_pos ⟨d0, by omega, d2⟩, if_pos (by omega)]
  · rw [e] at hm ⊢
    have hm : 3 ≤ m := hm
    rw [h1 (by omega), h2 (by omega)]
    unfold decodeN
    rw [if_neg (by omega), if_neg (by omega), if_pos ⟨d0, ⟨by omega, d2⟩, by omega, d3⟩, if_pos (by omega)]
  · rw [e] at hm ⊢
    have hm : 4 ≤ m := hm
    rw [h1 (by omega), h2 (by omega), h3 (by omega)]
    unfold decodeN
    rw [if_neg (by omega), if_neg (by omega), if_neg (by omega), if_pos ⟨d0, ⟨by omega, d2⟩, ⟨by omega, d3⟩, by omega, d4⟩, if_pos (by omega)]
  · exact absurd e hv
/-- Within a rune no rune starts. -/
theorem dec_in (n b0 b1 b2 b3 : Nat) (hv : ¬ decodeN n b0 b1 b2 b3 = (65533, 1)) : (1 < (decodeN n b0 b1 b2 b3).2 → b1 / 64 = 2) ∧ (2 < (decodeN n b0 b1 b2 b3).2 → b2 / 64 = 2) ∧ (3 < (decodeN n b0 b1 b2 b3).2 → b3 / 64 = 2) ∧ (decodeN n b0 b1 b2 b3).2 ≤ 4 := by
  rcases decodeN_shape n b0 b1 b2 b3 with ⟨c, e⟩ | ⟨d0, d1, d2, d3, e⟩ | ⟨d0, d1, d2, d3, d4, d5, e⟩ | ⟨d0, d1, d2, d3, d4, d5, d6, e⟩ | e
  · rw [e]; exact ⟨fun h => absurd h (by show ¬ 1 < 1; decide), fun h => absurd h (by show ¬ 2 < 1; decide), fun h => absurd h (by show ¬ 3 < 1; decide), by show 1 ≤ 4; decide⟩
  · rw [e]; exact ⟨fun _ => d2, fun h => absurd h (by show ¬ 2 < 2; decide), fun h => absurd h (by show ¬ 3 < 2; decide), by show 2 ≤ 4; decide⟩
  · rw [e]; exact ⟨fun _ => d2, fun _ => d3, fun h => absurd h (by show ¬ 3 < 3; decide), by show 3 ≤ 4; decide⟩
  · rw [e]; exact ⟨fun _ => d2, fun _ => d3, fun _ => d4, Nat.le_refl _⟩
  · exact absurd e hv
theorem take_valid : ∀ (k : Nat) (L : List UInt8) (n : Nat), L.length ≤ k → validD L = true → (∀ h : n < L.length, runeStart (L[n].toNat : Int) = true) → validD (L.take n) = true
  | 0, L, n, hk, hv, hs => by
    have : L = [] := List.eq_nil_of_length_eq_zero (by omega)
    rw [this, List.take_nil]; rfl
  | k + 1, L, n, hk, hv, hs => by
    by_cases hne : L = []
    · rw [hne, List.take_nil]; rfl
    · by_cases h0 : n = 0
      · rw [h0, List.take_zero]; rfl
      · by_cases hfar : L.length ≤ n
        · rw [List.take_of_length_le hfar]; exact hv
        · have hlt : n < L.length := by omega
          rw [validD_step L hne] at hv
          by_cases c : (decodeL L).1 = 65533 ∧ (decodeL L).2 = 1
          · rw [if_pos c] at hv; cases hv
          · rw [if_neg c] at hv
            have hw := decodeL_width L
            have hle := decodeL_le L hne
            have cN : ¬ decodeN L.length (L.getD 0 0).toNat (L.getD 1 0).toNat (L.getD 2 0).toNat (L.getD 3 0).toNat = (65533, 1) := fun e => by
              rw [← decodeL_N] at e; exact c (by rw [e]; exact ⟨rfl, rfl⟩)
            have hin := dec_in _ _ _ _ _ cN
            rw [← decodeL_N] at hin
            by_cases hnw : n < (decodeL L).2
            · exfalso
              have hr := hs hlt
              have hg : L.getD n 0 = L[n] := by rw [List.getD_eq_getElem?_getD, List.getElem?_eq_getElem hlt]; rfl
              have hq : L[n].toNat / 64 = 2 := by
                rw [← hg]
                obtain ⟨i1, i2, i3, i4⟩ := hin
                have hn3 : n = 1 ∨ n = 2 ∨ n = 3 := by omega
                rcases hn3 with rfl | rfl | rfl
                · exact i1 hnw
                · exact i2 hnw
                · exact i3 hnw
              unfold runeStart at hr
              rw [bne_iff_ne] at hr
              omega
            · have hne2 : L.take n ≠ [] := fun e => by
                have := congrArg List.length e
                rw [List.length_take, List.length_nil] at this
                omega
              have g : ∀ i, i < n → (L.take n).getD i 0 = L.getD i 0 := fun i hi => by
                rw [List.getD_eq_getElem?_getD, List.getD_eq_getElem?_getD, List.getElem?_take_of_lt hi]
              have e : decodeL (L.take n) = decodeL L := by
                have hl : (L.take n).length = n := by rw [List.length_take]; omega
                rw [decodeL_N (L.take n), decodeL_N L, hl, g 0 (by omega)]
                refine dec_cut _ _ _ _ _ _ _ _ _ cN ?_ (fun h => by rw [g 1 h]) (fun h => by rw [g 2 h]) (fun h => by rw [g 3 h])
                have hw2 : (decodeL L).2 ≤ n := by omega
                rw [decodeL_N L] at hw2; exact hw2
              rw [validD_step _ hne2, e, if_neg c, List.drop_take]
              refine take_valid k (L.drop (decodeL L).2) (n - (decodeL L).2) (by rw [List.length_drop]; omega) hv (fun h => ?_)
              rw [List.getElem_drop]
              have hi : (decodeL L).2 + (n - (decodeL L).2) = n := by omega
              have := hs hlt
              simpa [hi] using this
/-- A valid text may be cut at n just if a rune starts there. -/
theorem cut_valid (L : List UInt8) (n : Nat) (hv : validD L = true) (hn : n ≤ L.length) : validD (L.take n) = true ↔ ∀ h : n < L.length, runeStart (L[n].toNat : Int) = true := by
  refine ⟨fun ht h => ?_, take_valid L.length L n (Nat.le_refl _) hv⟩
  have e := valid_app _ (L.take n) (L.drop n) (Nat.le_refl _) ht
  rw [List.take_append_drop, hv, List.drop_eq_getElem_cons h] at e
  exact valid_head e.symm
end Go.Proofs.YtffldajbnhbkkaaDoor.Q

namespace Go.Proofs.YtffldajbnhbkkaaDoor.Q
set_option linter.unusedVariables false
set_option linter.unusedSimpArgs false
/-- Spans in order, each of two places. -/
def Ordd (l : List S31) : Prop := l.Pairwise fun a b => lt31 b a = false
theorem ordd_of {l : List S31} (h : Sorted l) : Ordd l := List.pairwise_iff_getElem.2 (fun i j hi hj hij => h i j hi hj (Nat.le_of_lt hij))
theorem no_lt {a b : S31} (h : lt31 b a = false) : a.f1 < b.f1 ∨ (b.f1 = a.f1 ∧ b.f2 ≤ a.f2) := (HP.ltK_no _ _ _ _).1 h
theorem cr1_iff (a b : S31) : cr1 a b = true ↔ a.f1 < b.f1 ∧ b.f1 < a.f2 ∧ a.f2 < b.f2 := by
  unfold cr1
  simp only [Bool.and_eq_true, decide_eq_true_eq]
/-- What the stack holds at a place. -/
structure Stk (P rs l : List S31) : Prop where
  ord : ∀ a ∈ P, ∀ b ∈ l, lt31 b a = false
  sub : ∀ a ∈ rs, a ∈ P
  chain : rs.Pairwise fun a b => a.f2 ≤ b.f2
  gone : ∀ a ∈ P, a ∉ rs → ∀ b ∈ l, a.f2 ≤ b.f1
theorem popE_sub (rs : List S31) (f : Int) : ∀ a ∈ popE rs f, a ∈ rs := by
  induction rs with
  | nil => intro a h; exact h
  | cons y ys ih =>
    intro a h
    unfold popE at h
    split at h
    · exact List.mem_cons_of_mem _ (ih a h)
    · exact h
theorem popE_chain {rs : List S31} (f : Int) (h : rs.Pairwise fun a b => a.f2 ≤ b.f2) : (popE rs f).Pairwise fun a b => a.f2 ≤ b.f2 := by
  induction rs with
  | nil => exact h
  | cons y ys ih =>
    unfold popE
    split
    · exact ih (List.Pairwise.of_cons h)
    · exact h
theorem popE_gone {rs : List S31} (f : Int) (h : rs.Pairwise fun a b => a.f2 ≤ b.f2) : (∀ a ∈ rs, a ∉ popE rs f → a.f2 ≤ f) ∧ ∀ a ∈ popE rs f, f < a.f2 := by
  induction rs with
  | nil => exact ⟨fun a h => (by cases h), fun a h => (by cases h)⟩
  | cons y ys ih =>
    obtain ⟨i1, i2⟩ := ih (List.Pairwise.of_cons h)
    unfold popE
    by_cases c : y.f2 ≤ f
    · rw [if_pos c]
      refine ⟨fun a ha hn => ?_, i2⟩
      rcases List.mem_cons.1 ha with rfl | ha
      · exact c
      · exact i1 a ha hn
    · rw [if_neg c]
      refine ⟨fun a ha hn => absurd ha hn, fun a ha => ?_⟩
      rcases List.mem_cons.1 ha with rfl | ha
      · omega
      · have := List.rel_of_pairwise_cons h ha; omega
open Classical in
theorem Stk.step {P rs l : List S31} {x : S31} (h : Stk P rs (x :: l)) (ho : Ordd (x :: l)) (hb : topBad (popE rs x.f1) x.f2 = false) (hx : x.f1 < x.f2) : Stk (P ++ [x]) (x :: popE rs x.f1) l := by
  have hg := popE_gone x.f1 h.chain
  refine ⟨fun a ha b hb' => ?_, fun a ha => ?_, ?_, fun a ha hn b hb' => ?_⟩
  · rcases List.mem_append.1 ha with ha | ha
    · exact h.ord a ha b (List.mem_cons_of_mem _ hb')
    · obtain rfl := List.mem_singleton.1 ha
      exact List.rel_of_pairwise_cons ho hb'
  · rcases List.mem_cons.1 ha with rfl | ha
    · exact List.mem_append_right _ (List.mem_singleton.2 rfl)
    · exact List.mem_append_left _ (h.sub a (popE_sub _ _ a ha))
  · refine List.Pairwise.cons (fun a ha => ?_) (popE_chain _ h.chain)
    have hc := popE_chain x.f1 h.chain
    revert hb ha hc
    generalize popE rs x.f1 = q
    intro hb ha hc
    cases q with
    | nil => cases ha
    | cons y ys =>
      have h1 : ¬ y.f2 < x.f2 := of_decide_eq_false hb
      rcases List.mem_cons.1 ha with rfl | ha
      · omega
      · have := List.rel_of_pairwise_cons hc ha; omega
  · have hob := List.rel_of_pairwise_cons ho hb'
    have hxb : x.f1 ≤ b.f1 := by rcases no_lt hob with h1 | h1 <;> omega
    rcases List.mem_append.1 ha with ha | ha
    · by_cases hr : a ∈ rs
      · have := hg.1 a hr (fun h2 => hn (List.mem_cons_of_mem _ h2))
        omega
      · have := h.gone a ha hr x (List.mem_cons_self ..)
        omega
    · obtain rfl := List.mem_singleton.1 ha
      exact absurd (List.mem_cons_self ..) hn
open Classical in
/-- x crosses none that stands ahead just if the top does not bar it. -/
theorem Stk.cross {P rs l : List S31} {x : S31} (h : Stk P rs (x :: l)) : topBad (popE rs x.f1) x.f2 = true ↔ ∃ a ∈ P, cr1 a x = true := by
  have hg := popE_gone x.f1 h.chain
  have hs := popE_sub rs x.f1
  have hc := popE_chain x.f1 h.chain
  constructor
  · intro hb
    revert hb hs hc hg
    generalize popE rs x.f1 = q
    intro hg hs hc hb
    cases q with
    | nil => cases hb
    | cons y ys =>
      have h1 : y.f2 < x.f2 := of_decide_eq_true hb
      have h2 := hg.2 y (List.mem_cons_self ..)
      have hy := h.sub y (hs y (List.mem_cons_self ..))
      refine ⟨y, hy, (cr1_iff y x).2 ⟨?_, h2, h1⟩⟩
      rcases no_lt (h.ord y hy x (List.mem_cons_self ..)) with h3 | h3 <;> omega
  · rintro ⟨a, ha, hcr⟩
    obtain ⟨c1, c2, c3⟩ := (cr1_iff a x).1 hcr
    have hr : a ∈ rs := by
      by_cases hr : a ∈ rs
      · exact hr
      · have := h.gone a ha hr x (List.mem_cons_self ..); omega
    have hq : a ∈ popE rs x.f1 := by
      by_cases hq : a ∈ popE rs x.f1
      · exact hq
      · have := hg.1 a hr hq; omega
    revert hq hc
    generalize popE rs x.f1 = q
    intro hc hq
    cases q with
    | nil => cases hq
    | cons y ys =>
      show decide (y.f2 < x.f2) = true
      rcases List.mem_cons.1 hq with rfl | hq
      · exact decide_eq_true c3
      · have := List.rel_of_pairwise_cons hc hq
        exact decide_eq_true (by omega)
/-- No two of them cross. -/
def NoX (l : List S31) : Prop := l.Pairwise fun a b => cr1 a b = false
theorem chkGo_iff (s : ByteArray) : ∀ (l rs P : List S31), Stk P rs l → Ordd l → (chkGo s l rs = true ↔ (∀ x ∈ l, spanBad s x = false) ∧ (∀ a ∈ P, ∀ x ∈ l, cr1 a x = false) ∧ NoX l)
  | [], rs, P, h, ho => ⟨fun _ => ⟨fun x hx => (by cases hx), fun a _ x hx => (by cases hx), List.Pairwise.nil⟩, fun _ => rfl⟩
  | x :: l, rs, P, h, ho => by
    unfold chkGo
    by_cases c : spanBad s x = true
    · rw [if_pos c]
      refine ⟨fun e => (by cases e), fun e => ?_⟩
      have := e.1 x (List.mem_cons_self ..)
      rw [c] at this; cases this
    · rw [if_neg c]
      have cf : spanBad s x = false := by simpa using c
      by_cases c2 : topBad (popE rs x.f1) x.f2 = true
      · rw [if_pos c2]
        refine ⟨fun e => (by cases e), fun e => ?_⟩
        obtain ⟨a, ha, hcr⟩ := h.cross.1 c2
        rw [e.2.1 a ha x (List.mem_cons_self ..)] at hcr; cases hcr
      · rw [if_neg c2]
        have c2f : topBad (popE rs x.f1) x.f2 = false := by simpa using c2
        obtain ⟨_, _, _, _, hlt⟩ := span_in cf
        have hst := h.step ho c2f hlt
        rw [chkGo_iff s l (x :: popE rs x.f1) (P ++ [x]) hst (List.Pairwise.of_cons ho)]
        constructor
        · rintro ⟨h1, h2, h3⟩
          refine ⟨fun y hy => ?_, fun a ha y hy => ?_, List.Pairwise.cons (fun b hb => h2 x (List.mem_append_right _ (List.mem_singleton.2 rfl)) b hb) h3⟩
          · rcases List.mem_cons.1 hy with rfl | hy
            · exact cf
            · exact h1 y hy
          · rcases List.mem_cons.1 hy with rfl | hy
            · cases hcr : cr1 a y with
              | false => rfl
              | true => exact absurd (h.cross.2 ⟨a, ha, hcr⟩) c2
            · exact h2 a (List.mem_append_left _ ha) y hy
        · rintro ⟨h1, h2, h3⟩
          refine ⟨fun y hy => h1 y (List.mem_cons_of_mem _ hy), fun a ha y hy => ?_, List.Pairwise.of_cons h3⟩
          rcases List.mem_append.1 ha with ha | ha
          · exact h2 a ha y (List.mem_cons_of_mem _ hy)
          · obtain rfl := List.mem_singleton.1 ha
            exact List.rel_of_pairwise_cons h3 hy
theorem sortB_of {l : List S31} (h : Ordd l) : sortB l = true := by
  unfold sortB
  have : ∀ k, k < l.length → sortTo l k = true := by
    intro k
    induction k with
    | zero => intro _; rfl
    | succ k ih =>
      intro hk
      unfold sortTo
      rw [rd31 l (k + 1) hk, rd31 l k (by omega), if_neg, ih (by omega)]
      rw [List.pairwise_iff_getElem.1 h k (k + 1) (by omega) hk (by omega)]; simp
  rcases Nat.eq_zero_or_pos l.length with h0 | h0
  · rw [h0]; rfl
  · exact this _ (by omega)
/-- Check, in plain words. -/
theorem chkB_iff (s : ByteArray) (l : List S31) : chkB s l = true ↔ Lib.validD s.data.toList = true ∧ Ordd l ∧ (∀ x ∈ l, spanBad s x = false) ∧ NoX l := by
  unfold chkB
  rw [Bool.and_eq_true, Bool.and_eq_true]
  constructor
  · rintro ⟨h1, h2, h3⟩
    have ho := ordd_of (sorted_of h2)
    have := (chkGo_iff s l [] [] ⟨fun a h => (by cases h), fun a h => (by cases h), List.Pairwise.nil, fun a h => (by cases h)⟩ ho).1 h3
    exact ⟨h1, ho, this.1, this.2.2⟩
  · rintro ⟨h1, h2, h3, h4⟩
    refine ⟨h1, sortB_of h2, (chkGo_iff s l [] [] ⟨fun a h => (by cases h), fun a h => (by cases h), List.Pairwise.nil, fun a h => (by cases h)⟩ h2).2 ⟨h3, fun a h => (by cases h), h4⟩⟩
end Go.Proofs.YtffldajbnhbkkaaDoor.Q

namespace Go.Proofs.YtffldajbnhbkkaaDoor.Q
set_option linter.unusedVariables false
set_option linter.unusedSimpArgs false
/-- The whole digits that go on: they began, and end, ahead of n. -/
def StOk (st : Option (Int × Int)) (n : Int) : Prop := ∀ a b, st = some (a, b) → a < b ∧ b ≤ n
theorem StOk.none (n : Int) : StOk none n := fun a b h => by cases h
theorem StOk.on {st : Option (Int × Int)} {n m : Int} (h : StOk st n) (hm : n ≤ m) : StOk st m := fun a b e => by have := h a b e; omega
theorem first_le {st : Option (Int × Int)} {n : Int} (h : StOk st n) : firstOf n st ≤ n := by
  unfold firstOf
  cases st with
  | none => exact Int.le_refl _
  | some p => have := h p.1 p.2 rfl; show p.1 ≤ n; omega
theorem StOk.go {st : Option (Int × Int)} {n k : Int} (h : StOk st n) (hk : 0 < k) : StOk (some (firstOf n st, n + k)) (n + k) := by
  intro a b e
  injection e with e
  injection e with e1 e2
  have := first_le h
  omega
end Go.Proofs.YtffldajbnhbkkaaDoor.Q
