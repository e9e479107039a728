import Derived.Test.YtnkggincckdoiaaDoorKl27
import Derived.Test.YtnkggincckdoiaaDoorKl28
import Derived.Test.YtnkggincckdoiaaDoorKl29
namespace Go.Proofs.YtnkggincckdoiaaDoor.Q
open Go.RowKit Go.Shelf Go.Proofs.YtnkggincckdoiaaDoorW.PrintWords
set_option linter.unusedVariables false
set_option linter.unusedSimpArgs false
def one (c : ByteArray) : ByteArray := (⟨#[111, 110, 101, 58, 32]⟩ : ByteArray) ++ c
theorem pickR_ok {s : ByteArray} {y : Opr} {n : Int} (h : pickR s y = (n, 0)) : s.size ≤ 1024 ∧ ∃ ts, toks (s.size + 1) s = some ts ∧ pickL y ts = some (n, []) := by
  unfold pickR at h
  split at h
  · injection h with _ h2; cases h2
  · rename_i hl
    refine ⟨by omega, ?_⟩
    split at h
    · injection h with _ h2; cases h2
    · rename_i ts e
      refine ⟨ts, e, ?_⟩
      unfold finR at h
      split at h
      · rename_i f e2
        injection h with h1 _
        subst h1
        exact e2
      · injection h with _ h2; cases h2
theorem pickF_two {s : ByteArray} {x : Opr} (h : (pickF s x).2 = 0) : mayO x.i x.v x.w x.f x.t x.e = true ∧ (pickR s opr0).2 = 0 ∧ (pickR s x).2 = 0 ∧ pickF s x = pickR s x := by
  unfold pickF at h ⊢
  split at h
  · rename_i h0; exact absurd h h0
  · rename_i h0
    split at h
    · rename_i hm
      exact ⟨hm, Classical.not_not.1 h0, h, by rw [if_neg h0, if_pos hm]⟩
    · cases h
theorem pickF_of {s : ByteArray} {x : Opr} {n n0 : Int} (hm : mayO x.i x.v x.w x.f x.t x.e = true) (h0 : pickR s opr0 = (n0, 0)) (h : pickR s x = (n, 0)) : pickF s x = (n, 0) := by
  unfold pickF
  rw [h0, if_neg (by simp), if_pos hm, h]
/-- A condition, alone, is one: and the other way. -/
theorem one_ok {c : ByteArray} {y : Opr} (h : (pickR (one c) y).2 = 0) (h59 : (59 : UInt8) ∉ c.data.toList) :
    ∃ l hh, tokL c.data.toList = some l ∧ condT y (l.map mkS) = some (hh, []) ∧ (pickR (one c) y).1 = if hh = true then 1 else 5 := by
  obtain ⟨_, ts, ht, hp⟩ := pickR_ok (n := (pickR (one c) y).1) (by rw [← h])
  obtain ⟨l, hl, rfl⟩ := one_toks ht
  rw [pickL, if_neg (by simp)] at hp
  have hs : sSem ∉ l.map mkS := no_part hl h59 [59] (by simp)
  obtain ⟨hh, h1, h2⟩ := pick_one (m := (wOne :: sCol :: l.map mkS).length) cat_one hs hp
  refine ⟨l, hh, hl, h1, ?_⟩
  rw [h2]
  cases hh <;> rfl
theorem one_of {c : ByteArray} {y : Opr} {l : List (List UInt8)} {hh : Bool} (hl : tokL c.data.toList = some l) (hc : condT y (l.map mkS) = some (hh, [])) (hs : c.size ≤ 1019) : pickR (one c) y = (if hh = true then 1 else 5, 0) := by
  have h5 : (one c).size = 5 + c.size := by unfold one; rw [ByteArray.size_append]; rfl
  have ht : toks ((one c).size + 1) (one c) = some (wOne :: sCol :: l.map mkS) := by
    unfold one
    rw [toks_L, app_data, toks_one, hl]
    rfl
  unfold pickR
  rw [if_neg (by omega), ht]
  simp only []
  rw [pickL, if_neg (by simp), pickT, cat_one]
  simp only []
  rw [show takeT sCol (sCol :: l.map mkS) = (true, l.map mkS) from if_pos rfl]
  rw [if_pos ⟨by decide, by rfl, rfl⟩, hc]
  simp only []
  rw [if_neg (by rw [take_not (by simp)]; decide)]
  cases hh <;> rfl
/-- Without the words a condition is one relation. -/
theorem cond_rel {y : Opr} {ts : List ByteArray} {h : Bool} (ha : sAnd ∉ ts) (ho : sOr ∉ ts) (hc : condT y ts = some (h, [])) : relT y ts = some (h, []) := by
  unfold condT at hc
  rw [orT] at hc
  cases e1 : andT y (ts.length + 1) true ts with
  | none => rw [e1] at hc; cases hc
  | some p1 =>
    obtain ⟨h1, ts1⟩ := p1
    rw [e1] at hc
    simp only [] at hc
    rw [if_neg (by rw [take_not (fun hm => ho ((and_suf _ _ _ _ _ e1).mem hm))]; decide)] at hc
    rw [andT] at e1
    cases e2 : relT y ts with
    | none => rw [e2] at e1; cases e1
    | some p2 =>
      obtain ⟨h2, ts2⟩ := p2
      rw [e2] at e1
      simp only [] at e1
      rw [if_neg (by rw [take_not (fun hm => ha ((rel_suf e2).mem hm))]; decide)] at e1
      injection e1 with e1; injection e1 with e3 e4
      injection hc with hc; injection hc with e5 e6
      subst e6 e4
      rw [← e5, ← e3]
      simp
theorem word_ok (w : ByteArray) (hw : w = sAnd ∨ w = sOr) (us : List ByteArray) : RelOK (w :: us) := by
  rcases hw with rfl | rfl
  · exact ⟨by simp [sAnd, sPct], by simp [sAnd, sNe], by simp [sAnd, sEq], by simp [sAnd, sDd], by simp [sAnd, sCom]⟩
  · exact ⟨by simp [sOr, sPct], by simp [sOr, sNe], by simp [sOr, sEq], by simp [sOr, sDd], by simp [sOr, sCom]⟩
theorem take_hd (p : ByteArray) (ts : List ByteArray) : takeT p (p :: ts) = (true, ts) := if_pos rfl
theorem take_nil (p : ByteArray) : takeT p ([] : List ByteArray) = (false, []) := if_neg (by simp)
theorem take_ne {p q : ByteArray} (ts : List ByteArray) (h : q ≠ p) : takeT p (q :: ts) = (false, q :: ts) := if_neg (by simpa using h)
theorem and_or : sOr ≠ sAnd := by simp [sOr, sAnd]
variable {y : Opr} {ta tb tc : List ByteArray} {pa pb pc : Bool}
theorem and_one (k : Nat) (a : Bool) (h : relT y ta = some (pa, [])) : andT y (k + 1) a ta = some (a && pa, []) := by
  rw [andT, h]; simp only []; rw [take_nil, if_neg (by decide)]
theorem and_or_end (k : Nat) (a : Bool) (h : relT y ta = some (pa, [])) (us : List ByteArray) : andT y (k + 1) a (ta ++ sOr :: us) = some (a && pa, sOr :: us) := by
  rw [andT, rel_app (word_ok _ (Or.inr rfl) us) h]; simp only [List.nil_append]; rw [take_ne us and_or, if_neg (by simp)]
theorem and_step (k : Nat) (a : Bool) (h : relT y ta = some (pa, [])) (us : List ByteArray) : andT y (k + 1) a (ta ++ sAnd :: us) = andT y k (a && pa) us := by
  rw [andT, rel_app (word_ok _ (Or.inl rfl) us) h]; simp only [List.nil_append]; rw [take_hd, if_pos rfl]
theorem or_one (k : Nat) (o : Bool) {us : List ByteArray} {p : Bool} (h : andT y (us.length + 1) true us = some (p, [])) : orT y (k + 1) o us = some (o || p, []) := by
  rw [orT, h]; simp only []; rw [take_nil, if_neg (by decide)]
theorem or_step (k : Nat) (o : Bool) {us vs : List ByteArray} {p : Bool} (h : andT y (us.length + 1) true us = some (p, sOr :: vs)) : orT y (k + 1) o us = orT y k (o || p) vs := by
  rw [orT, h]; simp only []; rw [take_hd, if_pos rfl]
theorem len_app (u v : List ByteArray) (w : ByteArray) : (u ++ w :: v).length = u.length + v.length + 1 := by simp; omega
theorem cond_both (ha : relT y ta = some (pa, [])) (hb : relT y tb = some (pb, [])) : condT y (ta ++ sAnd :: tb) = some (pa && pb, []) := by
  have h : andT y ((ta ++ sAnd :: tb).length + 1) true (ta ++ sAnd :: tb) = some (pa && pb, []) := by
    rw [len_app, and_step _ _ ha, and_one _ _ hb]; simp
  unfold condT
  rw [or_one _ _ h]; simp
theorem cond_one (ha : relT y ta = some (pa, [])) (hb : relT y tb = some (pb, [])) : condT y (ta ++ sOr :: tb) = some (pa || pb, []) := by
  have h1 : andT y ((ta ++ sOr :: tb).length + 1) true (ta ++ sOr :: tb) = some (pa, sOr :: tb) := by
    rw [and_or_end _ _ ha]; simp
  have h2 : andT y (tb.length + 1) true tb = some (pb, []) := by rw [and_one _ _ hb]; simp
  unfold condT
  rw [or_step _ _ h1, len_app, or_one _ _ h2]; simp
theorem cond_mixed (ha : relT y ta = some (pa, [])) (hb : relT y tb = some (pb, [])) (hc : relT y tc = some (pc, [])) : condT y (ta ++ sOr :: (tb ++ sAnd :: tc)) = some (pa || (pb && pc), []) := by
  have h1 : andT y ((ta ++ sOr :: (tb ++ sAnd :: tc)).length + 1) true (ta ++ sOr :: (tb ++ sAnd :: tc)) = some (pa, sOr :: (tb ++ sAnd :: tc)) := by
    rw [and_or_end _ _ ha]; simp
  have h2 : andT y ((tb ++ sAnd :: tc).length + 1) true (tb ++ sAnd :: tc) = some (pb && pc, []) := by
    rw [len_app, and_step _ _ hb, and_one _ _ hc]; simp
  unfold condT
  rw [or_step _ _ h1, len_app, or_one _ _ h2]; simp
theorem cond_turned (ha : relT y ta = some (pa, [])) (hb : relT y tb = some (pb, [])) (hc : relT y tc = some (pc, [])) : condT y (ta ++ sAnd :: (tb ++ sOr :: tc)) = some ((pa && pb) || pc, []) := by
  have h1 : andT y ((ta ++ sAnd :: (tb ++ sOr :: tc)).length + 1) true (ta ++ sAnd :: (tb ++ sOr :: tc)) = some (pa && pb, sOr :: tc) := by
    rw [len_app, and_step _ _ ha, len_app, show ta.length + (tb.length + tc.length + 1) + 1 = (ta.length + tb.length + tc.length + 1) + 1 by omega, and_or_end _ _ hb]; simp
  have h2 : andT y (tc.length + 1) true tc = some (pc, []) := by rw [and_one _ _ hc]; simp
  unfold condT
  rw [or_step _ _ h1, len_app, or_one _ _ h2]; simp
theorem tok_and (u v : List UInt8) : tokL (u ++ [32, 97, 110, 100, 32] ++ v) = (tokL u).bind fun tu => (tokL v).map (tu ++ [[97, 110, 100]] ++ ·) := by
  rw [tok_app (u ++ [32, 97, 110, 100, 32]) v (Or.inr (Or.inl (by rw [List.getLast?_append]; rfl))), tok_app u [32, 97, 110, 100, 32] (Or.inr (Or.inr (Or.inr ⟨32, _, rfl, by decide, by decide, by simp, by simp⟩))),
    show tokL [32, 97, 110, 100, 32] = some [[97, 110, 100]] by kernel_rfl]
  cases tokL u <;> simp
theorem tok_or (u v : List UInt8) : tokL (u ++ [32, 111, 114, 32] ++ v) = (tokL u).bind fun tu => (tokL v).map (tu ++ [[111, 114]] ++ ·) := by
  rw [tok_app (u ++ [32, 111, 114, 32]) v (Or.inr (Or.inl (by rw [List.getLast?_append]; rfl))), tok_app u [32, 111, 114, 32] (Or.inr (Or.inr (Or.inr ⟨32, _, rfl, by decide, by decide, by simp, by simp⟩))),
    show tokL [32, 111, 114, 32] = some [[111, 114]] by kernel_rfl]
  cases tokL u <;> simp
end Go.Proofs.YtnkggincckdoiaaDoor.Q
