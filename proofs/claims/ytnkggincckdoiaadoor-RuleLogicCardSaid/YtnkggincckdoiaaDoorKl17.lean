import Derived.Test.YtnkggincckdoiaaDoorKl16
namespace Go.Proofs.YtnkggincckdoiaaDoor.Q
open Go.RowKit Go.Shelf
set_option linter.unusedVariables false
set_option linter.unusedSimpArgs false
theorem take_app {p : ByteArray} {ts r : List ByteArray} (h : r.head? ≠ some p) : takeT p (ts ++ r) = ((takeT p ts).1, (takeT p ts).2 ++ r) := by
  cases ts with
  | nil =>
    rw [List.nil_append]
    have e : takeT p ([] : List ByteArray) = (false, []) := if_neg (by simp)
    rw [e, takeT, if_neg h]
    rfl
  | cons t ts =>
    unfold takeT
    by_cases e : t = p
    · rw [if_pos (by rw [List.cons_append, List.head?_cons, e]), if_pos (by rw [List.head?_cons, e])]; rfl
    · rw [if_neg (by rw [List.cons_append, List.head?_cons]; exact fun h => e (Option.some.inj h)), if_neg (by rw [List.head?_cons]; exact fun h => e (Option.some.inj h))]
theorem num_cons (t : ByteArray) (ts : List ByteArray) : numT (t :: ts) = match Lib.atoiAll t.data.toList with
    | .ok v => if t.size ≤ 9 then some (v, ts) else none
    | _ => none := rfl
theorem cat_cons (t : ByteArray) (ts : List ByteArray) : catT (t :: ts) = if 0 ≤ Lib.idxOfS words6 t then some (Lib.idxOfS words6 t, ts) else none := rfl
theorem num_app {ts ts' : List ByteArray} {v : Int} (r : List ByteArray) (h : numT ts = some (v, ts')) : numT (ts ++ r) = some (v, ts' ++ r) := by
  cases ts with
  | nil => rw [show numT [] = none by kernel_rfl] at h; cases h
  | cons t ts =>
    rw [num_cons] at h
    rw [List.cons_append, num_cons]
    split at h
    · rename_i v' e
      by_cases hs : t.size ≤ 9
      · rw [if_pos hs] at h
        injection h with h; injection h with h1 h2; subst h1 h2
        rw [if_pos hs]
      · rw [if_neg hs] at h; cases h
    · cases h
theorem mod_app {ts ts' : List ByteArray} {m : Int} {r : List ByteArray} (hr : r.head? ≠ some sPct) (h : modT ts = some (m, ts')) : modT (ts ++ r) = some (m, ts' ++ r) := by
  unfold modT at h ⊢
  rw [take_app hr]
  simp only []
  split at h
  · rename_i ht
    rw [if_pos ht]
    split at h
    · rename_i m' ts2 e
      split at h
      · rename_i hm
        injection h with h; injection h with h1 h2; subst h1 h2
        rw [num_app r e]
        simp only [if_pos hm]
      · cases h
    · cases h
  · rename_i ht
    injection h with h; injection h with h1 h2; subst h1 h2
    rw [if_neg ht]
theorem not_app {ts ts' : List ByteArray} {n : Bool} {r : List ByteArray} (h1 : r.head? ≠ some sNe) (h2 : r.head? ≠ some sEq) (h : notT ts = some (n, ts')) : notT (ts ++ r) = some (n, ts' ++ r) := by
  unfold notT at h ⊢
  rw [take_app h1, take_app h2]
  simp only []
  split at h
  · rename_i ht
    injection h with h; injection h with h1 h2; subst h1 h2
    rw [if_pos ht]
  · rename_i ht
    rw [if_neg ht]
    split at h
    · rename_i ht2
      injection h with h; injection h with h1 h2; subst h1 h2
      rw [if_pos ht2]
    · cases h
theorem high_app {ts ts' : List ByteArray} {lo hi : Int} {r : List ByteArray} (h1 : r.head? ≠ some sDd) (h : highT lo ts = some (hi, ts')) : highT lo (ts ++ r) = some (hi, ts' ++ r) := by
  unfold highT at h ⊢
  rw [take_app h1]
  simp only []
  split at h
  · rename_i ht
    rw [if_pos ht]
    exact num_app r h
  · rename_i ht
    injection h with h; injection h with h1 h2; subst h1 h2
    rw [if_neg ht]
theorem ranges_app {r : List ByteArray} (h1 : r.head? ≠ some sDd) (h2 : r.head? ≠ some sCom) : ∀ (k k' : Nat) (n : Int) (b b' : Bool) (ts ts' : List ByteArray), k ≤ k' → rangesT k n b ts = some (b', ts') → rangesT k' n b (ts ++ r) = some (b', ts' ++ r)
  | 0, _, _, _, _, _, _, _, h => by simp [rangesT] at h
  | k + 1, k', n, b, b', ts, ts', hk, h => by
    obtain ⟨k', rfl⟩ : ∃ q, k' = q + 1 := ⟨k' - 1, by omega⟩
    rw [rangesT] at h ⊢
    split at h
    · cases h
    · rename_i lo ts1 e1
      rw [num_app r e1]
      simp only []
      split at h
      · cases h
      · rename_i hi ts2 e2
        rw [high_app h1 e2]
        simp only []
        split at h
        · rename_i hle
          rw [if_pos hle, take_app h2]
          simp only []
          split at h
          · rename_i ht
            rw [if_pos ht]
            exact ranges_app h1 h2 k k' n _ b' _ ts' (by omega) h
          · rename_i ht
            injection h with h; injection h with e3 e4; subst e3 e4
            rw [if_neg ht]
        · cases h
/-- What may stand behind a relation. -/
structure RelOK (r : List ByteArray) : Prop where
  p : r.head? ≠ some sPct
  n : r.head? ≠ some sNe
  e : r.head? ≠ some sEq
  d : r.head? ≠ some sDd
  c : r.head? ≠ some sCom
theorem val_nil (x : Opr) : valT x ByteArray.empty = none := by cases x; kernel_rfl
theorem rel_app {x : Opr} {ts ts' : List ByteArray} {b : Bool} {r : List ByteArray} (hr : RelOK r) (h : relT x ts = some (b, ts')) : relT x (ts ++ r) = some (b, ts' ++ r) := by
  cases ts with
  | nil => exact absurd h (by unfold relT; rw [show valT x (List.headD [] ByteArray.empty) = none from val_nil x]; intro h; cases h)
  | cons t ts =>
    unfold relT at h ⊢
    rw [List.cons_append]
    simp only [List.headD_cons, List.tail_cons] at h ⊢
    cases e1 : valT x t with
    | none => rw [e1] at h; cases h
    | some db =>
      obtain ⟨d, br⟩ := db
      rw [e1] at h
      simp only [] at h ⊢
      cases e2 : modT ts with
      | none => rw [e2] at h; cases h
      | some mm =>
        obtain ⟨m, ts2⟩ := mm
        rw [e2] at h
        rw [mod_app hr.p e2]
        simp only [] at h ⊢
        cases e3 : notT ts2 with
        | none => rw [e3] at h; cases h
        | some nn =>
          obtain ⟨nt, ts3⟩ := nn
          rw [e3] at h
          rw [not_app hr.n hr.e e3]
          simp only [] at h ⊢
          cases e4 : rangesT (ts3.length + 1) (restB d m) false ts3 with
          | none => rw [e4] at h; cases h
          | some bb =>
            obtain ⟨b2, ts4⟩ := bb
            rw [e4] at h
            simp only [] at h
            injection h with h; injection h with h1 h2; subst h1 h2
            rw [ranges_app hr.d hr.c _ _ _ _ _ _ _ (by rw [List.length_append]; omega) e4]
theorem take_suf (p : ByteArray) (ts : List ByteArray) : (takeT p ts).2 <:+ ts := by
  unfold takeT
  split
  · exact List.tail_suffix _
  · exact List.suffix_refl _
theorem num_suf {ts ts' : List ByteArray} {v : Int} (h : numT ts = some (v, ts')) : ts' <:+ ts := by
  unfold numT at h
  split at h
  · split at h
    · injection h with h; injection h with _ h; subst h; exact List.tail_suffix _
    · cases h
  · cases h
theorem mod_suf {ts ts' : List ByteArray} {m : Int} (h : modT ts = some (m, ts')) : ts' <:+ ts := by
  unfold modT at h
  split at h
  · split at h
    · rename_i e
      split at h
      · injection h with h; injection h with _ h; subst h; exact (num_suf e).trans (take_suf _ _)
      · cases h
    · cases h
  · injection h with h; injection h with _ h; subst h; exact List.suffix_refl _
theorem not_suf {ts ts' : List ByteArray} {n : Bool} (h : notT ts = some (n, ts')) : ts' <:+ ts := by
  unfold notT at h
  split at h
  · injection h with h; injection h with _ h; subst h; exact take_suf _ _
  · split at h
    · injection h with h; injection h with _ h; subst h; exact take_suf _ _
    · cases h
theorem high_suf {ts ts' : List ByteArray} {lo hi : Int} (h : highT lo ts = some (hi, ts')) : ts' <:+ ts := by
  unfold highT at h
  split at h
  · exact (num_suf h).trans (take_suf _ _)
  · injection h with h; injection h with _ h; subst h; exact List.suffix_refl _
theorem ranges_suf : ∀ (k : Nat) (n : Int) (b b' : Bool) (ts ts' : List ByteArray), rangesT k n b ts = some (b', ts') → ts' <:+ ts
  | 0, _, _, _, _, _, h => by simp [rangesT] at h
  | k + 1, n, b, b', ts, ts', h => by
    rw [rangesT] at h
    split at h
    · cases h
    · rename_i lo ts1 e1
      split at h
      · cases h
      · rename_i hi ts2 e2
        have h0 := (high_suf e2).trans (num_suf e1)
        split at h
        · split at h
          · exact (ranges_suf k n _ b' _ ts' h).trans ((take_suf _ _).trans h0)
          · injection h with h; injection h with _ h; subst h; exact h0
        · cases h
theorem rel_suf {x : Opr} {ts ts' : List ByteArray} {b : Bool} (h : relT x ts = some (b, ts')) : ts' <:+ ts := by
  unfold relT at h
  split at h
  · cases h
  · split at h
    · cases h
    · rename_i e2
      split at h
      · cases h
      · rename_i e3
        split at h
        · cases h
        · rename_i e4
          injection h with h; injection h with _ h; subst h
          exact (ranges_suf _ _ _ _ _ _ e4).trans ((not_suf e3).trans ((mod_suf e2).trans (List.tail_suffix _)))
theorem and_suf {x : Opr} : ∀ (k : Nat) (a b : Bool) (ts ts' : List ByteArray), andT x k a ts = some (b, ts') → ts' <:+ ts
  | 0, _, _, _, _, h => by simp [andT] at h
  | k + 1, a, b, ts, ts', h => by
    rw [andT] at h
    split at h
    · cases h
    · rename_i hh ts1 e1
      split at h
      · exact (and_suf k _ b _ ts' h).trans ((take_suf _ _).trans (rel_suf e1))
      · injection h with h; injection h with _ h; subst h; exact rel_suf e1
theorem or_suf {x : Opr} : ∀ (k : Nat) (a b : Bool) (ts ts' : List ByteArray), orT x k a ts = some (b, ts') → ts' <:+ ts
  | 0, _, _, _, _, h => by simp [orT] at h
  | k + 1, a, b, ts, ts', h => by
    rw [orT] at h
    split at h
    · cases h
    · rename_i hh ts1 e1
      split at h
      · exact (or_suf k _ b _ ts' h).trans ((take_suf _ _).trans (and_suf _ _ _ _ _ e1))
      · injection h with h; injection h with _ h; subst h; exact and_suf _ _ _ _ _ e1
theorem cond_suf {x : Opr} {ts ts' : List ByteArray} {b : Bool} (h : condT x ts = some (b, ts')) : ts' <:+ ts := or_suf _ _ _ _ _ h
theorem take_yes {p : ByteArray} {ts : List ByteArray} (h : (takeT p ts).1 = true) : ts = p :: (takeT p ts).2 := by
  unfold takeT at h ⊢
  split
  · rename_i e
    cases ts with
    | nil => cases e
    | cons t ts => rw [Option.some.inj e]; rfl
  · rename_i e; rw [if_neg e] at h; cases h
theorem take_not {p : ByteArray} {ts : List ByteArray} (h : p ∉ ts) : (takeT p ts).1 = false := by
  unfold takeT
  rw [if_neg]
  intro e
  exact h (List.mem_of_head? e)
end Go.Proofs.YtnkggincckdoiaaDoor.Q
