import Derived.Test.YtnkggincckdoiaaDoorKs16
namespace Go.Proofs.YtnkggincckdoiaaDoor.Q
open Go.RowKit Go.Shelf
set_option linter.unusedVariables false
set_option linter.unusedSimpArgs false
theorem num_cons (t : ByteArray) (ts : List ByteArray) : numT (t :: ts) = match Lib.atoiAll t.data.toList with
    | .ok v => if t.size ≤ 9 then some (v, ts) else none
    | _ => none := rfl
theorem cat_cons (t : ByteArray) (ts : List ByteArray) : catT (t :: ts) = if 0 ≤ Lib.idxOfS words6 t then some (Lib.idxOfS words6 t, ts) else none := rfl
/-- What may stand behind a relation. -/
structure RelOK (r : List ByteArray) : Prop where
  p : r.head? ≠ some sPct
  n : r.head? ≠ some sNe
  e : r.head? ≠ some sEq
  d : r.head? ≠ some sDd
  c : r.head? ≠ some sCom
theorem take_suf (p : ByteArray) (ts : List ByteArray) : (takeT p ts).2 <:+ ts := by
  unfold takeT
  split
  · exact List.tail_suffix _
  · exact List.suffix_refl _
theorem num_suf {ts ts' : List ByteArray} {v : Int} (h : numT ts = some (v, ts')) : ts' <:+ ts := by
  unfold numT at h
  split at h
  · split at h
    · injection h with h; injection h with _ h; subst h; exact List.tail_suffix _
    · cases h
  · cases h
theorem mod_suf {ts ts' : List ByteArray} {m : Int} (h : modT ts = some (m, ts')) : ts' <:+ ts := by
  unfold modT at h
  split at h
  · split at h
    · rename_i e
      split at h
      · injection h with h; injection h with _ h; subst h; exact (num_suf e).trans (take_suf _ _)
      · cases h
    · cases h
  · injection h with h; injection h with _ h; subst h; exact List.suffix_refl _
theorem not_suf {ts ts' : List ByteArray} {n : Bool} (h : notT ts = some (n, ts')) : ts' <:+ ts := by
  unfold notT at h
  split at h
  · injection h with h; injection h with _ h; subst h; exact take_suf _ _
  · split at h
    · injection h with h; injection h with _ h; subst h; exact take_suf _ _
    · cases h
theorem high_suf {ts ts' : List ByteArray} {lo hi : Int} (h : highT lo ts = some (hi, ts')) : ts' <:+ ts := by
  unfold highT at h
  split at h
  · exact (num_suf h).trans (take_suf _ _)
  · injection h with h; injection h with _ h; subst h; exact List.suffix_refl _
theorem ranges_suf : ∀ (k : Nat) (n : Int) (b b' : Bool) (ts ts' : List ByteArray), rangesT k n b ts = some (b', ts') → ts' <:+ ts
  | 0, _, _, _, _, _, h => by simp [rangesT] at h
  | k + 1, n, b, b', ts, ts', h => by
    rw [rangesT] at h
    split at h
    · cases h
    · rename_i lo ts1 e1
      split at h
      · cases h
      · rename_i hi ts2 e2
        have h0 := (high_suf e2).trans (num_suf e1)
        split at h
        · split at h
          · exact (ranges_suf k n _ b' _ ts' h).trans ((take_suf _ _).trans h0)
          · injection h with h; injection h with _ h; subst h; exact h0
        · cases h
theorem rel_suf {x : Opr} {ts ts' : List ByteArray} {b : Bool} (h : relT x ts = some (b, ts')) : ts' <:+ ts := by
  unfold relT at h
  split at h
  · cases h
  · split at h
    · cases h
    · rename_i e2
      split at h
      · cases h
      · rename_i e3
        split at h
        · cases h
        · rename_i e4
          injection h with h; injection h with _ h; subst h
          exact (ranges_suf _ _ _ _ _ _ e4).trans ((not_suf e3).trans ((mod_suf e2).trans (List.tail_suffix _)))
theorem and_suf {x : Opr} : ∀ (k : Nat) (a b : Bool) (ts ts' : List ByteArray), andT x k a ts = some (b, ts') → ts' <:+ ts
  | 0, _, _, _, _, h => by simp [andT] at h
  | k + 1, a, b, ts, ts', h => by
    rw [andT] at h
    split at h
    · cases h
    · rename_i hh ts1 e1
      split at h
      · exact (and_suf k _ b _ ts' h).trans ((take_suf _ _).trans (rel_suf e1))
      · injection h with h; injection h with _ h; subst h; exact rel_suf e1
theorem or_suf {x : Opr} : ∀ (k : Nat) (a b : Bool) (ts ts' : List ByteArray), orT x k a ts = some (b, ts') → ts' <:+ ts
  | 0, _, _, _, _, h => by simp [orT] at h
  | k + 1, a, b, ts, ts', h => by
    rw [orT] at h
    split at h
    · cases h
    · rename_i hh ts1 e1
      split at h
      · exact (or_suf k _ b _ ts' h).trans ((take_suf _ _).trans (and_suf _ _ _ _ _ e1))
      · injection h with h; injection h with _ h; subst h; exact and_suf _ _ _ _ _ e1
theorem cond_suf {x : Opr} {ts ts' : List ByteArray} {b : Bool} (h : condT x ts = some (b, ts')) : ts' <:+ ts := or_suf _ _ _ _ _ h
theorem take_not {p : ByteArray} {ts : List ByteArray} (h : p ∉ ts) : (takeT p ts).1 = false := by
  unfold takeT
  rw [if_neg]
  intro e
  exact h (List.mem_of_head? e)
end Go.Proofs.YtnkggincckdoiaaDoor.Q
