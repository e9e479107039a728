import Derived.Test.YtalbhllgdjgbjaaLoad
namespace Go.Proofs.Ytalbhllgdjgbjaa.Q
open Go.RowKit Go.Proofs.YtalbhllgdjgbjaaW.PrintWords Go.Proofs.YtalbhllgdjgbjaaW.PrintLast Go.Proofs.YtalbhllgdjgbjaaW.PrintMore
set_option linter.unusedVariables false
set_option linter.unusedSimpArgs false

/-- Read number i tells block i of J. -/
def readsWell (img J : ByteArray) (fs : List S40) (i : Nat) : Prop :=
  readP img fs (i : Int) ((64 * i : Nat) : Int) ((min 64 (img.size - 64 * i) : Nat) : Int) = (J.extract (64 * i) (64 * i + min 64 (img.size - 64 * i)), 0)
/-- What is there behind i reads. -/
def got (J : ByteArray) (i : Nat) : ByteArray := J.extract 0 (64 * i)
theorem got_size (J : ByteArray) (i : Nat) : (got J i).size = min (64 * i) J.size := by unfold got; rw [ByteArray.size_extract]; omega
theorem got_zero (J : ByteArray) : got J 0 = ⟨#[]⟩ := by
  unfold got; apply ByteArray.ext; apply Array.ext'; rw [Lib.extract_data]; simp
theorem nextK_got (img J : ByteArray) (i : Nat) (hJ : J.size = img.size) (hi : 64 * i < img.size) : nextK img (got J i) = ((min 64 (img.size - 64 * i) : Nat) : Int) := by
  unfold nextK; rw [got_size]; omega
theorem nextN_got (img J : ByteArray) (i : Nat) (hJ : J.size = img.size) (hi : 64 * i < img.size) : nextN img (i : Int) (got J i) = ((i + 1 : Nat) : Int) := by
  have h : inR img (((got J i).size : Nat) : Int) ((min 64 (img.size - 64 * i) : Nat) : Int) = true := by
    rw [got_size]; unfold inR; simp; omega
  unfold nextN readN
  rw [nextK_got img J i hJ hi, if_pos h]; omega
theorem next_got (img J : ByteArray) (fs : List S40) (i : Nat) (hJ : J.size = img.size) (hi : 64 * i < img.size) (G : readsWell img J fs i) :
    nextP img fs (i : Int) (got J i) = (got J (i + 1), 0) := by
  have hs : (got J i).size = 64 * i := by rw [got_size]; omega
  have e : got J i ++ J.extract (64 * i) (64 * i + min 64 (img.size - 64 * i)) = got J (i + 1) := by
    unfold got
    rw [ByteArray.extract_append_extract, show min 0 (64 * i) = 0 from by omega]
    apply ByteArray.ext; apply Array.ext'
    rw [Lib.extract_data, Lib.extract_data, List.drop_zero]
    by_cases h : 64 ≤ img.size - 64 * i
    · congr 1; omega
    · rw [List.take_of_length_le (by rw [Array.length_toList]; show J.size ≤ _; omega), List.take_of_length_le (by rw [Array.length_toList]; show J.size ≤ _; omega)]
  have hR : readP img fs (i : Int) (((got J i).size : Nat) : Int) (nextK img (got J i)) = (J.extract (64 * i) (64 * i + min 64 (img.size - 64 * i)), 0) := by
    rw [hs, nextK_got img J i hJ hi]; exact G
  rw [nextP_ok hR (by rw [nextK_got img J i hJ hi, ByteArray.size_extract]; omega), e]

theorem loop_got (img J : ByteArray) (fs : List S40) (want : Nat) (hJ : J.size = img.size) (hw : want ≤ img.size) (G : ∀ i, 64 * i < want → readsWell img J fs i) :
    ∀ (d i k : Nat), i + d = (want + 63) / 64 → d < k → loadLoop img fs want k (i : Int) (got J i) = (got J ((want + 63) / 64), 0, (((want + 63) / 64 : Nat) : Int))
  | 0, i, k, hi, hk => by
    obtain ⟨k', rfl⟩ : ∃ k', k = k' + 1 := ⟨k - 1, by omega⟩
    rw [loadLoop, if_neg (by rw [got_size]; omega)]
    rw [Nat.add_zero] at hi; rw [hi]
  | d + 1, i, k, hi, hk => by
    obtain ⟨k', rfl⟩ : ∃ k', k = k' + 1 := ⟨k - 1, by omega⟩
    have h1 : 64 * i < want := by omega
    rw [loadLoop, if_pos (by rw [got_size]; omega), next_got img J fs i hJ (by omega) (G i h1), nextN_got img J i hJ (by omega), if_neg (fun h => h rfl)]
    exact loop_got img J fs want hJ hw G d (i + 1) k' (by omega) (by omega)
/-- Read number a tells an error. -/
theorem loop_bad (img J : ByteArray) (fs : List S40) (want : Nat) (a : Nat) (e : Int) (he : e ≠ 0) (hJ : J.size = img.size) (hw : want ≤ img.size) (G : ∀ i, i < a → readsWell img J fs i) (ha : 64 * a < want)
    (B : (nextP img fs (a : Int) (got J a)).2 = e) :
    ∀ (d i k : Nat), i + d = a → d < k → loadLoop img fs want k (i : Int) (got J i) = (⟨#[]⟩, e, ((a + 1 : Nat) : Int))
  | 0, i, k, hi, hk => by
    obtain ⟨k', rfl⟩ : ∃ k', k = k' + 1 := ⟨k - 1, by omega⟩
    rw [Nat.add_zero] at hi; subst hi
    rw [loadLoop, if_pos (by rw [got_size]; omega), B, if_pos he, nextN_got img J i hJ (by omega)]
  | d + 1, i, k, hi, hk => by
    obtain ⟨k', rfl⟩ : ∃ k', k = k' + 1 := ⟨k - 1, by omega⟩
    rw [loadLoop, if_pos (by rw [got_size]; omega), next_got img J fs i hJ (by omega) (G i (by omega)), nextN_got img J i hJ (by omega), if_neg (fun h => h rfl)]
    exact loop_bad img J fs want a e he hJ hw G ha B d (i + 1) k' (by omega) (by omega)

theorem got_head (J : ByteArray) (i a b : Nat) (h : b ≤ 64) (hi : 1 ≤ i) : (got J i).extract a b = J.extract a b := by
  unfold got; rw [ByteArray.extract_extract]; congr 1 <;> omega
theorem got_body (J : ByteArray) (a want : Nat) : (got J ((want + 63) / 64)).extract a want = J.extract a want := by
  unfold got; rw [ByteArray.extract_extract]; congr 1 <;> omega
/-- What is loaded, where the reads tell J. -/
theorem loadP_well (img J : ByteArray) (fs : List S40) (hJ : J.size = img.size) (h16 : 16 ≤ img.size) (G : ∀ i, 64 * i < img.size → readsWell img J fs i) :
    loadP img fs 0 = (if ¬ headOk (J.extract 0 16) then (⟨#[]⟩, 105, 1)
      else if 65536 < bodyN (J.extract 0 16) ∨ img.size < bodyN (J.extract 0 16) + 16 then (⟨#[]⟩, 106, 1)
      else if crc (J.extract 16 (16 + bodyN (J.extract 0 16))) ≠ valueB (J.extract 8 16) then (⟨#[]⟩, 104, (((16 + bodyN (J.extract 0 16) + 63) / 64 : Nat) : Int))
      else (J.extract 16 (16 + bodyN (J.extract 0 16)), 0, (((16 + bodyN (J.extract 0 16) + 63) / 64 : Nat) : Int))) := by
  have h1 := next_got img J fs 0 hJ (by omega) (G 0 (by omega))
  have h2 := nextN_got img J 0 hJ (by omega)
  rw [got_zero] at h1 h2
  have h1' : nextP img fs 0 ⟨#[]⟩ = (got J 1, 0) := h1
  have h2' : nextN img 0 ⟨#[]⟩ = 1 := h2
  unfold loadP
  rw [if_neg (by omega), h1', h2']
  dsimp only
  rw [if_neg (by decide), got_head J 1 0 16 (by omega) (by omega), got_head J 1 8 16 (by omega) (by omega)]
  by_cases c1 : headOk (J.extract 0 16)
  · have nn : ¬ ¬ headOk (J.extract 0 16) := fun h => h c1
    rw [if_neg nn, if_neg nn]
    generalize bodyN (J.extract 0 16) = N
    by_cases c2 : 65536 < N ∨ img.size < N + 16
    · rw [if_pos c2, if_pos c2]
    · rw [if_neg c2, if_neg c2]
      have hl : loadLoop img fs (16 + N) (16 + N + 1) 1 (got J 1) = _ := loop_got img J fs (16 + N) hJ (by omega) (fun i hi => G i (by omega)) ((16 + N + 63) / 64 - 1) 1 (16 + N + 1) (by omega) (by omega)
      rw [hl]
      dsimp only
      rw [if_neg (by decide), got_body]
  · rw [if_pos c1, if_pos c1]
/-- What is loaded, where read number a is needed and tells an error. -/
theorem loadP_bad (img J : ByteArray) (fs : List S40) (hJ : J.size = img.size) (h16 : 16 ≤ img.size) (a : Nat) (e : Int) (he : e ≠ 0) (G : ∀ i, i < a → readsWell img J fs i) (ha : 64 * a < img.size)
    (B : (nextP img fs (a : Int) (got J a)).2 = e) (hH : headOk (J.extract 0 16)) (hN : bodyN (J.extract 0 16) + 16 = img.size) (hN2 : bodyN (J.extract 0 16) ≤ 65536) :
    loadP img fs 0 = (⟨#[]⟩, e, ((a + 1 : Nat) : Int)) := by
  by_cases h0 : a = 0
  · subst h0
    have h2 := nextN_got img J 0 hJ (by omega)
    rw [got_zero] at h2 B
    have h2' : nextN img 0 ⟨#[]⟩ = 1 := h2
    have B' : (nextP img fs 0 ⟨#[]⟩).2 = e := B
    unfold loadP
    rw [if_neg (by omega), B', if_pos he, h2']; rfl
  · have h1 := next_got img J fs 0 hJ (by omega) (G 0 (by omega))
    have h2 := nextN_got img J 0 hJ (by omega)
    rw [got_zero] at h1 h2
    have h1' : nextP img fs 0 ⟨#[]⟩ = (got J 1, 0) := h1
    have h2' : nextN img 0 ⟨#[]⟩ = 1 := h2
    unfold loadP
    rw [if_neg (by omega), h1', h2']
    dsimp only
    rw [if_neg (by decide), got_head J 1 0 16 (by omega) (by omega), if_neg (fun h => h hH), if_neg (by omega)]
    have hl : loadLoop img fs (16 + bodyN (J.extract 0 16)) (16 + bodyN (J.extract 0 16) + 1) 1 (got J 1) = _ := loop_bad img J fs (16 + bodyN (J.extract 0 16)) a e he hJ (by omega) G (by omega) B (a - 1) 1 _ (by omega) (by omega)
    rw [hl]
    dsimp only
    rw [if_pos he]
/-- A disk without faults, or with none at that read. -/
theorem readsWell_none (img : ByteArray) (fs : List S40) (i : Nat) (hi : 64 * i < img.size) (h : atF fs (i : Int) = none) : readsWell img img fs i := by
  unfold readsWell readP
  have hr : inR img ((64 * i : Nat) : Int) ((min 64 (img.size - 64 * i) : Nat) : Int) = true := by unfold inR; simp; omega
  rw [if_pos hr, h]
  have e1 : ((64 * i : Nat) : Int).toNat = 64 * i := by omega
  have e2 : (((64 * i : Nat) : Int) + ((min 64 (img.size - 64 * i) : Nat) : Int)).toNat = 64 * i + min 64 (img.size - 64 * i) := by omega
  rw [e1, e2]; rfl
end Go.Proofs.Ytalbhllgdjgbjaa.Q
