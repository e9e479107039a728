import Derived.Test.YtnkggincckdoiaaDoorKb10
import Derived.Test.YtnkggincckdoiaaDoorKb24
import Derived.Test.YtnkggincckdoiaaDoorKb25
namespace Go.Proofs.YtnkggincckdoiaaDoor.Q
open Go.RowKit Go.Shelf Go.Proofs.YtnkggincckdoiaaDoorW.PrintWords
set_option linter.unusedVariables false
set_option linter.unusedSimpArgs false
def numsL (l : List UInt8) : List Int := l.map fun b => (b.toNat : Int)
theorem numsL_len (l : List UInt8) : (numsL l).length = l.length := by simp [numsL]
theorem str_nums (l : List UInt8) : strOfNums (numsL l) = mkS l := by
  unfold strOfNums numsL mkS
  apply ByteArray.ext
  apply Array.toList_inj.1
  simp only [List.map_map]
  induction l with
  | nil => rfl
  | cons a l ih => simp_all
theorem tok_blank (x : List UInt8) : tokL (32 :: x) = tokL x := by
  have := tok_app [32] x (Or.inr (Or.inl rfl))
  rw [show tokL [32] = some [] by kernel_rfl] at this
  rw [List.singleton_append] at this
  rw [this]
  cases tokL x <;> rfl
theorem sep_blank (w x : List UInt8) : Sep w (32 :: x) := Or.inr (Or.inr (Or.inr ⟨32, x, rfl, by decide, by decide, by simp, by simp⟩))
theorem tok_ins {w x : List UInt8} (h : Sep w x) : tokL (w ++ 32 :: x) = tokL (w ++ x) := by
  rw [tok_app _ _ (sep_blank w x), tok_blank, tok_app _ _ h]
theorem same_pick {s t : ByteArray} {x : Opr} (h : tokL s.data.toList = tokL t.data.toList) (hs : s.size ≤ 1024) (ht : t.size ≤ 1024) : pickF s x = pickF t x := by
  have e : ∀ y, pickR s y = pickR t y := fun y => by
    unfold pickR
    rw [if_neg (by omega), if_neg (by omega), toks_L, toks_L, h]
  unfold pickF
  rw [e, e]
structure BInv (T W : List UInt8) (i : Nat) : Prop where
  tok : tokL (W ++ T.drop i) = tokL T
  len : W.length ≤ 2 * i + 1
  lows : i ≤ W.length
  last : 0 < i → W.getLast? = T[i - 1]?
  first : i = 0 → W = [32]
theorem BInv.keep {T W : List UInt8} {i : Nat} (h : BInv T W i) (hi : i < T.length) : BInv T (W ++ [T[i]]) (i + 1) := by
  refine ⟨?_, by have := h.len; simp; omega, by have := h.lows; simp; omega, fun _ => by simp [List.getElem?_eq_getElem hi], fun h0 => by omega⟩
  rw [List.append_assoc, List.singleton_append, ← List.drop_eq_getElem_cons hi]
  exact h.tok
theorem BInv.ins {T W : List UInt8} {i : Nat} (h : BInv T W i) (hi : i < T.length) (h1 : low T[i] = false) (h2 : dig T[i] = false) (h3 : ¬(W.getLast? = some 33 ∧ T[i] = 61)) (h4 : T[i] ≠ 46) : BInv T (W ++ [32] ++ [T[i]]) (i + 1) := by
  refine ⟨?_, by have := h.len; simp; omega, by have := h.lows; simp; omega, fun _ => by simp [List.getElem?_eq_getElem hi], fun h0 => by omega⟩
  rw [List.append_assoc, List.append_assoc, List.singleton_append, List.singleton_append, ← List.drop_eq_getElem_cons hi]
  rw [tok_ins]
  · exact h.tok
  · rw [List.drop_eq_getElem_cons hi]
    exact Or.inr (Or.inr (Or.inr ⟨_, _, rfl, h1, h2, h3, fun e => h4 e.2⟩))
theorem blanks_l0 (T : ByteArray) (x : Opr) (hx : OIn x) (hs : T.size ≤ 1048576) : ∀ (d i k : Nat) (W : List UInt8), T.size - i = d → i ≤ T.size → d < k → BInv T.data.toList W i →
    quipulaw09_RuleBlanks.l0 k T (numsL W) (i : Int) x.i x.v x.w x.f x.t x.e = some true := by
  have hP : ∀ s', rule_Pick.f s' x.i x.v x.w x.f x.t x.e = some (pickF s' x) := fun s' => if_pos hx
  intro d
  induction d with
  | zero =>
    intro i k W hd hi hk hB
    obtain ⟨k, rfl⟩ : ∃ q, k = q + 1 := ⟨k - 1, by omega⟩
    have hlen := hB.len
    have hlow := hB.lows
    rw [quipulaw09_RuleBlanks.l0, if_neg (by omega), if_pos (by rw [numsL_len]; omega)]
    simp only [Option.bind_some]
    rw [show numsL W ++ [32] = numsL (W ++ [32]) by simp [numsL], hP, hP, awake_true, str_nums]
    simp only [Option.bind_some, if_true]
    have ht : tokL (W ++ [32]) = tokL T.data.toList := by
      rw [tok_ins (Or.inr (Or.inr (Or.inl rfl))), ← hB.tok, List.drop_of_length_le (by rw [slen]; omega)]
    by_cases hl : ((numsL (W ++ [32])).length : Int) > 1024
    · rw [if_pos hl]
    · rw [if_neg hl]
      rw [numsL_len, List.length_append, List.length_singleton] at hl
      have hm : (mkS (W ++ [32])).size = W.length + 1 := by simp [mkS, ByteArray.size]
      have e : pickF (mkS (W ++ [32])) x = pickF T x := same_pick (by rw [← ht]; simp [mkS]) (by omega) (by omega)
      rw [e, if_pos rfl]
      simp
  | succ d ih =>
    intro i k W hd hi hk hB
    obtain ⟨k, rfl⟩ : ∃ q, k = q + 1 := ⟨k - 1, by omega⟩
    have hlt : i < T.size := by omega
    have hlt2 : i < T.data.toList.length := by rw [slen]; exact hlt
    have hlen := hB.len
    have hg : T.data.toList[i] = T[i] := rfl
    have hbt : bt T (i : Int) = (T.data.toList[i].toNat : Int) := bt_get T i hlt
    have hkeep := ih (i + 1) k _ (by omega) (by omega) (by omega) (hB.keep hlt2)
    have hins : ∀ (h1 : low T.data.toList[i] = false) (h2 : dig T.data.toList[i] = false) (h3 : ¬(W.getLast? = some 33 ∧ T.data.toList[i] = 61)) (h4 : T.data.toList[i] ≠ 46), quipulaw09_RuleBlanks.l0 k T (numsL W ++ [32] ++ [bt T (i : Int)]) (wrap64 ((i : Int) + 1)) x.i x.v x.w x.f x.t x.e = some true := fun h1 h2 h3 h4 => by
      have := ih (i + 1) k _ (by omega) (by omega) (by omega) (hB.ins hlt2 h1 h2 h3 h4)
      rw [wrapS i T.size hlt (by omega), hbt]
      simpa [numsL] using this
    have hkeep2 : quipulaw09_RuleBlanks.l0 k T (numsL W ++ [bt T (i : Int)]) (wrap64 ((i : Int) + 1)) x.i x.v x.w x.f x.t x.e = some true := by
      rw [wrapS i T.size hlt (by omega), hbt]
      simpa [numsL] using hkeep
    have hl1 : (numsL W).length < 140737488355328 := by rw [numsL_len]; omega
    have hl2 : (numsL W ++ [32]).length < 140737488355328 := by rw [List.length_append, numsL_len]; simp; omega
    have harm : ∀ (n : Nat), n < 256 → bt T (i : Int) = (n : Int) → T.data.toList[i] = UInt8.ofNat n := fun n hn h => by
      rw [hbt] at h
      have h2 : T.data.toList[i].toNat = n := Int.ofNat.inj h
      rw [← h2]; simp
    rw [quipulaw09_RuleBlanks.l0, if_pos (by omega), if_pos (by omega)]
    simp only [Option.bind_some, if_pos hl1, if_pos hl2]
    split
    · rename_i h; have e := harm 58 (by omega) h; exact hins (by rw [e]; rfl) (by rw [e]; rfl) (by rw [e]; intro h; exact absurd h.2 (by decide)) (by rw [e]; decide)
    split
    · rename_i h; have e := harm 59 (by omega) h; exact hins (by rw [e]; rfl) (by rw [e]; rfl) (by rw [e]; intro h; exact absurd h.2 (by decide)) (by rw [e]; decide)
    split
    · rename_i h; have e := harm 37 (by omega) h; exact hins (by rw [e]; rfl) (by rw [e]; rfl) (by rw [e]; intro h; exact absurd h.2 (by decide)) (by rw [e]; decide)
    split
    · rename_i h; have e := harm 44 (by omega) h; exact hins (by rw [e]; rfl) (by rw [e]; rfl) (by rw [e]; intro h; exact absurd h.2 (by decide)) (by rw [e]; decide)
    split
    · rename_i h; have e := harm 33 (by omega) h; exact hins (by rw [e]; rfl) (by rw [e]; rfl) (by rw [e]; intro h; exact absurd h.2 (by decide)) (by rw [e]; decide)
    split
    · rename_i h
      have e := harm 61 (by omega) h
      by_cases h0 : (i : Int) = 0
      · rw [if_pos h0]
        have hw := hB.first (by omega)
        exact hins (by rw [e]; rfl) (by rw [e]; rfl) (by rw [hw]; intro h; exact absurd h.1 (by decide)) (by rw [e]; decide)
      · rw [if_neg h0]
        have hw1 : wrap64 ((i : Int) - 1) = ((i - 1 : Nat) : Int) := by unfold wrap64; omega
        rw [hw1, if_pos (by omega), if_pos (by omega)]
        have hb1 : bt T ((i - 1 : Nat) : Int) = (T.data.toList[i - 1].toNat : Int) := bt_get T (i - 1) (by omega)
        have hlast := hB.last (by omega)
        rw [List.getElem?_eq_getElem (by omega)] at hlast
        split
        · exact hkeep2
        · rename_i h33
          refine hins (by rw [e]; rfl) (by rw [e]; rfl) (fun hh => h33 ?_) (by rw [e]; decide)
          rw [hlast] at hh
          rw [hb1, Option.some.inj hh.1]
          rfl
    · exact hkeep2
theorem blanks_true (T : ByteArray) (x : Opr) (hx : OIn x) (hs : T.size ≤ 1048576) : quipulaw09_RuleBlanks.f (T.size + 1) T x.i x.v x.w x.f x.t x.e = some true := by
  unfold quipulaw09_RuleBlanks.f
  exact blanks_l0 T x hx hs T.size 0 _ [32] (by omega) (Nat.zero_le _) (by omega) ⟨by rw [List.drop_zero, List.singleton_append, tok_blank], by simp, by simp, fun h => absurd h (Nat.lt_irrefl 0), fun _ => rfl⟩
end Go.Proofs.YtnkggincckdoiaaDoor.Q
