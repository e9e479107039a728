import Derived.Test.YtnkggincckdoiaaDoorKr19
import Derived.Test.YtnkggincckdoiaaDoorKr1
namespace Go.Proofs.YtnkggincckdoiaaDoor.Q
open Go.RowKit Go.Proofs.YtnkggincckdoiaaDoorW.PrintWords Go.Proofs.YtnkggincckdoiaaDoorW.PrintMore
set_option linter.unusedVariables false
set_option linter.unusedSimpArgs false
theorem mkS_size (l : List UInt8) : (mkS l).size = l.length := by simp [mkS, ByteArray.size]
theorem mkS_data (l : List UInt8) : (mkS l).data.toList = l := by simp [mkS]
theorem app_data (a b : ByteArray) : (a ++ b).data.toList = a.data.toList ++ b.data.toList := by simp [ByteArray.data_append]
theorem repeatL_48 (n : Nat) : Lib.repeatL [48] n = List.replicate n 48 := by
  induction n with
  | zero => rfl
  | succ n ih => rw [Lib.repeatL, ih]; rfl
theorem bt_get (s : ByteArray) (i : Nat) (h : i < s.size) : bt s (i : Int) = (s[i].toNat : Int) := (bt_at s (i : Int) (by simpa using h)).symm
theorem dropD (s : ByteArray) (i : Nat) (h : i < s.size) : s.data.toList.drop i = s[i] :: s.data.toList.drop (i + 1) :=
  List.drop_eq_getElem_cons (by rw [slen]; exact h)
def rangeO (v u e : Int) : Bool := decide (0 ≤ v) && decide (v ≤ 8192) && decide (0 ≤ u) && decide (u ≤ v) && decide (0 ≤ e) && decide (e ≤ 8192)
def lastO (v u : Int) (f t : ByteArray) : Bool := if t.toList = ([48] : List UInt8) then f.toList == ([48] : List UInt8) else f.toList == t.toList ++ List.replicate (v - u).toNat 48
def mayO (i : ByteArray) (v u : Int) (f t : ByteArray) (e : Int) : Bool := rangeO v u e && (numberB i 8192 && (numberB f v && (numberB t u && lastO v u f t)))
theorem number_size {s : ByteArray} {m : Int} (h : numberB s m = true) : (s.size : Int) ≤ max 1 m := by
  unfold numberB at h
  rw [Bool.or_eq_true] at h
  rcases h with h | h
  · have := bytes_eq.1 h
    rw [this]
    show ((1 : Nat) : Int) ≤ _
    omega
  · rw [Bool.and_eq_true, Bool.and_eq_true] at h
    have := of_decide_eq_true h.2
    omega
theorem number_p (s : ByteArray) (m : Int) (hs : s.size ≤ 140737488355328) : operand_number.f s m = some (numberB s m) := if_pos hs
theorem OMay_p (i : ByteArray) (v u : Int) (f t : ByteArray) (e : Int) (hi : i.size ≤ 140737488355328) (hf : f.size ≤ 140737488355328) (ht : t.size ≤ 140737488355328) (k : Nat) (hk : 2 ≤ k) :
    operand_May.f k i v u f t e = some (mayO i v u f t e) := by
  obtain ⟨k, rfl⟩ : ∃ m, k = m + 2 := ⟨k - 2, by omega⟩
  have hT : operand_May.j0 (k + 2) true i v u f t e = some false := by simp only [operand_May.j0]; rfl
  have hJ1t : operand_May.j1 (k + 1) true i v u f t e = some false := by simp only [operand_May.j1]; rfl
  unfold operand_May.f mayO rangeO
  by_cases h1 : v < 0
  · rw [if_pos h1, hT, decide_eq_false (show ¬ 0 ≤ v by omega)]; simp
  rw [if_neg h1, decide_eq_true (show 0 ≤ v by omega)]
  by_cases h2 : v > 8192
  · rw [if_pos h2, hT, decide_eq_false (show ¬ v ≤ 8192 by omega)]; simp
  rw [if_neg h2, decide_eq_true (show v ≤ 8192 by omega)]
  by_cases h3 : u < 0
  · rw [if_pos h3, hT, decide_eq_false (show ¬ 0 ≤ u by omega)]; simp
  rw [if_neg h3, decide_eq_true (show 0 ≤ u by omega)]
  by_cases h4 : u > v
  · rw [if_pos h4, hT, decide_eq_false (show ¬ u ≤ v by omega)]; simp
  rw [if_neg h4, decide_eq_true (show u ≤ v by omega)]
  by_cases h5 : e < 0
  · rw [if_pos h5, hT, decide_eq_false (show ¬ 0 ≤ e by omega)]; simp
  rw [if_neg h5, decide_eq_true (show 0 ≤ e by omega)]
  by_cases h6 : e > 8192
  · rw [decide_eq_true h6, hT, decide_eq_false (show ¬ e ≤ 8192 by omega)]; simp
  rw [decide_eq_false h6, decide_eq_true (show e ≤ 8192 by omega)]
  simp only [operand_May.j0, number_p i _ hi, number_p f _ hf, number_p t _ ht, Option.bind_some]
  rw [if_neg (by simp)]
  simp only [Bool.and_true, Bool.true_and]
  cases n1 : numberB i 8192
  · simp [hJ1t]
  simp only [if_true, Bool.true_and]
  cases n2 : numberB f v
  · simp [hJ1t]
  simp only [if_true, Bool.true_and]
  cases n3 : numberB t u
  · simp [hJ1t]
  have hts := number_size n3
  simp only [operand_May.j1, Bool.not_true, Bool.true_and]
  rw [if_neg (by simp)]
  unfold lastO
  by_cases h7 : t.toList = ([48] : List UInt8)
  · rw [if_pos h7, if_pos h7]
  · rw [if_neg h7, if_neg h7, strings_Repeat.f]
    have w1 : wrap64 (v - u) = v - u := by unfold wrap64; omega
    have z48 : (⟨#[48]⟩ : ByteArray).size = 1 := rfl
    rw [w1, if_pos (by omega), if_pos (by omega), if_pos (by rw [z48]; omega)]
    simp only [Option.bind_some]
    have er : Lib.repeatL (⟨#[48]⟩ : ByteArray).data.toList (v - u).toNat = List.replicate (v - u).toNat 48 := repeatL_48 _
    rw [er, if_pos (by rw [mkS_size, List.length_replicate]; omega)]
    have e2 : (t ++ mkS (List.replicate (v - u).toNat 48)).toList = t.toList ++ List.replicate (v - u).toNat 48 := by rw [toList_data, app_data, mkS_data, ← toList_data]
    rw [e2]
end Go.Proofs.YtnkggincckdoiaaDoor.Q
