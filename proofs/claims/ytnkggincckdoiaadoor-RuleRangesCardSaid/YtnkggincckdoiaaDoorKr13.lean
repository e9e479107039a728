import Derived.Test.YtnkggincckdoiaaDoorKr2
import Derived.Test.YtnkggincckdoiaaDoorKr12
namespace Go.Proofs.YtnkggincckdoiaaDoor.Q
open Go.RowKit Go.Proofs.YtnkggincckdoiaaDoorW.PrintWords Go.Proofs.YtnkggincckdoiaaDoorW.PrintLast Go.Proofs.YtnkggincckdoiaaDoorW.PrintMore
set_option linter.unusedVariables false
set_option linter.unusedSimpArgs false
/-- One more digit: the rest by m; without a divisor as_ far as_ a billion. -/
def stepR (m n : Int) (b : UInt8) : Int := mn (if 0 < m then (10 * n + ((b.toNat : Int) - 48) % 256) % m else 10 * n + ((b.toNat : Int) - 48) % 256) 1000000000
def restL (m : Int) : List UInt8 → Int → Int
  | [], n => n
  | b :: l, n => restL m l (stepR m n b)
theorem mn_le (a b : Int) : mn a b ≤ b := by unfold mn; split <;> omega
theorem step_in {m n : Int} {b : UInt8} (h0 : 0 ≤ n) : 0 ≤ stepR m n b ∧ stepR m n b ≤ 1000000000 := by
  refine ⟨?_, mn_le _ _⟩
  unfold stepR
  have h1 : 0 ≤ ((b.toNat : Int) - 48) % 256 := Int.emod_nonneg _ (by decide)
  generalize ((b.toNat : Int) - 48) % 256 = x at h1 ⊢
  have h2 : 0 ≤ (if 0 < m then (10 * n + x) % m else 10 * n + x) := by
    split
    · exact Int.emod_nonneg _ (by omega)
    · omega
  generalize (if 0 < m then (10 * n + x) % m else 10 * n + x) = y at h2 ⊢
  unfold mn
  split
  · decide
  · exact h2
theorem bt_drop (s : ByteArray) (i : Nat) (h : i < s.size) : s.data.toList.drop i = s[i] :: s.data.toList.drop (i + 1) ∧ bt s (i : Int) = (s[i].toNat : Int) := by
  refine ⟨?_, ?_⟩
  · rw [List.drop_eq_getElem_cons (by rw [slen]; exact h)]
    congr 1
  · unfold bt
    simp only [Int.toNat_natCast]
    rw [dif_pos h]
theorem w64 {x : Int} (h0 : 0 ≤ x) (h1 : x ≤ 4611686018427387904) : wrap64 x = x := by unfold wrap64; omega
theorem rest_l (s : ByteArray) (m : Int) (hs : s.size ≤ 140737488355328) : ∀ (d k i : Nat) (n : Int), i + d = s.size → d < k → 0 ≤ n → n ≤ 1000000000 →
    rule_rest.l0 k s m n (s.size : Int) (i : Int) = some (restL m (s.data.toList.drop i) n)
  | 0, k + 1, i, n, hi, hk, h0, h1 => by
    have e : s.data.toList.drop i = [] := List.drop_of_length_le (by rw [slen]; omega)
    rw [e]
    simp only [rule_rest.l0]
    rw [if_neg (by omega)]
    rfl
  | d + 1, k + 1, i, n, hi, hk, h0, h1 => by
    obtain ⟨e1, e2⟩ := bt_drop s i (by omega)
    have h2 : 0 ≤ ((s[i].toNat : Int) - 48) % 256 := Int.emod_nonneg _ (by decide)
    have h3 : ((s[i].toNat : Int) - 48) % 256 < 256 := Int.emod_lt_of_pos _ (by decide)
    have ih := rest_l s m hs d k (i + 1) (stepR m n s[i]) (by omega) (by omega) (step_in h0).1 (step_in h0).2
    rw [e1]
    simp only [rule_rest.l0, restL]
    have key : ∀ x : Int, 0 ≤ x → x < 256 → wrap64 (wrap64 (10 * n) + x) = 10 * n + x := fun x a b => by
      rw [w64 (x := 10 * n) (by omega) (by omega), w64 (by omega) (by omega)]
    rw [if_pos (by omega), if_pos (by omega), if_pos (by omega), e2, key _ h2 h3, w64 (x := (i : Int) + 1) (by omega) (by omega), ← ih]
    unfold stepR
    by_cases hm : m > 0
    · rw [if_pos hm, if_neg (by omega), if_pos hm, Int.tmod_eq_emod_of_nonneg (by omega)]
      rfl
    · rw [if_neg hm, if_neg hm]
      rfl
/-- The rest of digits. -/
def restB (s : ByteArray) (m : Int) : Int := restL m s.data.toList 0
theorem rest_in (s : ByteArray) (m : Int) (hs : s.size ≤ 140737488355328) (w : World) : Calls Tryd.prog 55 #[.string s, .int .i64 m] w fun e w' => e = .returned (.int .i64 (restB s m)) ∧ Below w.heap.size w w' :=
  rule_rest.calls (s.size + 1) s m (restB s m) w (rest_l s m hs s.size (s.size + 1) 0 0 (by omega) (by omega) (by omega) (by omega))
end Go.Proofs.YtnkggincckdoiaaDoor.Q
