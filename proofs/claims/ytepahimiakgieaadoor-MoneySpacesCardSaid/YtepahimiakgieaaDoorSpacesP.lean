import Derived.Test.YtepahimiakgieaaDoorSpace
import Derived.Test.YtepahimiakgieaaDoorQ59
import Derived.Test.YtepahimiakgieaaDoorQ60
namespace Go.Proofs.YtepahimiakgieaaDoor.Q
open Go.RowKit Go.Proofs.YtepahimiakgieaaDoorW.PrintWords Go.Proofs.YtepahimiakgieaaDoorW.PrintMore
set_option linter.unusedVariables false
set_option linter.unusedSimpArgs false
/-! ### What the document says of spaces, in plain words -/
theorem same_l0 (l : List S43) (hl : l.length ≤ 9223372036854775806) : ∀ (d i k : Nat), l.length - i = d → i ≤ l.length → d < k → quipuref19_Same.l0 k l l (i : Int) = some true := by
  intro d
  induction d with
  | zero =>
    intro i k hd hi hk
    obtain ⟨k, rfl⟩ : ∃ m, k = m + 1 := ⟨k - 1, by omega⟩
    simp only [quipuref19_Same.l0]
    rw [if_neg (by omega)]
  | succ d ih =>
    intro i k hd hi hk
    obtain ⟨k, rfl⟩ : ∃ m, k = m + 1 := ⟨k - 1, by omega⟩
    have hw : wrap64 ((i : Int) + 1) = ((i + 1 : Nat) : Int) := by unfold wrap64; omega
    simp only [quipuref19_Same.l0, hw, beq_self_eq_true, Bool.not_true, Bool.or_self]
    rw [if_pos (by omega), if_pos (by omega), if_pos (by omega), if_neg (by decide)]
    exact ih (i + 1) k (by omega) (by omega) (by omega)
theorem same_p (l : List S43) (hl : l.length ≤ 9223372036854775806) : quipuref19_Same.f (l.length + 1) l l = some true := by
  unfold quipuref19_Same.f
  rw [if_pos rfl]
  exact same_l0 l hl l.length 0 _ (by omega) (by omega) (by omega)
theorem letter_ref (c : Int) : quipuref20_letter.f c = some (letP c) := by
  rw [← letter_is]; rfl
theorem nil_size (s : ByteArray) : s.toList = ([] : List UInt8) ↔ s.size = 0 := by
  rw [ByteArray.toList_eq, ← List.length_eq_zero_iff]; rfl
theorem joins_no {p : S43} {i : Int} (h : p.f1 ≠ 11) : joinsB p i = false := by unfold joinsB; rw [beq_eq_false_iff_ne.2 h]; rfl
theorem joins_nil {p : S43} {i : Int} (h : p.f0.toList = ([] : List UInt8)) : joinsB p i = false := by unfold joinsB; rw [(nil_size _).1 h]; simp
theorem joins_let {p : S43} {i : Int} (h1 : p.f1 = 11) (h : ¬ p.f0.toList = ([] : List UInt8)) : joinsB p i = letP (bt p.f0 i) := by
  unfold joinsB
  have : (p.f0.size == 0) = false := beq_eq_false_iff_ne.2 (fun e => h ((nil_size _).2 e))
  rw [h1, this]; rfl
theorem ref_j0 (k : Nat) (l1 x : List S43) (s : ByteArray) (h1 : l1.length ≤ 5864062014803) : quipuref20_Space.j0 (k + 1) l1 x l1 s 0 = some (x, rightP l1 s) := by
  simp only [quipuref20_Space.j0, Option.bind_some]
  cases l1 with
  | nil => rfl
  | cons p t =>
    have e1 : rd_T43 (p :: t) 0 = p := rfl
    have e2 : rightP (p :: t) s = if joinsB p 0 = true then ⟨s, 0⟩ :: p :: t else p :: t := rfl
    have e3 : ((p :: t).length : Int) > 0 := by simp only [List.length_cons]; omega
    rw [if_pos e3, if_pos e3, e1, e2]
    by_cases c1 : p.f1 = 11
    · rw [if_pos c1]
      by_cases c2 : p.f0.toList = ([] : List UInt8)
      · rw [if_pos c2, joins_nil c2]; rfl
      · have c3 : (0 : Int) < (p.f0.size : Int) := by have : p.f0.size ≠ 0 := fun e => c2 ((nil_size _).2 e); omega
        rw [if_neg c2, if_pos c3, letter_ref, Option.bind_some, joins_let c1 c2]
        cases letP (bt p.f0 0) with
        | true => rw [if_pos rfl, if_pos rfl, if_pos (by simp only [List.length_cons, List.length_nil] at h1 ⊢; omega)]; rfl
        | false => rw [if_neg (by decide), if_neg (by decide)]
    · rw [if_neg c1, joins_no c1]; rfl
theorem ref_p (l0 l1 : List S43) (s : ByteArray) (h0 : l0.length ≤ 5864062014803) (h1 : l1.length ≤ 5864062014803) (hz : ∀ p, p ∈ l0 → p.f0.size ≤ 9223372036854775807) :
    quipuref20_Space.f 1 l0 l1 s = some (leftS l0 s, rightS l1 s) := by
  unfold quipuref20_Space.f
  simp only [Option.bind_some, List.nil_append, List.length_nil, Nat.zero_add]
  rw [if_pos (by omega), if_pos (by omega)]
  by_cases hs : s.toList = ([] : List UInt8)
  · rw [if_pos hs]
    unfold leftS rightS
    rw [if_pos ((nil_size _).1 hs), if_pos ((nil_size _).1 hs)]
  · have hs2 : ¬ s.size = 0 := fun e => hs ((nil_size _).2 e)
    rw [if_neg hs]
    unfold leftS rightS
    rw [if_neg hs2, if_neg hs2]
    by_cases hl : l0 = []
    · subst hl
      rw [if_neg (by simp)]
      exact ref_j0 0 l1 [] s h1
    · have hp : 0 < l0.length := List.length_pos_iff.2 hl
      have hw : wrap64 ((l0.length : Int) - 1) = ((l0.length - 1 : Nat) : Int) := by unfold wrap64; omega
      obtain ⟨p, hpp⟩ : ∃ p, p = rd_T43 l0 ((l0.length - 1 : Nat) : Int) := ⟨_, rfl⟩
      have hp2 : p = l0[l0.length - 1] := by rw [hpp, rd_T43, Int.toNat_natCast, List.getD_eq_getElem?_getD, List.getElem?_eq_getElem (by omega)]; rfl
      have hq : l0.getLast? = some p := by rw [List.getLast?_eq_getElem?, List.getElem?_eq_getElem (by omega), hp2]
      have z4 : p.f0.size ≤ 9223372036854775807 := hz p (by rw [hp2]; exact List.getElem_mem _)
      have e2 : leftP l0 s = if joinsB p ((p.f0.size : Int) - 1) = true then l0 ++ [⟨s, 0⟩] else l0 := by unfold leftP; rw [hq]
      rw [hw, ← hpp, if_pos (by omega), if_pos (by omega), if_pos (by omega), e2]
      by_cases c1 : p.f1 = 11
      · rw [if_pos c1]
        by_cases c2 : p.f0.toList = ([] : List UInt8)
        · rw [if_pos c2, joins_nil c2]
          exact ref_j0 0 l1 l0 s h1
        · have c3 : p.f0.size ≠ 0 := fun e => c2 ((nil_size _).2 e)
          have hw2 : wrap64 ((p.f0.size : Int) - 1) = (p.f0.size : Int) - 1 := by unfold wrap64; omega
          rw [if_neg c2, hw2, if_pos (by omega), if_pos (by omega), letter_ref, Option.bind_some, joins_let c1 c2]
          cases letP (bt p.f0 ((p.f0.size : Int) - 1)) with
          | true => rw [if_pos rfl, if_pos rfl, if_pos (by omega)]; exact ref_j0 0 l1 _ s h1
          | false => rw [if_neg (by decide), if_neg (by decide)]; exact ref_j0 0 l1 l0 s h1
      · rw [if_neg c1, joins_no c1]
        exact ref_j0 0 l1 l0 s h1
theorem left_len (l : List S43) (s : ByteArray) : l.length ≤ (leftS l s).length ∧ (leftS l s).length ≤ l.length + 1 ∧ (leftS l s).take l.length = l := by
  unfold leftS
  split
  · exact ⟨Nat.le_refl _, by omega, List.take_length⟩
  · unfold leftP
    split
    · exact ⟨Nat.le_refl _, by omega, List.take_length⟩
    · split
      · exact ⟨by simp, by simp, by simp⟩
      · exact ⟨Nat.le_refl _, by omega, List.take_length⟩
theorem right_len (l : List S43) (s : ByteArray) : l.length ≤ (rightS l s).length ∧ (rightS l s).length ≤ l.length + 1 ∧ (rightS l s).drop ((rightS l s).length - l.length) = l := by
  unfold rightS
  split
  · exact ⟨Nat.le_refl _, by omega, by simp⟩
  · unfold rightP
    split
    · exact ⟨Nat.le_refl _, by omega, by simp⟩
    · split
      · exact ⟨by simp, by simp, by simp⟩
      · exact ⟨Nat.le_refl _, by omega, by simp⟩
end Go.Proofs.YtepahimiakgieaaDoor.Q
