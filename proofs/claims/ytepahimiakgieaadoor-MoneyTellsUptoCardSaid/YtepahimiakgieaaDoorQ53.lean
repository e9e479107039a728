-- Written by a program of this session (mkp.py) over the translation.
import Derived.Test.YtepahimiakgieaaDoorExt
import Derived.Test.YtepahimiakgieaaDoorQ0
namespace Go.Proofs.YtepahimiakgieaaDoor.Q
open Go.RowKit Go.Proofs.YtepahimiakgieaaDoorW.PrintWords Go.Proofs.YtepahimiakgieaaDoorW.PrintLast Go.Proofs.YtepahimiakgieaaDoorW.PrintMore
attribute [local go_sem] max2_int min2_int max_two min_two max_three min_three max_four min_four   -- for this text's walks alone
set_option linter.unusedVariables false
set_option linter.unusedSimpArgs false

/-! ### quipuref20_Cut: function 11 -/
def quipuref20_Cut.l0 : Nat → ByteArray → Int → Option (ByteArray × ByteArray × Bool)
  | 0, _, _ => none
  | k + 1, x0, x5 => if (wrap64 (x5 + 3)) ≤ (x0.size : Int) then (if 0 ≤ x5 then (if x5 ≤ (wrap64 (x5 + 3)) then (if (x0.extract (x5 : Int).toNat ((wrap64 (x5 + 3)) : Int).toNat).toList = ([123, 48, 125] : List UInt8) then (if x5 ≤ (x0.size : Int) then (if 0 ≤ (wrap64 (x5 + 3)) then (some (x0.extract 0 (x5 : Int).toNat, x0.extract ((wrap64 (x5 + 3)) : Int).toNat x0.size, true)) else (none)) else (none)) else (quipuref20_Cut.l0 k x0 (wrap64 (x5 + 1)))) else (none)) else (none)) else (some ((⟨#[]⟩ : ByteArray), (⟨#[]⟩ : ByteArray), false))
def quipuref20_Cut.f (k : Nat) (a0 : ByteArray) : Option (ByteArray × ByteArray × Bool) := quipuref20_Cut.l0 k a0 0
theorem quipuref20_Cut.mono_l : ∀ k, (∀ y0 y1, LeO (quipuref20_Cut.l0 k y0 y1) (quipuref20_Cut.l0 (k + 1) y0 y1))
  | 0 => fun _ _ r h => by simp [quipuref20_Cut.l0] at h
  | k + 1 => by
    have ih0 := quipuref20_Cut.mono_l k
    · intro y0 y1
      unfold quipuref20_Cut.l0
      repeat' first
      | (with_reducible exact ih0 _ _)
      | (with_reducible exact LeO.refl _)
      | (with_reducible exact LeO.none _)
      | (with_reducible refine LeO.ite ?_ ?_)
      | (with_reducible refine LeO.bind ?_ (fun _ => ?_))
      | exact ih0 _ _
      | exact LeO.none _
      | refine LeO.ite ?_ ?_
      | refine LeO.bind ?_ (fun _ => ?_)
theorem quipuref20_Cut.mono : ∀ a0 k, LeO (quipuref20_Cut.f k a0) (quipuref20_Cut.f (k + 1) a0) := by
  intro a0 k
  have ih0 := quipuref20_Cut.mono_l k
  unfold quipuref20_Cut.f
  repeat' first
      | (with_reducible exact ih0 _ _)
      | (with_reducible exact LeO.refl _)
      | (with_reducible exact LeO.none _)
      | (with_reducible refine LeO.ite ?_ ?_)
      | (with_reducible refine LeO.bind ?_ (fun _ => ?_))
      | exact ih0 _ _
      | exact LeO.none _
      | refine LeO.ite ?_ ?_
      | refine LeO.bind ?_ (fun _ => ?_)
set_option maxHeartbeats 8000000 in
set_option maxRecDepth 100000 in
theorem quipuref20_Cut.calls (k : Nat) (a0 : ByteArray) (r1 : ByteArray) (r2 : ByteArray) (r3 : Bool) (w : World) (h : quipuref20_Cut.f k a0 = some (r1, r2, r3)) :
    Calls Tryd.prog 11 #[.string a0] w fun e w' => e = .returned (.tuple #[.string r1, .string r2, .bool r3]) ∧ Drawn0 w w' := by
  have H : (quipuref20_Cut.l0 k a0 0) = some (r1, r2, r3) := h
  clear h
  have H' := Aside0.mk H
  clear H
  go_enter Tryd.func11, Tryd.ntmps11
  go_wp2
  repeat (go_quiet (fail); try go_wp2)
  go_loopg [5] k (fun kq v5 w' => ∃ (x5_1 : Int), v5 = .int .i64 x5_1 ∧ Aside0 (quipuref20_Cut.l0 kq a0 x5_1 = some (r1, r2, r3)) ∧ Aside0 (kq ≤ k) ∧ Drawn0 w w')
  case atStart => exact ⟨(0), (by first | rfl | (simp; done) | (simp [*]; done)), H', ⟨Nat.le_refl _⟩, by repeat (first | exact Drawn0.refl _ | apply Drawn0.step)⟩
  case round =>
    clear H'
    try clear c1
    obtain ⟨x5_1, rfl, HA, HK1, ⟨m1, rfl⟩⟩ := hrel
    cases gk with
    | zero => exact absurd HA.out (by simp [quipuref20_Cut.l0])
    | succ k1 =>
      have H := HA.out
      clear HA
      simp only [quipuref20_Cut.l0] at H
      by_cases c2 : (wrap64 (x5_1 + 3)) ≤ (a0.size : Int)
      · rw [if_pos c2] at H
        have c2b0 : decide ((wrap64 (x5_1 + 3)) ≤ (a0.size : Int)) = true := decide_eq_true c2
        clear c2
        by_cases c3 : 0 ≤ x5_1
        · rw [if_pos c3] at H
          have c3b0 := eq_true c3
          have c3b1 : decide (0 ≤ x5_1) = true := decide_eq_true c3
          clear c3
          by_cases c4 : x5_1 ≤ (wrap64 (x5_1 + 3))
          · rw [if_pos c4] at H
            have c4b0 := eq_true c4
            have c4b1 : decide (x5_1 ≤ (wrap64 (x5_1 + 3))) = true := decide_eq_true c4
            have c5b0 := eq_true (of_decide_eq_true (by first | (with_reducible assumption) | assumption) : (wrap64 (x5_1 + 3)) ≤ (a0.size : Int))
            by_cases c6 : (a0.extract (x5_1 : Int).toNat ((wrap64 (x5_1 + 3)) : Int).toNat).toList = ([123, 48, 125] : List UInt8)
            · rw [if_pos c6] at H
              have c6b0 : ((a0.extract (x5_1 : Int).toNat ((wrap64 (x5_1 + 3)) : Int).toNat).toList == ([123, 48, 125] : List UInt8)) = true := beq_iff_eq.mpr c6
              have c6b1 : ((a0.extract (x5_1 : Int).toNat ((wrap64 (x5_1 + 3)) : Int).toNat).toList != ([123, 48, 125] : List UInt8)) = false := bne_eq_false_iff_eq.mpr c6
              clear c6
              have c7b0 := eq_true (of_decide_eq_true (by first | (with_reducible assumption) | assumption) : 0 ≤ x5_1)
              by_cases c8 : x5_1 ≤ (a0.size : Int)
              · rw [if_pos c8] at H
                have c8b0 := eq_true c8
                have c8b1 : decide (x5_1 ≤ (a0.size : Int)) = true := decide_eq_true c8
                clear c8
                obtain ⟨ji9, hji9⟩ : ∃ j_ : Int, (wrap64 (x5_1 + 3)) = j_ := ⟨_, rfl⟩
                replace H : (if 0 ≤ (ji9) then (some (a0.extract 0 (x5_1 : Int).toNat, a0.extract ((ji9) : Int).toNat a0.size, true)) else (none)) = some (r1, r2, r3) := by first | (rw [hji9] at H; exact H) | (simp only [hji9] at H ⊢; exact H)
                (try rw [hji9] at c2b0)
                (try rw [hji9] at c4b0)
                (try rw [hji9] at c4b1)
                (try rw [hji9] at c4)
                (try rw [hji9] at c6b0)
                (try rw [hji9] at c6b1)
                have hji9w : (IntKind.i64.wrap (x5_1 + 3)) = ji9 := (i64_w _).trans hji9
                by_cases c10 : 0 ≤ (ji9)
                · rw [if_pos c10] at H
                  have c10b0 := eq_true c10
                  have c10b1 : decide (0 ≤ (ji9)) = true := decide_eq_true c10
                  clear c10
                  have c11b0 := eq_true (of_decide_eq_true (by first | (with_reducible assumption) | assumption) : (ji9) ≤ (a0.size : Int))
                  simp only [Option.some.injEq, Prod.mk.injEq] at H
                  obtain ⟨rfl, rfl, rfl⟩ := H
                  go_wp2
                  repeat (go_quiet (fail); try go_wp2)
                  go_ret3
                  exact ⟨by first | rfl | (simp; done) | (simp only [← hji9] <;> (first | rfl | simp)) | (simp [*]; done), by repeat (first | exact Drawn0.refl _ | apply Drawn0.step)⟩
                · rw [if_neg c10] at H
                  exact absurd H (by simp)
              · rw [if_neg c8] at H
                exact absurd H (by simp)
            · rw [if_neg c6] at H
              have c6b0 : ((a0.extract (x5_1 : Int).toNat ((wrap64 (x5_1 + 3)) : Int).toNat).toList == ([123, 48, 125] : List UInt8)) = false := beq_eq_false_iff_ne.mpr c6
              have c6b1 : ((a0.extract (x5_1 : Int).toNat ((wrap64 (x5_1 + 3)) : Int).toNat).toList != ([123, 48, 125] : List UInt8)) = true := bne_iff_ne.mpr c6
              have H' := Aside0.mk H
              clear H
              go_wp2
              repeat (go_quiet (fail); try go_wp2)
              go_roundg k1
              case measure => have := HK1.out; omega
              case rel => exact ⟨(wrap64 (x5_1 + 1)), (by first | rfl | (simp; done) | (simp [*]; done)), H', ⟨by have := HK1.out; omega⟩, by repeat (first | exact Drawn0.refl _ | apply Drawn0.step)⟩
          · rw [if_neg c4] at H
            exact absurd H (by simp)
        · rw [if_neg c3] at H
          exact absurd H (by simp)
      · rw [if_neg c2] at H
        have c2b0 : decide ((wrap64 (x5_1 + 3)) ≤ (a0.size : Int)) = false := decide_eq_false c2
        clear c2
        simp only [Option.some.injEq, Prod.mk.injEq] at H
        obtain ⟨rfl, rfl, rfl⟩ := H
        go_wp2
        repeat (go_quiet (fail); try go_wp2)
        go_ret3
        exact ⟨by first | rfl | (simp; done) | (simp [*]; done), by repeat (first | exact Drawn0.refl _ | apply Drawn0.step)⟩

end Go.Proofs.YtepahimiakgieaaDoor.Q
