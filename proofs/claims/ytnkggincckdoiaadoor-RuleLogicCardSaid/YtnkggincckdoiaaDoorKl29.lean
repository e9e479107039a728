import Derived.Test.YtnkggincckdoiaaDoorKl1
namespace Go.Proofs.YtnkggincckdoiaaDoor.Q
open Go.RowKit Go.Proofs.YtnkggincckdoiaaDoorW.PrintWords Go.Proofs.YtnkggincckdoiaaDoorW.PrintLast Go.Proofs.YtnkggincckdoiaaDoorW.PrintMore
attribute [local go_sem] max2_int min2_int max_two min_two max_three min_three max_four min_four   -- for this text's walks alone
set_option linter.unusedVariables false
set_option linter.unusedSimpArgs false
def quipulaw09_other.l0 : Nat → ByteArray → Int → Option (ByteArray)
  | 0, _, _ => none
  | k + 1, x0, x3 => if x3 < (x0.size : Int) then (if 0 ≤ x3 then (if (bt x0 x3) = 33 then (if x3 ≤ (x0.size : Int) then (if 0 ≤ (wrap64 (x3 + 1)) then (if (wrap64 (x3 + 1)) ≤ (x0.size : Int) then (if (x0.extract 0 (x3 : Int).toNat).size + (x0.extract ((wrap64 (x3 + 1)) : Int).toNat x0.size).size ≤ 9223372036854775807 then (some ((x0.extract 0 (x3 : Int).toNat) ++ (x0.extract ((wrap64 (x3 + 1)) : Int).toNat x0.size))) else (none)) else (none)) else (none)) else (none)) else (if (bt x0 x3) = 61 then (if x3 ≤ (x0.size : Int) then (if (x0.extract 0 (x3 : Int).toNat).size + 1 ≤ 9223372036854775807 then (if ((x0.extract 0 (x3 : Int).toNat) ++ (⟨#[33]⟩ : ByteArray)).size + (x0.extract (x3 : Int).toNat x0.size).size ≤ 9223372036854775807 then (some (((x0.extract 0 (x3 : Int).toNat) ++ (⟨#[33]⟩ : ByteArray)) ++ (x0.extract (x3 : Int).toNat x0.size))) else (none)) else (none)) else (none)) else (quipulaw09_other.l0 k x0 (wrap64 (x3 + 1))))) else (none)) else (some x0)
def quipulaw09_other.f (k : Nat) (a0 : ByteArray) : Option (ByteArray) := quipulaw09_other.l0 k a0 0
set_option maxHeartbeats 8000000 in
set_option maxRecDepth 100000 in
theorem quipulaw09_other.calls (k : Nat) (a0 : ByteArray) (r : ByteArray) (w : World) (h : quipulaw09_other.f k a0 = some r) :
    Calls Tryd.prog 15 #[.string a0] w fun e w' => e = .returned (.string r) ∧ Drawn0 w w' := by
  have H : (quipulaw09_other.l0 k a0 0) = some r := h
  clear h
  have H' := Aside0.mk H
  clear H
  go_enter Tryd.func15, Tryd.ntmps15
  go_wp2
  repeat (go_quiet (fail); try go_wp2)
  go_loopg [3] k (fun kq v3 w' => ∃ (x3_1 : Int), v3 = .int .i64 x3_1 ∧ Aside0 (quipulaw09_other.l0 kq a0 x3_1 = some r) ∧ Aside0 (kq ≤ k) ∧ Drawn0 w w')
  case atStart => exact ⟨(0), (by first | rfl | (simp; done) | (simp [*]; done)), H', ⟨Nat.le_refl _⟩, by repeat (first | exact Drawn0.refl _ | apply Drawn0.step)⟩
  case round =>
    clear H'
    try clear c1
    obtain ⟨x3_1, rfl, HA, HK1, ⟨m1, rfl⟩⟩ := hrel
    cases gk with
    | zero => exact absurd HA.out (by simp [quipulaw09_other.l0])
    | succ k1 =>
      have H := HA.out
      clear HA
      simp only [quipulaw09_other.l0] at H
      by_cases c2 : x3_1 < (a0.size : Int)
      · rw [if_pos c2] at H
        have c2b0 : decide (x3_1 < (a0.size : Int)) = true := decide_eq_true c2
        clear c2
        by_cases c3 : 0 ≤ x3_1
        · rw [if_pos c3] at H
          have c3b0 : decide (0 ≤ x3_1) = true := decide_eq_true c3
          clear c3
          by_cases c5 : (bt a0 x3_1) = 33
          · rw [if_pos c5] at H
            have c5b0 : ((bt a0 x3_1) == 33) = true := beq_iff_eq.mpr c5
            have c5b1 : ((bt a0 x3_1) != 33) = false := bne_eq_false_iff_eq.mpr c5
            clear c5
            have c6b0 := eq_true (of_decide_eq_true (by first | (with_reducible assumption) | assumption) : 0 ≤ x3_1)
            by_cases c7 : x3_1 ≤ (a0.size : Int)
            · rw [if_pos c7] at H
              have c7b0 := eq_true c7
              have c7b1 : decide (x3_1 ≤ (a0.size : Int)) = true := decide_eq_true c7
              clear c7
              obtain ⟨ji8, hji8⟩ : ∃ j_ : Int, (wrap64 (x3_1 + 1)) = j_ := ⟨_, rfl⟩
              replace H : (if 0 ≤ (ji8) then (if (ji8) ≤ (a0.size : Int) then (if (a0.extract 0 (x3_1 : Int).toNat).size + (a0.extract ((ji8) : Int).toNat a0.size).size ≤ 9223372036854775807 then (some ((a0.extract 0 (x3_1 : Int).toNat) ++ (a0.extract ((ji8) : Int).toNat a0.size))) else (none)) else (none)) else (none)) = some r := by first | (rw [hji8] at H; exact H) | (simp only [hji8] at H ⊢; exact H)
              have hji8w : (IntKind.i64.wrap (x3_1 + 1)) = ji8 := (i64_w _).trans hji8
              by_cases c9 : 0 ≤ (ji8)
              · rw [if_pos c9] at H
                have c9b0 := eq_true c9
                have c9b1 : decide (0 ≤ (ji8)) = true := decide_eq_true c9
                clear c9
                by_cases c10 : (ji8) ≤ (a0.size : Int)
                · rw [if_pos c10] at H
                  have c10b0 := eq_true c10
                  have c10b1 : decide ((ji8) ≤ (a0.size : Int)) = true := decide_eq_true c10
                  clear c10
                  by_cases c11 : (a0.extract 0 (x3_1 : Int).toNat).size + (a0.extract ((ji8) : Int).toNat a0.size).size ≤ 9223372036854775807
                  · rw [if_pos c11] at H
                    have c11b0 := eq_true c11
                    have c11b1 : decide ((a0.extract 0 (x3_1 : Int).toNat).size + (a0.extract ((ji8) : Int).toNat a0.size).size ≤ 9223372036854775807) = true := decide_eq_true c11
                    (try (have c11n := c11; simp only [ByteArray.size_extract, ByteArray.size_append] at c11n; have c11n0 := eq_true c11n; have c11n1 := decide_eq_true c11n; (try have c11n2 := eq_false (Nat.not_lt.2 c11n))))
                    (try (have c11m := c11; simp at c11m; have c11m0 := eq_true c11m; have c11m1 := decide_eq_true c11m; (try have c11m2 := eq_false (Nat.not_lt.2 c11m))))
                    try have c11b2 : (9223372036854775807 < (a0.extract 0 (x3_1 : Int).toNat).size + (a0.extract ((ji8) : Int).toNat a0.size).size) = False := eq_false (Nat.not_lt.2 c11)
                    obtain rfl := Option.some.inj H
                    have p4 : 0 ≤ (x3_1 : Int) := of_decide_eq_true (by first | (with_reducible assumption) | assumption)
                    have q4 : x3_1 < (a0.size : Int) := of_decide_eq_true (by first | (with_reducible assumption) | assumption)
                    have hx4 := bt_at a0 x3_1
                    replace p4 := eq_true p4
                    replace q4 := eq_true q4
                    go_wp2
                    repeat (go_quiet (fail); try go_wp2)
                    go_ret
                    exact ⟨by first | rfl | (simp; done) | (simp only [← hji8] <;> (first | rfl | simp)) | (simp [*]; done), by repeat (first | exact Drawn0.refl _ | apply Drawn0.step)⟩
                  · rw [if_neg c11] at H
                    exact absurd H (by simp)
                · rw [if_neg c10] at H
                  exact absurd H (by simp)
              · rw [if_neg c9] at H
                exact absurd H (by simp)
            · rw [if_neg c7] at H
              exact absurd H (by simp)
          · rw [if_neg c5] at H
            have c5b0 : ((bt a0 x3_1) == 33) = false := beq_eq_false_iff_ne.mpr c5
            have c5b1 : ((bt a0 x3_1) != 33) = true := bne_iff_ne.mpr c5
            by_cases c13 : (bt a0 x3_1) = 61
            · rw [if_pos c13] at H
              have c13b0 : ((bt a0 x3_1) == 61) = true := beq_iff_eq.mpr c13
              have c13b1 : ((bt a0 x3_1) != 61) = false := bne_eq_false_iff_eq.mpr c13
              clear c13
              have c14b0 := eq_true (of_decide_eq_true (by first | (with_reducible assumption) | assumption) : 0 ≤ x3_1)
              by_cases c15 : x3_1 ≤ (a0.size : Int)
              · rw [if_pos c15] at H
                have c15b0 := eq_true c15
                have c15b1 : decide (x3_1 ≤ (a0.size : Int)) = true := decide_eq_true c15
                clear c15
                by_cases c16 : (a0.extract 0 (x3_1 : Int).toNat).size + 1 ≤ 9223372036854775807
                · rw [if_pos c16] at H
                  have c16b0 := eq_true c16
                  have c16b1 : decide ((a0.extract 0 (x3_1 : Int).toNat).size + 1 ≤ 9223372036854775807) = true := decide_eq_true c16
                  (try (have c16n := c16; simp only [ByteArray.size_extract, ByteArray.size_append] at c16n; have c16n0 := eq_true c16n; have c16n1 := decide_eq_true c16n; (try have c16n2 := eq_false (Nat.not_lt.2 c16n))))
                  (try (have c16m := c16; simp at c16m; have c16m0 := eq_true c16m; have c16m1 := decide_eq_true c16m; (try have c16m2 := eq_false (Nat.not_lt.2 c16m))))
                  try have c16b2 : (9223372036854775807 < (a0.extract 0 (x3_1 : Int).toNat).size + 1) = False := eq_false (Nat.not_lt.2 c16)
                  have c17b0 := eq_true (of_decide_eq_true (by first | (with_reducible assumption) | assumption) : 0 ≤ x3_1)
                  have c18b0 := eq_true (of_decide_eq_true (by first | (with_reducible assumption) | assumption) : x3_1 ≤ (a0.size : Int))
                  by_cases c19 : ((a0.extract 0 (x3_1 : Int).toNat) ++ (⟨#[33]⟩ : ByteArray)).size + (a0.extract (x3_1 : Int).toNat a0.size).size ≤ 9223372036854775807
                  · rw [if_pos c19] at H
                    have c19b0 := eq_true c19
                    have c19b1 : decide (((a0.extract 0 (x3_1 : Int).toNat) ++ (⟨#[33]⟩ : ByteArray)).size + (a0.extract (x3_1 : Int).toNat a0.size).size ≤ 9223372036854775807) = true := decide_eq_true c19
                    (try (have c19n := c19; simp only [ByteArray.size_extract, ByteArray.size_append] at c19n; have c19n0 := eq_true c19n; have c19n1 := decide_eq_true c19n; (try have c19n2 := eq_false (Nat.not_lt.2 c19n))))
                    (try (have c19m := c19; simp at c19m; have c19m0 := eq_true c19m; have c19m1 := decide_eq_true c19m; (try have c19m2 := eq_false (Nat.not_lt.2 c19m))))
                    try have c19b2 : (9223372036854775807 < ((a0.extract 0 (x3_1 : Int).toNat) ++ (⟨#[33]⟩ : ByteArray)).size + (a0.extract (x3_1 : Int).toNat a0.size).size) = False := eq_false (Nat.not_lt.2 c19)
                    obtain rfl := Option.some.inj H
                    have p4 : 0 ≤ (x3_1 : Int) := of_decide_eq_true (by first | (with_reducible assumption) | assumption)
                    have q4 : x3_1 < (a0.size : Int) := of_decide_eq_true (by first | (with_reducible assumption) | assumption)
                    have xs0 : (x3_1.toNat : Nat) < a0.size := by have h1 := p4; have h2 := q4; omega
                    have xs1 : (9223372036854775807 < x3_1.toNat + 1) = False := eq_false (by have h1 := c16; simp only [ByteArray.size_extract] at h1; omega)
                    have xs2 : (9223372036854775807 < x3_1.toNat + 1 + (a0.size - x3_1.toNat)) = False := eq_false (by have h1 := c19; have h2 : (⟨#[33]⟩ : ByteArray).size = 1 := rfl; simp only [ByteArray.size_append, ByteArray.size_extract, h2] at h1; omega)
                    have hx4 := bt_at a0 x3_1
                    replace p4 := eq_true p4
                    replace q4 := eq_true q4
                    have p12 : 0 ≤ (x3_1 : Int) := of_decide_eq_true (by first | (with_reducible assumption) | assumption)
                    have q12 : x3_1 < (a0.size : Int) := of_decide_eq_true (by first | (with_reducible assumption) | assumption)
                    have hx12 := bt_at a0 x3_1
                    replace p12 := eq_true p12
                    replace q12 := eq_true q12
                    go_wp2
                    repeat (go_quiet (fail); try go_wp2)
                    go_ret
                    exact ⟨by first | rfl | (simp; done) | (simp [*]; done), by repeat (first | exact Drawn0.refl _ | apply Drawn0.step)⟩
                  · rw [if_neg c19] at H
                    exact absurd H (by simp)
                · rw [if_neg c16] at H
                  exact absurd H (by simp)
              · rw [if_neg c15] at H
                exact absurd H (by simp)
            · rw [if_neg c13] at H
              have c13b0 : ((bt a0 x3_1) == 61) = false := beq_eq_false_iff_ne.mpr c13
              have c13b1 : ((bt a0 x3_1) != 61) = true := bne_iff_ne.mpr c13
              have H' := Aside0.mk H
              clear H
              have p4 : 0 ≤ (x3_1 : Int) := of_decide_eq_true (by first | (with_reducible assumption) | assumption)
              have q4 : x3_1 < (a0.size : Int) := of_decide_eq_true (by first | (with_reducible assumption) | assumption)
              have hx4 := bt_at a0 x3_1
              replace p4 := eq_true p4
              replace q4 := eq_true q4
              have p12 : 0 ≤ (x3_1 : Int) := of_decide_eq_true (by first | (with_reducible assumption) | assumption)
              have q12 : x3_1 < (a0.size : Int) := of_decide_eq_true (by first | (with_reducible assumption) | assumption)
              have hx12 := bt_at a0 x3_1
              replace p12 := eq_true p12
              replace q12 := eq_true q12
              go_wp2
              repeat (go_quiet (fail); try go_wp2)
              go_roundg k1
              case measure => have := HK1.out; omega
              case rel => exact ⟨(wrap64 (x3_1 + 1)), (by first | rfl | (simp; done) | (simp [*]; done)), H', ⟨by have := HK1.out; omega⟩, by repeat (first | exact Drawn0.refl _ | apply Drawn0.step)⟩
        · rw [if_neg c3] at H
          exact absurd H (by simp)
      · rw [if_neg c2] at H
        have c2b0 : decide (x3_1 < (a0.size : Int)) = false := decide_eq_false c2
        clear c2
        obtain rfl := Option.some.inj H
        go_wp2
        repeat (go_quiet (fail); try go_wp2)
        go_ret
        exact ⟨by first | rfl | (simp; done) | (simp [*]; done), by repeat (first | exact Drawn0.refl _ | apply Drawn0.step)⟩
end Go.Proofs.YtnkggincckdoiaaDoor.Q
