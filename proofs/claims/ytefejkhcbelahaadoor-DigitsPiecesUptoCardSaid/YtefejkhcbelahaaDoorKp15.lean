import Derived.Test.YtefejkhcbelahaaDoorKp1
namespace Go.Proofs.YtefejkhcbelahaaDoor.Q
open Go.RowKit Go.Proofs.YtefejkhcbelahaaDoorW.PrintWords Go.Proofs.YtefejkhcbelahaaDoorW.PrintLast Go.Proofs.YtefejkhcbelahaaDoorW.PrintMore
attribute [local go_sem] max2_int min2_int max_two min_two max_three min_three max_four min_four   -- for this text's walks alone
set_option linter.unusedVariables false
set_option linter.unusedSimpArgs false
def quipuref16_Before.j0 : Nat → Int → Int → Int → Bool → Option (Bool)
  | 0, _, _, _, _ => none
  | k + 1, x0, x2, x3, x30 => if x30 = true then (some false) else (if x3 ≤ 0 then (if x2 = 0 then (none) else (some ((Int.tmod (wrap64 (x0 - x2)) x2) == 0))) else (if x3 = 0 then (none) else (some ((Int.tmod (wrap64 (x0 - x2)) x3) == 0))))
def quipuref16_Before.f (k : Nat) (a0 : Int) (a1 : Int) (a2 : Int) (a3 : Int) (a4 : Int) : Option (Bool) := if a2 ≤ 0 then (quipuref16_Before.j0 k a0 a2 a3 true) else (if a0 < a2 then (quipuref16_Before.j0 k a0 a2 a3 true) else (if a0 ≥ a1 then (quipuref16_Before.j0 k a0 a2 a3 true) else (quipuref16_Before.j0 k a0 a2 a3 (decide ((wrap64 (a1 - a2)) < (mx 1 a4))))))
set_option maxHeartbeats 8000000 in
set_option maxRecDepth 100000 in
theorem quipuref16_Before.calls (k : Nat) (a0 : Int) (a1 : Int) (a2 : Int) (a3 : Int) (a4 : Int) (r : Bool) (w : World) (h : quipuref16_Before.f k a0 a1 a2 a3 a4 = some r) :
    Calls Tryd.prog 20 #[.int .i64 a0, .int .i64 a1, .int .i64 a2, .int .i64 a3, .int .i64 a4] w fun e w' => e = .returned (.bool r) ∧ Below w.heap.size w w' := by
  have HB := Aside0.mk (Below.refl w.heap.size w)
  have H : (if a2 ≤ 0 then (quipuref16_Before.j0 k a0 a2 a3 true) else (if a0 < a2 then (quipuref16_Before.j0 k a0 a2 a3 true) else (if a0 ≥ a1 then (quipuref16_Before.j0 k a0 a2 a3 true) else (quipuref16_Before.j0 k a0 a2 a3 (decide ((wrap64 (a1 - a2)) < (mx 1 a4))))))) = some r := h
  clear h
  have HC6 := Aside0.mk H
  clear H
  go_enter Tryd.func20, Tryd.ntmps20
  go_upto_region 1 with (fail)
  go_cut [30] (fun v30 wc => ∃ (kq : Nat) (x30_5 : Bool), v30 = .bool x30_5 ∧ Aside0 (quipuref16_Before.j0 kq a0 a2 a3 x30_5 = some r) ∧ Aside0 (kq ≤ k) ∧ Aside0 (Below w.heap.size w wc))
  case first =>
    have H := HC6.out
    clear HC6
    by_cases c7 : a2 ≤ 0
    · rw [if_pos c7] at H
      have c7b0 : decide (a2 ≤ 0) = true := decide_eq_true c7
      clear c7
      (first | rw [c7b0] | rw [c7b1] | (simp only [i64_w, i32_w]; rw [c7b0]) | skip)
      have H' := Aside0.mk H
      clear H
      go_wp2
      go_meet
      case rel => exact ⟨_, (true), (by first | rfl | (simp; done) | (simp [*]; done)), H', ⟨by first | omega | exact Nat.le_refl _⟩, ⟨by repeat (first | (with_reducible first | exact HB.out | apply below_alloc | apply pw_below_drewN | apply below_drew1) | exact HB.out)⟩⟩
    · rw [if_neg c7] at H
      have c7b0 : decide (a2 ≤ 0) = false := decide_eq_false c7
      clear c7
      (first | rw [c7b0] | rw [c7b1] | (simp only [i64_w, i32_w]; rw [c7b0]) | skip)
      by_cases c8 : a0 < a2
      · rw [if_pos c8] at H
        have c8b0 : decide (a0 < a2) = true := decide_eq_true c8
        clear c8
        have H' := Aside0.mk H
        clear H
        go_wp2
        go_meet
        case rel => exact ⟨_, (true), (by first | rfl | (simp; done) | (simp [*]; done)), H', ⟨by first | omega | exact Nat.le_refl _⟩, ⟨by repeat (first | (with_reducible first | exact HB.out | apply below_alloc | apply pw_below_drewN | apply below_drew1) | exact HB.out)⟩⟩
      · rw [if_neg c8] at H
        have c8b0 : decide (a0 < a2) = false := decide_eq_false c8
        clear c8
        by_cases c9 : a0 ≥ a1
        · rw [if_pos c9] at H
          have c9b0 : decide (a1 ≤ a0) = true := decide_eq_true c9
          clear c9
          have H' := Aside0.mk H
          clear H
          go_wp2
          go_meet
          case rel => exact ⟨_, (true), (by first | rfl | (simp; done) | (simp [*]; done)), H', ⟨by first | omega | exact Nat.le_refl _⟩, ⟨by repeat (first | (with_reducible first | exact HB.out | apply below_alloc | apply pw_below_drewN | apply below_drew1) | exact HB.out)⟩⟩
        · rw [if_neg c9] at H
          have c9b0 : decide (a1 ≤ a0) = false := decide_eq_false c9
          clear c9
          obtain ⟨ji10, hji10⟩ : ∃ j_ : Int, (mx 1 a4) = j_ := ⟨_, rfl⟩
          replace H : (quipuref16_Before.j0 k a0 a2 a3 (decide ((wrap64 (a1 - a2)) < (ji10)))) = some r := by first | (rw [hji10] at H; exact H) | (simp only [hji10] at H ⊢; exact H)
          (try (have hji10l : 1 ≤ ji10 := by (rw [← hji10]; unfold mx; (repeat' split) <;> omega)))
          (try (have hji10m : 0 ≤ ji10 := by omega))
          have hji10_ : (if 1 < a4 then a4 else 1) = ji10 := hji10
          have H' := Aside0.mk H
          clear H
          go_wp2
          go_meet
          case rel => exact ⟨_, (decide ((wrap64 (a1 - a2)) < (ji10))), (by first | rfl | (simp; done) | (simp only [← hji10] <;> (first | rfl | simp)) | (simp [*]; done)), H', ⟨by first | omega | exact Nat.le_refl _⟩, ⟨by repeat (first | (with_reducible first | exact HB.out | apply below_alloc | apply pw_below_drewN | apply below_drew1) | exact HB.out)⟩⟩
  case rest =>
    clear HC6
    try clear c2
    try clear p2
    try clear p6
    try clear c7
    try clear c7b0
    try clear c7b1
    try clear c8
    try clear c8b0
    try clear c9
    try clear c9b0
    obtain ⟨kq, x30_5, rfl, HA, HJ5, HB⟩ := hcut
    cases kq with
    | zero => exact absurd HA.out (by simp [quipuref16_Before.j0])
    | succ kj5 =>
      have H := HA.out
      clear HA
      simp only [quipuref16_Before.j0] at H
      by_cases c11 : x30_5 = true
      · subst c11
        have H1 : (some false) = some r := by rw [if_pos rfl] at H; exact H
        clear H
        have H := H1
        clear H1
        obtain rfl := Option.some.inj H
        go_wp2
        go_ret
        exact ⟨by first | rfl | (simp [errW_none, errW_some] <;> rfl) | (simp [*, errW_none, errW_some] <;> rfl) | (simp only [ne_nil_b]; first | done | rfl) | (simp [ne_nil_b]; done), by repeat (first | (with_reducible first | exact HB.out | apply below_alloc | apply pw_below_drewN | apply below_drew1) | exact HB.out)⟩
      · replace c11 := Bool.eq_false_iff.mpr c11
        subst c11
        have H1 : (if a3 ≤ 0 then (if a2 = 0 then (none) else (some ((Int.tmod (wrap64 (a0 - a2)) a2) == 0))) else (if a3 = 0 then (none) else (some ((Int.tmod (wrap64 (a0 - a2)) a3) == 0)))) = some r := by rw [if_neg (show ¬ (false = true) by decide)] at H; exact H
        clear H
        have H := H1
        clear H1
        by_cases c12 : a3 ≤ 0
        · rw [if_pos c12] at H
          have c12b0 : decide (a3 ≤ 0) = true := decide_eq_true c12
          clear c12
          by_cases c13 : a2 = 0
          · rw [if_pos c13] at H
            exact absurd H (by simp)
          · rw [if_neg c13] at H
            have c13b0 : (a2 == 0) = false := beq_eq_false_iff_ne.mpr c13
            have c13b1 : (a2 != 0) = true := bne_iff_ne.mpr c13
            obtain rfl := Option.some.inj H
            go_wp2
            go_ret
            exact ⟨by first | rfl | (simp [errW_none, errW_some] <;> rfl) | (simp [*, errW_none, errW_some] <;> rfl) | (simp only [ne_nil_b]; first | done | rfl) | (simp [ne_nil_b]; done), by repeat (first | (with_reducible first | exact HB.out | apply below_alloc | apply pw_below_drewN | apply below_drew1) | exact HB.out)⟩
        · rw [if_neg c12] at H
          have c12b0 : decide (a3 ≤ 0) = false := decide_eq_false c12
          clear c12
          by_cases c14 : a3 = 0
          · rw [if_pos c14] at H
            exact absurd H (by simp)
          · rw [if_neg c14] at H
            have c14b0 : (a3 == 0) = false := beq_eq_false_iff_ne.mpr c14
            have c14b1 : (a3 != 0) = true := bne_iff_ne.mpr c14
            obtain rfl := Option.some.inj H
            go_wp2
            go_ret
            exact ⟨by first | rfl | (simp [errW_none, errW_some] <;> rfl) | (simp [*, errW_none, errW_some] <;> rfl) | (simp only [ne_nil_b]; first | done | rfl) | (simp [ne_nil_b]; done), by repeat (first | (with_reducible first | exact HB.out | apply below_alloc | apply pw_below_drewN | apply below_drew1) | exact HB.out)⟩
end Go.Proofs.YtefejkhcbelahaaDoor.Q
