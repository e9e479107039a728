import Derived.Test.YtepahimiakgieaaDoorExt
namespace Go.Proofs.YtepahimiakgieaaDoor.Q
open Go.RowKit Go.Proofs.YtepahimiakgieaaDoorW.PrintWords Go.Proofs.YtepahimiakgieaaDoorW.PrintMore
set_option linter.unusedVariables false
set_option linter.unusedSimpArgs false

/-! ### The form of a category -/
def formP (f0 f1 f2 f3 f4 f5 : ByteArray) (c : Int) : ByteArray :=
  if c = 0 ∧ f0.toList ≠ [] then f0 else if c = 1 ∧ f1.toList ≠ [] then f1 else if c = 2 ∧ f2.toList ≠ [] then f2 else if c = 3 ∧ f3.toList ≠ [] then f3 else if c = 4 ∧ f4.toList ≠ [] then f4 else f5
def money_Form.f (f0 f1 f2 f3 f4 f5 : ByteArray) (c : Int) : Option ByteArray := some (formP f0 f1 f2 f3 f4 f5 c)
set_option maxHeartbeats 1000000 in
set_option maxRecDepth 100000 in
theorem money_Form.calls (f0 f1 f2 f3 f4 f5 : ByteArray) (c : Int) (r : ByteArray) (w : World) (h : money_Form.f f0 f1 f2 f3 f4 f5 c = some r) :
    Calls Tryd.prog 14 #[.agg #[.string f0, .string f1, .string f2, .string f3, .string f4, .string f5], .int .i64 c] w fun e w' => e = .returned (.string r) ∧ Below w.heap.size w w' := by
  obtain rfl := Option.some.inj h
  clear h
  have hu22 := Tryd.underlying22
  by_cases h0 : c < 0
  · have HF : Aside0 (formP f0 f1 f2 f3 f4 f5 c = f5) := ⟨by unfold formP; rw [if_neg (by omega), if_neg (by omega), if_neg (by omega), if_neg (by omega), if_neg (by omega)]⟩
    have d0 : decide (0 ≤ c) = false := decide_eq_false (by omega)
    have d1 : decide (c < 0) = true := decide_eq_true h0
    go_enter Tryd.func14, Tryd.ntmps14
    go_wp2
    go_ret
    exact ⟨by rw [HF.out]; rfl, below_alloc (Below.refl _ _) _⟩
  by_cases h6 : 5 < c
  · have HF : Aside0 (formP f0 f1 f2 f3 f4 f5 c = f5) := ⟨by unfold formP; rw [if_neg (by omega), if_neg (by omega), if_neg (by omega), if_neg (by omega), if_neg (by omega)]⟩
    have h6' : 6 ≤ c := by omega
    have d0 : decide (0 ≤ c) = true := decide_eq_true (by omega)
    have d1 : decide (c < 0) = false := decide_eq_false h0
    have d2 : decide (c < 6) = false := decide_eq_false (by omega)
    have d3 : decide (5 < c) = true := decide_eq_true h6
    clear h0 h6
    go_enter Tryd.func14, Tryd.ntmps14
    go_wp2
    go_ret
    exact ⟨by rw [HF.out]; rfl, below_alloc (Below.refl _ _) _⟩
  have hc : c = 0 ∨ c = 1 ∨ c = 2 ∨ c = 3 ∨ c = 4 ∨ c = 5 := by omega
  clear h0 h6
  rcases hc with rfl | rfl | rfl | rfl | rfl | rfl
  · by_cases he : f0.toList = []
    · have HF : Aside0 (formP f0 f1 f2 f3 f4 f5 0 = f5) := ⟨by unfold formP; simp [he]⟩
      have e0 : (f0.toList == ([] : List UInt8)) = true := beq_iff_eq.2 he
      have e1 : (f0.toList != ([] : List UInt8)) = false := by rw [bne, e0]; rfl
      have e2 : (!f0.toList.isEmpty) = false := by rw [he]; rfl
      clear he
      go_enter Tryd.func14, Tryd.ntmps14
      go_wp2
      go_ret
      exact ⟨by rw [HF.out]; rfl, below_alloc (Below.refl _ _) _⟩
    · have HF : Aside0 (formP f0 f1 f2 f3 f4 f5 0 = f0) := ⟨by unfold formP; simp [he]⟩
      have e0 : (f0.toList == ([] : List UInt8)) = false := beq_eq_false_iff_ne.2 he
      have e1 : (f0.toList != ([] : List UInt8)) = true := bne_iff_ne.2 he
      have e2 : (!f0.toList.isEmpty) = true := by cases h : f0.toList with | nil => exact absurd h he | cons _ _ => rfl
      clear he
      go_enter Tryd.func14, Tryd.ntmps14
      go_wp2
      go_ret
      exact ⟨by rw [HF.out]; rfl, below_alloc (Below.refl _ _) _⟩
  · by_cases he : f1.toList = []
    · have HF : Aside0 (formP f0 f1 f2 f3 f4 f5 1 = f5) := ⟨by unfold formP; simp [he]⟩
      have e0 : (f1.toList == ([] : List UInt8)) = true := beq_iff_eq.2 he
      have e1 : (f1.toList != ([] : List UInt8)) = false := by rw [bne, e0]; rfl
      have e2 : (!f1.toList.isEmpty) = false := by rw [he]; rfl
      clear he
      go_enter Tryd.func14, Tryd.ntmps14
      go_wp2
      go_ret
      exact ⟨by rw [HF.out]; rfl, below_alloc (Below.refl _ _) _⟩
    · have HF : Aside0 (formP f0 f1 f2 f3 f4 f5 1 = f1) := ⟨by unfold formP; simp [he]⟩
      have e0 : (f1.toList == ([] : List UInt8)) = false := beq_eq_false_iff_ne.2 he
      have e1 : (f1.toList != ([] : List UInt8)) = true := bne_iff_ne.2 he
      have e2 : (!f1.toList.isEmpty) = true := by cases h : f1.toList with | nil => exact absurd h he | cons _ _ => rfl
      clear he
      go_enter Tryd.func14, Tryd.ntmps14
      go_wp2
      go_ret
      exact ⟨by rw [HF.out]; rfl, below_alloc (Below.refl _ _) _⟩
  · by_cases he : f2.toList = []
    · have HF : Aside0 (formP f0 f1 f2 f3 f4 f5 2 = f5) := ⟨by unfold formP; simp [he]⟩
      have e0 : (f2.toList == ([] : List UInt8)) = true := beq_iff_eq.2 he
      have e1 : (f2.toList != ([] : List UInt8)) = false := by rw [bne, e0]; rfl
      have e2 : (!f2.toList.isEmpty) = false := by rw [he]; rfl
      clear he
      go_enter Tryd.func14, Tryd.ntmps14
      go_wp2
      go_ret
      exact ⟨by rw [HF.out]; rfl, below_alloc (Below.refl _ _) _⟩
    · have HF : Aside0 (formP f0 f1 f2 f3 f4 f5 2 = f2) := ⟨by unfold formP; simp [he]⟩
      have e0 : (f2.toList == ([] : List UInt8)) = false := beq_eq_false_iff_ne.2 he
      have e1 : (f2.toList != ([] : List UInt8)) = true := bne_iff_ne.2 he
      have e2 : (!f2.toList.isEmpty) = true := by cases h : f2.toList with | nil => exact absurd h he | cons _ _ => rfl
      clear he
      go_enter Tryd.func14, Tryd.ntmps14
      go_wp2
      go_ret
      exact ⟨by rw [HF.out]; rfl, below_alloc (Below.refl _ _) _⟩
  · by_cases he : f3.toList = []
    · have HF : Aside0 (formP f0 f1 f2 f3 f4 f5 3 = f5) := ⟨by unfold formP; simp [he]⟩
      have e0 : (f3.toList == ([] : List UInt8)) = true := beq_iff_eq.2 he
      have e1 : (f3.toList != ([] : List UInt8)) = false := by rw [bne, e0]; rfl
      have e2 : (!f3.toList.isEmpty) = false := by rw [he]; rfl
      clear he
      go_enter Tryd.func14, Tryd.ntmps14
      go_wp2
      go_ret
      exact ⟨by rw [HF.out]; rfl, below_alloc (Below.refl _ _) _⟩
    · have HF : Aside0 (formP f0 f1 f2 f3 f4 f5 3 = f3) := ⟨by unfold formP; simp [he]⟩
      have e0 : (f3.toList == ([] : List UInt8)) = false := beq_eq_false_iff_ne.2 he
      have e1 : (f3.toList != ([] : List UInt8)) = true := bne_iff_ne.2 he
      have e2 : (!f3.toList.isEmpty) = true := by cases h : f3.toList with | nil => exact absurd h he | cons _ _ => rfl
      clear he
      go_enter Tryd.func14, Tryd.ntmps14
      go_wp2
      go_ret
      exact ⟨by rw [HF.out]; rfl, below_alloc (Below.refl _ _) _⟩
  · by_cases he : f4.toList = []
    · have HF : Aside0 (formP f0 f1 f2 f3 f4 f5 4 = f5) := ⟨by unfold formP; simp [he]⟩
      have e0 : (f4.toList == ([] : List UInt8)) = true := beq_iff_eq.2 he
      have e1 : (f4.toList != ([] : List UInt8)) = false := by rw [bne, e0]; rfl
      have e2 : (!f4.toList.isEmpty) = false := by rw [he]; rfl
      clear he
      go_enter Tryd.func14, Tryd.ntmps14
      go_wp2
      go_ret
      exact ⟨by rw [HF.out]; rfl, below_alloc (Below.refl _ _) _⟩
    · have HF : Aside0 (formP f0 f1 f2 f3 f4 f5 4 = f4) := ⟨by unfold formP; simp [he]⟩
      have e0 : (f4.toList == ([] : List UInt8)) = false := beq_eq_false_iff_ne.2 he
      have e1 : (f4.toList != ([] : List UInt8)) = true := bne_iff_ne.2 he
      have e2 : (!f4.toList.isEmpty) = true := by cases h : f4.toList with | nil => exact absurd h he | cons _ _ => rfl
      clear he
      go_enter Tryd.func14, Tryd.ntmps14
      go_wp2
      go_ret
      exact ⟨by rw [HF.out]; rfl, below_alloc (Below.refl _ _) _⟩
  · by_cases he : f5.toList = []
    · have HF : Aside0 (formP f0 f1 f2 f3 f4 f5 5 = f5) := ⟨by unfold formP; simp [he]⟩
      have e0 : (f5.toList == ([] : List UInt8)) = true := beq_iff_eq.2 he
      have e1 : (f5.toList != ([] : List UInt8)) = false := by rw [bne, e0]; rfl
      have e2 : (!f5.toList.isEmpty) = false := by rw [he]; rfl
      clear he
      go_enter Tryd.func14, Tryd.ntmps14
      go_wp2
      go_ret
      exact ⟨by rw [HF.out]; rfl, below_alloc (Below.refl _ _) _⟩
    · have HF : Aside0 (formP f0 f1 f2 f3 f4 f5 5 = f5) := ⟨by unfold formP; simp [he]⟩
      have e0 : (f5.toList == ([] : List UInt8)) = false := beq_eq_false_iff_ne.2 he
      have e1 : (f5.toList != ([] : List UInt8)) = true := bne_iff_ne.2 he
      have e2 : (!f5.toList.isEmpty) = true := by cases h : f5.toList with | nil => exact absurd h he | cons _ _ => rfl
      clear he
      go_enter Tryd.func14, Tryd.ntmps14
      go_wp2
      go_ret
      exact ⟨by rw [HF.out]; rfl, below_alloc (Below.refl _ _) _⟩
def quipuref20_Form.f (f0 f1 f2 f3 f4 f5 : ByteArray) (c : Int) : Option ByteArray := some (formP f0 f1 f2 f3 f4 f5 c)
set_option maxHeartbeats 1000000 in
set_option maxRecDepth 100000 in
theorem quipuref20_Form.calls (f0 f1 f2 f3 f4 f5 : ByteArray) (c : Int) (r : ByteArray) (w : World) (h : quipuref20_Form.f f0 f1 f2 f3 f4 f5 c = some r) :
    Calls Tryd.prog 15 #[.agg #[.string f0, .string f1, .string f2, .string f3, .string f4, .string f5], .int .i64 c] w fun e w' => e = .returned (.string r) ∧ Below w.heap.size w w' := by
  obtain rfl := Option.some.inj h
  clear h
  have hu22 := Tryd.underlying22
  by_cases h0 : c < 0
  · have HF : Aside0 (formP f0 f1 f2 f3 f4 f5 c = f5) := ⟨by unfold formP; rw [if_neg (by omega), if_neg (by omega), if_neg (by omega), if_neg (by omega), if_neg (by omega)]⟩
    have d0 : decide (0 ≤ c) = false := decide_eq_false (by omega)
    have d1 : decide (c < 0) = true := decide_eq_true h0
    go_enter Tryd.func15, Tryd.ntmps15
    go_wp2
    go_ret
    exact ⟨by rw [HF.out]; rfl, below_alloc (Below.refl _ _) _⟩
  by_cases h6 : 5 < c
  · have HF : Aside0 (formP f0 f1 f2 f3 f4 f5 c = f5) := ⟨by unfold formP; rw [if_neg (by omega), if_neg (by omega), if_neg (by omega), if_neg (by omega), if_neg (by omega)]⟩
    have h6' : 6 ≤ c := by omega
    have d0 : decide (0 ≤ c) = true := decide_eq_true (by omega)
    have d1 : decide (c < 0) = false := decide_eq_false h0
    have d2 : decide (c < 6) = false := decide_eq_false (by omega)
    have d3 : decide (5 < c) = true := decide_eq_true h6
    clear h0 h6
    go_enter Tryd.func15, Tryd.ntmps15
    go_wp2
    go_ret
    exact ⟨by rw [HF.out]; rfl, below_alloc (Below.refl _ _) _⟩
  have hc : c = 0 ∨ c = 1 ∨ c = 2 ∨ c = 3 ∨ c = 4 ∨ c = 5 := by omega
  clear h0 h6
  rcases hc with rfl | rfl | rfl | rfl | rfl | rfl
  · by_cases he : f0.toList = []
    · have HF : Aside0 (formP f0 f1 f2 f3 f4 f5 0 = f5) := ⟨by unfold formP; simp [he]⟩
      have e0 : (f0.toList == ([] : List UInt8)) = true := beq_iff_eq.2 he
      have e1 : (f0.toList != ([] : List UInt8)) = false := by rw [bne, e0]; rfl
      have e2 : (!f0.toList.isEmpty) = false := by rw [he]; rfl
      clear he
      go_enter Tryd.func15, Tryd.ntmps15
      go_wp2
      go_ret
      exact ⟨by rw [HF.out]; rfl, below_alloc (Below.refl _ _) _⟩
    · have HF : Aside0 (formP f0 f1 f2 f3 f4 f5 0 = f0) := ⟨by unfold formP; simp [he]⟩
      have e0 : (f0.toList == ([] : List UInt8)) = false := beq_eq_false_iff_ne.2 he
      have e1 : (f0.toList != ([] : List UInt8)) = true := bne_iff_ne.2 he
      have e2 : (!f0.toList.isEmpty) = true := by cases h : f0.toList with | nil => exact absurd h he | cons _ _ => rfl
      clear he
      go_enter Tryd.func15, Tryd.ntmps15
      go_wp2
      go_ret
      exact ⟨by rw [HF.out]; rfl, below_alloc (Below.refl _ _) _⟩
  · by_cases he : f1.toList = []
    · have HF : Aside0 (formP f0 f1 f2 f3 f4 f5 1 = f5) := ⟨by unfold formP; simp [he]⟩
      have e0 : (f1.toList == ([] : List UInt8)) = true := beq_iff_eq.2 he
      have e1 : (f1.toList != ([] : List UInt8)) = false := by rw [bne, e0]; rfl
      have e2 : (!f1.toList.isEmpty) = false := by rw [he]; rfl
      clear he
      go_enter Tryd.func15, Tryd.ntmps15
      go_wp2
      go_ret
      exact ⟨by rw [HF.out]; rfl, below_alloc (Below.refl _ _) _⟩
    · have HF : Aside0 (formP f0 f1 f2 f3 f4 f5 1 = f1) := ⟨by unfold formP; simp [he]⟩
      have e0 : (f1.toList == ([] : List UInt8)) = false := beq_eq_false_iff_ne.2 he
      have e1 : (f1.toList != ([] : List UInt8)) = true := bne_iff_ne.2 he
      have e2 : (!f1.toList.isEmpty) = true := by cases h : f1.toList with | nil => exact absurd h he | cons _ _ => rfl
      clear he
      go_enter Tryd.func15, Tryd.ntmps15
      go_wp2
      go_ret
      exact ⟨by rw [HF.out]; rfl, below_alloc (Below.refl _ _) _⟩
  · by_cases he : f2.toList = []
    · have HF : Aside0 (formP f0 f1 f2 f3 f4 f5 2 = f5) := ⟨by unfold formP; simp [he]⟩
      have e0 : (f2.toList == ([] : List UInt8)) = true := beq_iff_eq.2 he
      have e1 : (f2.toList != ([] : List UInt8)) = false := by rw [bne, e0]; rfl
      have e2 : (!f2.toList.isEmpty) = false := by rw [he]; rfl
      clear he
      go_enter Tryd.func15, Tryd.ntmps15
      go_wp2
      go_ret
      exact ⟨by rw [HF.out]; rfl, below_alloc (Below.refl _ _) _⟩
    · have HF : Aside0 (formP f0 f1 f2 f3 f4 f5 2 = f2) := ⟨by unfold formP; simp [he]⟩
      have e0 : (f2.toList == ([] : List UInt8)) = false := beq_eq_false_iff_ne.2 he
      have e1 : (f2.toList != ([] : List UInt8)) = true := bne_iff_ne.2 he
      have e2 : (!f2.toList.isEmpty) = true := by cases h : f2.toList with | nil => exact absurd h he | cons _ _ => rfl
      clear he
      go_enter Tryd.func15, Tryd.ntmps15
      go_wp2
      go_ret
      exact ⟨by rw [HF.out]; rfl, below_alloc (Below.refl _ _) _⟩
  · by_cases he : f3.toList = []
    · have HF : Aside0 (formP f0 f1 f2 f3 f4 f5 3 = f5) := ⟨by unfold formP; simp [he]⟩
      have e0 : (f3.toList == ([] : List UInt8)) = true := beq_iff_eq.2 he
      have e1 : (f3.toList != ([] : List UInt8)) = false := by rw [bne, e0]; rfl
      have e2 : (!f3.toList.isEmpty) = false := by rw [he]; rfl
      clear he
      go_enter Tryd.func15, Tryd.ntmps15
      go_wp2
      go_ret
      exact ⟨by rw [HF.out]; rfl, below_alloc (Below.refl _ _) _⟩
    · have HF : Aside0 (formP f0 f1 f2 f3 f4 f5 3 = f3) := ⟨by unfold formP; simp [he]⟩
      have e0 : (f3.toList == ([] : List UInt8)) = false := beq_eq_false_iff_ne.2 he
      have e1 : (f3.toList != ([] : List UInt8)) = true := bne_iff_ne.2 he
      have e2 : (!f3.toList.isEmpty) = true := by cases h : f3.toList with | nil => exact absurd h he | cons _ _ => rfl
      clear he
      go_enter Tryd.func15, Tryd.ntmps15
      go_wp2
      go_ret
      exact ⟨by rw [HF.out]; rfl, below_alloc (Below.refl _ _) _⟩
  · by_cases he : f4.toList = []
    · have HF : Aside0 (formP f0 f1 f2 f3 f4 f5 4 = f5) := ⟨by unfold formP; simp [he]⟩
      have e0 : (f4.toList == ([] : List UInt8)) = true := beq_iff_eq.2 he
      have e1 : (f4.toList != ([] : List UInt8)) = false := by rw [bne, e0]; rfl
      have e2 : (!f4.toList.isEmpty) = false := by rw [he]; rfl
      clear he
      go_enter Tryd.func15, Tryd.ntmps15
      go_wp2
      go_ret
      exact ⟨by rw [HF.out]; rfl, below_alloc (Below.refl _ _) _⟩
    · have HF : Aside0 (formP f0 f1 f2 f3 f4 f5 4 = f4) := ⟨by unfold formP; simp [he]⟩
      have e0 : (f4.toList == ([] : List UInt8)) = false := beq_eq_false_iff_ne.2 he
      have e1 : (f4.toList != ([] : List UInt8)) = true := bne_iff_ne.2 he
      have e2 : (!f4.toList.isEmpty) = true := by cases h : f4.toList with | nil => exact absurd h he | cons _ _ => rfl
      clear he
      go_enter Tryd.func15, Tryd.ntmps15
      go_wp2
      go_ret
      exact ⟨by rw [HF.out]; rfl, below_alloc (Below.refl _ _) _⟩
  · by_cases he : f5.toList = []
    · have HF : Aside0 (formP f0 f1 f2 f3 f4 f5 5 = f5) := ⟨by unfold formP; simp [he]⟩
      have e0 : (f5.toList == ([] : List UInt8)) = true := beq_iff_eq.2 he
      have e1 : (f5.toList != ([] : List UInt8)) = false := by rw [bne, e0]; rfl
      have e2 : (!f5.toList.isEmpty) = false := by rw [he]; rfl
      clear he
      go_enter Tryd.func15, Tryd.ntmps15
      go_wp2
      go_ret
      exact ⟨by rw [HF.out]; rfl, below_alloc (Below.refl _ _) _⟩
    · have HF : Aside0 (formP f0 f1 f2 f3 f4 f5 5 = f5) := ⟨by unfold formP; simp [he]⟩
      have e0 : (f5.toList == ([] : List UInt8)) = false := beq_eq_false_iff_ne.2 he
      have e1 : (f5.toList != ([] : List UInt8)) = true := bne_iff_ne.2 he
      have e2 : (!f5.toList.isEmpty) = true := by cases h : f5.toList with | nil => exact absurd h he | cons _ _ => rfl
      clear he
      go_enter Tryd.func15, Tryd.ntmps15
      go_wp2
      go_ret
      exact ⟨by rw [HF.out]; rfl, below_alloc (Below.refl _ _) _⟩
end Go.Proofs.YtepahimiakgieaaDoor.Q
