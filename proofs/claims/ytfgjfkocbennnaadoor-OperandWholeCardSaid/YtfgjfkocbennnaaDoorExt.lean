import Derived.Test.YtfgjfkocbennnaaDoorLib
import Derived.Test.YtfgjfkocbennnaaDoorWWords
import Derived.Test.YtfgjfkocbennnaaDoorWMore
import Derived.Laws.RangeAny
import Derived.Lib.OthersKept
import Derived.Lib.Hide
namespace Go.Proofs.YtfgjfkocbennnaaDoor.Q
open Go.RowKit Go.Proofs.YtfgjfkocbennnaaDoorW.PrintWords Go.Proofs.YtfgjfkocbennnaaDoorW.PrintMore
set_option linter.unusedVariables false
set_option linter.unusedSimpArgs false

/-! ### What the library's functions tell, as the printed ones are told -/
theorem ne_nil_b {α : Type} [BEq α] (l : List α) : (l != []) = !l.isEmpty := by cases l <;> rfl
def mkS (l : List UInt8) : ByteArray := ⟨l.toArray⟩
def ascB (c : ByteArray) : Bool := c.data.toList.all (fun b => decide (b.toNat < 128)) && decide (c.size < 4294967281)
theorem ascB_1 {c : ByteArray} (h : ascB c = true) : ∀ (j : Nat) b, c.data.toList[j]? = some b → b.toNat < 128 := by
  unfold ascB at h
  rw [Bool.and_eq_true] at h
  exact fun _ b hb => of_decide_eq_true (List.all_eq_true.1 h.1 b (List.mem_of_getElem? hb))
theorem ascB_2 {c : ByteArray} (h : ascB c = true) : c.size < 4294967281 := by
  unfold ascB at h
  rw [Bool.and_eq_true] at h
  exact of_decide_eq_true h.2
def strings_TrimLeft.f (s c : ByteArray) : Option ByteArray := if ascB c = true then some (mkS (Lib.trimLeftS s.data.toList c.data.toList)) else none
def strings_TrimRight.f (s c : ByteArray) : Option ByteArray := if ascB c = true then (if s.size ≤ 9223372036854775807 then some (mkS (Lib.trimRightS s.data.toList c.data.toList)) else none) else none
def strings_Trim.f (s c : ByteArray) : Option ByteArray := if ascB c = true then (if s.size ≤ 9223372036854775807 then some (mkS (Lib.trimS s.data.toList c.data.toList)) else none) else none
def strings_Repeat.f (s : ByteArray) (c : Int) : Option ByteArray := if 0 ≤ c then (if c ≤ 9223372036854775807 then (if s.size * c.toNat ≤ 140737488355328 then some (mkS (Lib.repeatL s.data.toList c.toNat)) else none) else none) else none
theorem strings_TrimLeft.calls (a0 a1 r : ByteArray) (w : World) (h : strings_TrimLeft.f a0 a1 = some r) :
    Calls Tryd.prog 22 #[.string a0, .string a1] w fun e w' => e = .returned (.string r) ∧ Below w.heap.size w w' := by
  unfold strings_TrimLeft.f at h
  by_cases c1 : ascB a1 = true
  · rw [if_pos c1] at h
    obtain rfl := Option.some.inj h
    exact Any.strings_TrimLeft_laid Tryd.lays161 (by kernel_rfl) a0 a1 w (ascB_2 c1) (ascB_1 c1)
  · rw [if_neg c1] at h; cases h
theorem strings_TrimRight.calls (a0 a1 r : ByteArray) (w : World) (h : strings_TrimRight.f a0 a1 = some r) :
    Calls Tryd.prog 15 #[.string a0, .string a1] w fun e w' => e = .returned (.string r) ∧ Below w.heap.size w w' := by
  unfold strings_TrimRight.f at h
  by_cases c1 : ascB a1 = true
  · rw [if_pos c1] at h
    by_cases c2 : a0.size ≤ 9223372036854775807
    · rw [if_pos c2] at h
      obtain rfl := Option.some.inj h
      exact Any.strings_TrimRight_laid Tryd.lays162 (by kernel_rfl) a0 a1 w c2 (ascB_2 c1) (ascB_1 c1)
    · rw [if_neg c2] at h; cases h
  · rw [if_neg c1] at h; cases h
theorem strings_Trim.calls (a0 a1 r : ByteArray) (w : World) (h : strings_Trim.f a0 a1 = some r) :
    Calls Tryd.prog 34 #[.string a0, .string a1] w fun e w' => e = .returned (.string r) ∧ Below w.heap.size w w' := by
  unfold strings_Trim.f at h
  by_cases c1 : ascB a1 = true
  · rw [if_pos c1] at h
    by_cases c2 : a0.size ≤ 9223372036854775807
    · rw [if_pos c2] at h
      obtain rfl := Option.some.inj h
      exact Any.strings_Trim_laid Tryd.lays160 (by kernel_rfl) a0 a1 w c2 (ascB_2 c1) (ascB_1 c1)
    · rw [if_neg c2] at h; cases h
  · rw [if_neg c1] at h; cases h
theorem strings_Repeat.calls (a0 : ByteArray) (a1 : Int) (r : ByteArray) (w : World) (h : strings_Repeat.f a0 a1 = some r) :
    Calls Tryd.prog 14 #[.string a0, .int .i64 a1] w fun e w' => e = .returned (.string r) ∧ Below w.heap.size w w' := by
  unfold strings_Repeat.f at h
  by_cases c1 : 0 ≤ a1
  · rw [if_pos c1] at h
    by_cases c2 : a1 ≤ 9223372036854775807
    · rw [if_pos c2] at h
      by_cases c3 : a0.size * a1.toNat ≤ 140737488355328
      · rw [if_pos c3] at h
        obtain rfl := Option.some.inj h
        obtain ⟨n, rfl⟩ := Int.eq_ofNat_of_zero_le c1
        exact Tryd.strings_Repeat a0 n w (by omega) c3
      · rw [if_neg c3] at h; cases h
    · rw [if_neg c2] at h; cases h
  · rw [if_neg c1] at h; cases h

/-! ### Ranges over strings -/
theorem width_pos (s : ByteArray) (pos : Nat) (h : pos < s.size) : 1 ≤ (Utf8.decode s pos).2 := by
  by_cases ha : (s[pos]'h).toNat < 128
  · rw [decode_ascii s pos h ha]
    exact Nat.le_refl _
  · exact (decode_high s pos h (by omega)).2
theorem dropWhile_at {p : UInt8 → Bool} : ∀ (l : List UInt8) (k : Nat), (∀ (j : Nat) b, j < k → l[j]? = some b → p b = true) → (∀ b, l[k]? = some b → p b = false) → k ≤ l.length → l.dropWhile p = l.drop k
  | [], k, _, _, hk => by simp
  | a :: l, 0, _, h2, _ => by
    have := h2 a rfl
    simp [List.dropWhile, this]
  | a :: l, k + 1, h1, h2, hk => by
    have h0 := h1 0 a (by omega) rfl
    simp only [List.dropWhile, h0, List.drop_succ_cons]
    exact dropWhile_at l k (fun j b hj hb => h1 (j + 1) b (by omega) (by simpa using hb)) (fun b hb => h2 b (by simpa using hb)) (by simpa using hk)
theorem sdata (s : ByteArray) (i : Nat) (h : i < s.size) : s.data.toList[i]? = some s[i] := by
  rw [List.getElem?_eq_getElem (by rw [Array.length_toList]; exact h)]; rfl
theorem sdata' {s : ByteArray} {i : Nat} {b : UInt8} (h : s.data.toList[i]? = some b) : ∃ h : i < s.size, s[i] = b := by
  obtain ⟨h1, h2⟩ := List.getElem?_eq_some_iff.1 h
  exact ⟨by rw [Array.length_toList] at h1; exact h1, h2⟩
theorem slen (s : ByteArray) : s.data.toList.length = s.size := by rw [Array.length_toList]; rfl

/-- Digits without noughts ahead; 0, if none is left. -/
def aheadL (l : List UInt8) : List UInt8 := if l.dropWhile (· == 48) = [] then [48] else l.dropWhile (· == 48)
def operand_ahead.f (s : ByteArray) : Option ByteArray := if s.size ≤ 140737488355328 then some (mkS (aheadL s.data.toList)) else none
theorem ahead_at (s : ByteArray) (k : Nat) (hk : k < s.size) (h1 : ∀ j (h : j < s.size), j < k → s[j] = 48) (h2 : s[k] ≠ 48) : s.extract k s.size = mkS (aheadL s.data.toList) := by
  have e : s.data.toList.dropWhile (· == 48) = s.data.toList.drop k := by
    refine dropWhile_at _ _ (fun j b hj hb => ?_) (fun b hb => ?_) (by rw [slen]; omega)
    · obtain ⟨h, rfl⟩ := sdata' hb
      exact beq_iff_eq.2 (h1 j h hj)
    · obtain ⟨h, rfl⟩ := sdata' hb
      exact beq_eq_false_iff_ne.2 h2
  rw [aheadL, e, if_neg (by intro h; have := congrArg List.length h; rw [List.length_drop, slen] at this; simp at this; omega)]
  apply ByteArray.ext
  rw [mkS, ByteArray.data_extract]
  apply Array.ext'
  simp
  exact List.take_of_length_le (by rw [List.length_drop, slen]; omega)
theorem ahead_none (s : ByteArray) (h1 : ∀ j (h : j < s.size), s[j] = 48) : (⟨#[48]⟩ : ByteArray) = mkS (aheadL s.data.toList) := by
  have e : s.data.toList.dropWhile (· == 48) = s.data.toList.drop s.size := by
    refine dropWhile_at _ _ (fun j b hj hb => ?_) (fun b hb => ?_) (by rw [slen]; omega)
    · obtain ⟨h, rfl⟩ := sdata' hb
      exact beq_iff_eq.2 (h1 j h)
    · obtain ⟨h, rfl⟩ := sdata' hb
      omega
  rw [aheadL, e, List.drop_of_length_le (by rw [slen]; omega), if_pos rfl]
  rfl
theorem dec48 (s : ByteArray) (pos : Nat) (h : pos < s.size) : ((Utf8.decode s pos).1 = 48 ↔ s[pos] = 48) ∧ (s[pos] = 48 → (Utf8.decode s pos).2 = 1) := by
  by_cases ha : (s[pos]'h).toNat < 128
  · rw [decode_ascii s pos h ha]
    exact ⟨⟨fun e => UInt8.toNat_inj.1 (by simpa using e), fun e => by rw [e]; rfl⟩, fun _ => rfl⟩
  · have := (decode_high s pos h (by omega)).1
    exact ⟨⟨fun e => by omega, fun e => by rw [e] at ha; exact absurd (by decide) ha⟩, fun e => by rw [e] at ha; exact absurd (by decide) ha⟩
set_option maxHeartbeats 1000000 in
theorem operand_ahead.calls (a0 r : ByteArray) (w : World) (h : operand_ahead.f a0 = some r) :
    Calls Tryd.prog 16 #[.string a0] w fun e w' => e = .returned (.string r) ∧ Below w.heap.size w w' := by
  unfold operand_ahead.f at h
  by_cases c1 : a0.size ≤ 140737488355328
  · rw [if_pos c1] at h
    obtain rfl := Option.some.inj h
    clear h
    go_enter Tryd.func16, Tryd.ntmps16
    go_wp2
    go_loopw [3] (fun v w' => ∃ pos : Nat, w' = w.iter a0 pos ∧ pos ≤ a0.size ∧ Aside0 (∀ j (h : j < a0.size), j < pos → a0[j] = 48)) (fun _ w' => a0.size - w'.iterPos w.heap.size)
    case atStart => exact ⟨0, rfl, by omega, ⟨fun j _ hj => absurd hj (by omega)⟩⟩
    case round =>
      obtain ⟨pos, rfl, hle, HN⟩ := hrel
      by_cases hp : pos < a0.size
      · obtain ⟨k1, k2⟩ := dec48 a0 pos hp
        by_cases hb : a0[pos] = 48
        · have hnx : ∀ ty, (Instr.next (.pointer (some ⟨w.heap.size, 0, none⟩)) true ty).run Tryd.prog (w.iter a0 pos) = .ok (.tuple #[.bool true, .int .i64 pos, .int .i32 48]) (w.iter a0 (pos + 1)) := fun ty => by
            rw [run_next_any w a0 pos ty hp, k1.2 hb, k2 hb]; rfl
          have HB := Lib.hid hb
          clear hb k1 k2
          go_wp2
          go_roundw
          case rel => exact ⟨pos + 1, rfl, by omega, ⟨fun j h hj => (Nat.lt_succ_iff_lt_or_eq.1 hj).elim (HN.out j h) (fun e => by subst e; exact HB.out)⟩⟩
          case measure => simp; omega
        · have hne : ((Utf8.decode a0 pos).1 : Int) ≠ 48 := fun e => hb (k1.1 (by omega))
          have q0 : (((Utf8.decode a0 pos).1 : Int) == 48) = false := beq_eq_false_iff_ne.2 hne
          have q1 : (((Utf8.decode a0 pos).1 : Int) != 48) = true := bne_iff_ne.2 hne
          have hnx : ∀ ty, (Instr.next (.pointer (some ⟨w.heap.size, 0, none⟩)) true ty).run Tryd.prog (w.iter a0 pos) = _ := fun ty => run_next_any w a0 pos ty hp
          have HB := Lib.hid hb
          clear hb k1 k2 hne
          generalize ((Utf8.decode a0 pos).1 : Int) = c at *
          go_wp2
          go_ret
          exact ⟨by rw [← ahead_at a0 pos hp (fun j h hj => HN.out j h hj) HB.out]; rfl, below_alloc (Below.refl _ _) _⟩
      · have hnx : ∀ ty, (Instr.next (.pointer (some ⟨w.heap.size, 0, none⟩)) true ty).run Tryd.prog (w.iter a0 pos) = _ := fun ty => run_next_end w a0 pos ty hp
        go_wp2
        go_ret
        exact ⟨by rw [← ahead_none a0 (fun j h => HN.out j h (by omega))]; rfl, below_alloc (Below.refl _ _) _⟩
  · rw [if_neg c1] at h; cases h

/-- 0, or digits that don't begin with a 0, of at most so many. -/
def digB (l : List UInt8) : Bool := l.all (fun b => decide (48 ≤ b.toNat) && decide (b.toNat ≤ 57))
def numberB (s : ByteArray) (m : Int) : Bool := s.data.toList == [48] || (digB s.data.toList && !(s.data.toList.head?.getD 48 == 48) && decide ((s.size : Int) ≤ m))
def operand_number.f (s : ByteArray) (m : Int) : Option Bool := if s.size ≤ 140737488355328 then some (numberB s m) else none
def okd (b : UInt8) : Prop := 48 ≤ b.toNat ∧ b.toNat ≤ 57
theorem decd (s : ByteArray) (pos : Nat) (h : pos < s.size) : (okd s[pos] → (Utf8.decode s pos).1 = s[pos].toNat ∧ (Utf8.decode s pos).2 = 1) ∧ (¬ okd s[pos] → (Utf8.decode s pos).1 < 48 ∨ 57 < (Utf8.decode s pos).1) := by
  unfold okd
  by_cases ha : (s[pos]'h).toNat < 128
  · rw [decode_ascii s pos h ha]
    exact ⟨fun _ => ⟨rfl, rfl⟩, fun e => by simp only; omega⟩
  · have := (decode_high s pos h (by omega)).1
    exact ⟨fun e => by omega, fun e => by omega⟩
theorem digB_yes (s : ByteArray) (h : ∀ j (h : j < s.size), okd s[j]) : digB s.data.toList = true := by
  unfold digB
  rw [List.all_eq_true]
  intro b hb
  obtain ⟨i, hi, rfl⟩ := List.getElem_of_mem hb
  have := h i (by rw [slen] at hi; exact hi)
  rw [Bool.and_eq_true]
  exact ⟨decide_eq_true this.1, decide_eq_true this.2⟩
theorem digB_no (s : ByteArray) (j : Nat) (h : j < s.size) (hn : ¬ okd s[j]) : digB s.data.toList = false := by
  cases e : digB s.data.toList with
  | false => rfl
  | true =>
    unfold digB at e
    rw [List.all_eq_true] at e
    have h2 := e s[j] (by rw [List.mem_iff_getElem?]; exact ⟨j, sdata s j h⟩)
    rw [Bool.and_eq_true] at h2
    exact absurd ⟨of_decide_eq_true h2.1, of_decide_eq_true h2.2⟩ hn
theorem bytes_eq {s : ByteArray} {l : List UInt8} : (s.data.toList == l) = true ↔ s = mkS l := by
  rw [beq_iff_eq]
  exact ⟨fun h => by rw [← h]; rfl, fun h => by rw [h]; rfl⟩

theorem toList_data (s : ByteArray) : s.toList = s.data.toList := ByteArray.toList_eq s
set_option maxHeartbeats 1000000 in
theorem operand_number.calls (a0 : ByteArray) (a1 : Int) (r : Bool) (w : World) (h : operand_number.f a0 a1 = some r) :
    Calls Tryd.prog 18 #[.string a0, .int .i64 a1] w fun e w' => e = .returned (.bool r) ∧ Below w.heap.size w w' := by
  unfold operand_number.f at h
  by_cases c1 : a0.size ≤ 140737488355328
  · rw [if_pos c1] at h
    obtain rfl := Option.some.inj h
    clear h
    by_cases h0 : (a0.toList == ([48] : List UInt8)) = true
    · have hr : numberB a0 a1 = true := by unfold numberB; rw [← toList_data, h0]; rfl
      rw [hr]
      clear hr
      have h1 : a0.toList = [48] := beq_iff_eq.1 h0
      clear h0
      go_enter Tryd.func18, Tryd.ntmps18
      go_wp2
      go_ret
      exact ⟨rfl, Below.refl _ _⟩
    · have h0' : (a0.toList == ([48] : List UInt8)) = false := by simpa using h0
      have h1 : ¬ a0.toList = [48] := fun e => h0 (beq_iff_eq.2 e)
      have HR : Aside0 (numberB a0 a1 = (digB a0.data.toList && !(a0.data.toList.head?.getD 48 == 48) && decide ((a0.size : Int) ≤ a1))) := ⟨by unfold numberB; rw [← toList_data, h0', Bool.false_or]⟩
      clear h0
      go_enter Tryd.func18, Tryd.ntmps18
      go_wp2
      go_loopw [6] (fun v w' => ∃ pos : Nat, w' = w.iter a0 pos ∧ pos ≤ a0.size ∧ Aside0 (∀ j (h : j < a0.size), j < pos → okd a0[j])) (fun _ w' => a0.size - w'.iterPos w.heap.size)
      case atStart => exact ⟨0, rfl, by omega, ⟨fun j _ hj => absurd hj (by omega)⟩⟩
      case round =>
        obtain ⟨pos, rfl, hle, HN⟩ := hrel
        by_cases hp : pos < a0.size
        · obtain ⟨k1, k2⟩ := decd a0 pos hp
          by_cases hb : okd a0[pos]
          · obtain ⟨e1, e2⟩ := k1 hb
            have hnx : ∀ ty, (Instr.next (.pointer (some ⟨w.heap.size, 0, none⟩)) true ty).run Tryd.prog (w.iter a0 pos) = .ok (.tuple #[.bool true, .int .i64 pos, .int .i32 (a0[pos].toNat : Int)]) (w.iter a0 (pos + 1)) := fun ty => by
              rw [run_next_any w a0 pos ty hp, e1, e2]
            have HB := Lib.hid hb
            have g1 : 48 ≤ ((a0[pos].toNat : Nat) : Int) := by have := hb.1; omega
            have g2 : ((a0[pos].toNat : Nat) : Int) ≤ 57 := by have := hb.2; omega
            clear hb k1 k2 e1 e2
            generalize ((a0[pos].toNat : Nat) : Int) = c at hnx g1 g2
            have q1 : decide (c < 48) = false := decide_eq_false (by omega)
            have q2 : decide (57 < c) = false := decide_eq_false (by omega)
            go_wp2
            go_roundw
            case rel => exact ⟨pos + 1, rfl, by omega, ⟨fun j h hj => (Nat.lt_succ_iff_lt_or_eq.1 hj).elim (HN.out j h) (fun e => by subst e; exact HB.out)⟩⟩
            case measure => simp; omega
          · have hnx : ∀ ty, (Instr.next (.pointer (some ⟨w.heap.size, 0, none⟩)) true ty).run Tryd.prog (w.iter a0 pos) = _ := fun ty => run_next_any w a0 pos ty hp
            have g1 := k2 hb
            have HF : Aside0 (numberB a0 a1 = false) := ⟨by rw [HR.out, digB_no a0 pos hp hb]; rfl⟩
            clear k1 k2 hb
            have g2 : ((Utf8.decode a0 pos).1 : Int) < 48 ∨ 57 < ((Utf8.decode a0 pos).1 : Int) := by omega
            clear g1
            generalize ((Utf8.decode a0 pos).1 : Int) = c at hnx g2
            by_cases h3 : c < 48
            · have q1 : decide (c < 48) = true := decide_eq_true h3
              go_wp2
              go_ret
              exact ⟨by rw [HF.out]; rfl, below_alloc (Below.refl _ _) _⟩
            · have h4 : 57 < c := by omega
              have q1 : decide (c < 48) = false := decide_eq_false h3
              have q2 : decide (57 < c) = true := decide_eq_true h4
              go_wp2
              go_ret
              exact ⟨by rw [HF.out]; rfl, below_alloc (Below.refl _ _) _⟩
        · have hnx : ∀ ty, (Instr.next (.pointer (some ⟨w.heap.size, 0, none⟩)) true ty).run Tryd.prog (w.iter a0 pos) = _ := fun ty => run_next_end w a0 pos ty hp
          have HF : Aside0 (numberB a0 a1 = (!(a0.data.toList.head?.getD 48 == 48) && decide ((a0.size : Int) ≤ a1))) := ⟨by rw [HR.out, digB_yes a0 (fun j h => HN.out j h (by omega)), Bool.true_and]⟩
          by_cases he : a0.size = 0
          · have hz : a0.toList = [] := by rw [toList_data, ← List.length_eq_zero_iff, slen, he]
            have HF2 : Aside0 (numberB a0 a1 = false) := ⟨by rw [HF.out, ← toList_data, hz]; rfl⟩
            have q1 : (a0.toList != []) = false := by rw [hz]; rfl
            have q2 : (!a0.toList.isEmpty) = false := by rw [hz]; rfl
            clear h0' h1 he HF
            go_wp2
            go_ret
            exact ⟨by rw [HF2.out]; rfl, below_alloc (Below.refl _ _) _⟩
          · have hz : ¬ a0.toList = [] := by rw [toList_data, ← List.length_eq_zero_iff, slen]; exact he
            have q1 : (a0.toList != []) = true := bne_iff_ne.2 hz
            have q2 : (!a0.toList.isEmpty) = true := by cases h : a0.toList with | nil => exact absurd h hz | cons _ _ => rfl
            have q3 : 0 < a0.size := by omega
            have q4 := bt_at a0 0
            have hH : a0.data.toList.head?.getD 48 = a0[0] := by rw [List.head?_eq_getElem?, sdata a0 0 q3]; rfl
            by_cases h5 : a0[0] = 48
            · have HF2 : Aside0 (numberB a0 a1 = false) := ⟨by rw [HF.out, hH, h5]; rfl⟩
              have q5 : ((a0[0].toNat : Nat) : Int) = 48 := by rw [h5]; rfl
              have q6 : (((a0[0].toNat : Nat) : Int) != 48) = false := by rw [q5]; rfl
              clear h0' h1 he HF hz hH h5
              go_wp2
              go_ret
              exact ⟨by rw [HF2.out]; rfl, below_alloc (Below.refl _ _) _⟩
            · have q5 : ¬ ((a0[0].toNat : Nat) : Int) = 48 := fun e => h5 (UInt8.toNat_inj.1 (show a0[0].toNat = 48 from by omega))
              have q6 : (((a0[0].toNat : Nat) : Int) != 48) = true := bne_iff_ne.2 q5
              have q7 : (a0[0] == 48) = false := beq_eq_false_iff_ne.2 h5
              by_cases h6 : (a0.size : Int) ≤ a1
              · have HF2 : Aside0 (numberB a0 a1 = true) := ⟨by rw [HF.out, hH, q7, decide_eq_true h6]; rfl⟩
                have q8 : decide ((a0.size : Int) ≤ a1) = true := decide_eq_true h6
                clear h0' h1 he HF hz hH h5 q7 h6
                go_wp2
                go_ret
                exact ⟨by rw [HF2.out]; rfl, below_alloc (Below.refl _ _) _⟩
              · have HF2 : Aside0 (numberB a0 a1 = false) := ⟨by rw [HF.out, hH, q7, decide_eq_false h6]; rfl⟩
                have q8 : decide ((a0.size : Int) ≤ a1) = false := decide_eq_false h6
                clear h0' h1 he HF hz hH h5 q7 h6
                go_wp2
                go_ret
                exact ⟨by rw [HF2.out]; rfl, below_alloc (Below.refl _ _) _⟩
  · rw [if_neg c1] at h; cases h
end Go.Proofs.YtfgjfkocbennnaaDoor.Q
