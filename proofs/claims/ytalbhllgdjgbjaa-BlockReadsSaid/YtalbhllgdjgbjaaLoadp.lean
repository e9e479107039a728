import Derived.Test.YtalbhllgdjgbjaaNext
import Derived.Test.YtalbhllgdjgbjaaSeal
import Derived.Test.YtalbhllgdjgbjaaQ22
import Derived.Test.YtalbhllgdjgbjaaQ24
import Derived.Laws.BitsAllLaws
namespace Go.Proofs.Ytalbhllgdjgbjaa.Q
open Go.RowKit Go.Proofs.YtalbhllgdjgbjaaW.PrintWords Go.Proofs.YtalbhllgdjgbjaaW.PrintLast Go.Proofs.YtalbhllgdjgbjaaW.PrintMore
set_option linter.unusedVariables false
set_option linter.unusedSimpArgs false



def valueB (s : ByteArray) : Nat := ((bt s 0).toNat * 256 + (bt s 1).toNat) * 65536 + ((bt s 2).toNat * 256 + (bt s 3).toNat)
theorem or_add (a b : Nat) (k : Nat) (hb : b < 2 ^ k) : a * 2 ^ k ||| b = a * 2 ^ k + b := by
  rw [Nat.mul_comm]; exact (Nat.two_pow_add_eq_or_of_lt hb a).symm
set_option maxRecDepth 1000000 in
theorem block_of_val (s : ByteArray) (h : 4 ≤ s.size) : block_of.f s = some (valueB s : Int) := by
  unfold block_of.f valueB
  rw [if_pos (by omega), if_pos (by omega), if_pos (by omega), if_pos (by omega)]
  have h0 := bt_range s 0
  have h1 := bt_range s 1
  have h2 := bt_range s 2
  have h3 := bt_range s 3
  generalize bt s 0 = b0 at *
  generalize bt s 1 = b1 at *
  generalize bt s 2 = b2 at *
  generalize bt s 3 = b3 at *
  obtain ⟨n0, rfl⟩ := Int.eq_ofNat_of_zero_le h0.1
  obtain ⟨n1, rfl⟩ := Int.eq_ofNat_of_zero_le h1.1
  obtain ⟨n2, rfl⟩ := Int.eq_ofNat_of_zero_le h2.1
  obtain ⟨n3, rfl⟩ := Int.eq_ofNat_of_zero_le h3.1
  have e0 : (n0 : Int) % 4294967296 * 16777216 % 4294967296 = ((n0 * 16777216 : Nat) : Int) := by omega
  have e1 : (n1 : Int) % 4294967296 * 65536 % 4294967296 = ((n1 * 65536 : Nat) : Int) := by omega
  have e2 : (n2 : Int) % 4294967296 * 256 % 4294967296 = ((n2 * 256 : Nat) : Int) := by omega
  have e3 : (n3 : Int) % 4294967296 = ((n3 : Nat) : Int) := by omega
  rw [e0, e1, e2, e3]
  have o1 : n0 * 16777216 ||| n1 * 65536 = (n0 * 256 + n1) * 65536 := by
    have := or_add n0 (n1 * 65536) 24 (by omega)
    rw [show (2 : Nat) ^ 24 = 16777216 from by decide] at this
    omega
  have o2 : (n0 * 256 + n1) * 65536 ||| n2 * 256 = (n0 * 256 + n1) * 65536 + n2 * 256 := by
    have := or_add (n0 * 256 + n1) (n2 * 256) 16 (by omega)
    rw [show (2 : Nat) ^ 16 = 65536 from by decide] at this
    exact this
  have o3 : (n0 * 256 + n1) * 65536 + n2 * 256 ||| n3 = (n0 * 256 + n1) * 65536 + n2 * 256 + n3 := by
    have := or_add ((n0 * 256 + n1) * 256 + n2) n3 8 (by omega)
    rw [show (2 : Nat) ^ 8 = 256 from by decide] at this
    rw [show ((n0 * 256 + n1) * 65536 + n2 * 256) = ((n0 * 256 + n1) * 256 + n2) * 256 from by omega]
    exact this
  rw [u32_or_nat _ _ (by omega) (by omega), o1, u32_or_nat _ _ (by omega) (by omega), o2, u32_or_nat _ _ (by omega) (by omega), o3]
  have ef : (n0 * 256 + n1) * 65536 + n2 * 256 + n3 = ((n0 : Int).toNat * 256 + (n1 : Int).toNat) * 65536 + ((n2 : Int).toNat * 256 + (n3 : Int).toNat) := by simp only [Int.toNat_natCast]; omega
  exact congrArg (fun x : Nat => some (x : Int)) ef
set_option maxRecDepth 1000000 in
theorem ref_value_val (s : ByteArray) (h : 4 ≤ s.size) : quipuref10_value.f s = some (valueB s : Int) := by
  unfold quipuref10_value.f valueB
  rw [if_pos (by omega), if_pos (by omega), if_pos (by omega), if_pos (by omega)]
  have h0 := bt_range s 0
  have h1 := bt_range s 1
  have h2 := bt_range s 2
  have h3 := bt_range s 3
  generalize bt s 0 = b0 at *
  generalize bt s 1 = b1 at *
  generalize bt s 2 = b2 at *
  generalize bt s 3 = b3 at *
  have w1 : ∀ x : Int, 0 ≤ x → x < 9223372036854775808 → wrap64 x = x := fun x h0 h1 => by unfold wrap64; omega
  rw [w1 b0 (by omega) (by omega), w1 b1 (by omega) (by omega), w1 b2 (by omega) (by omega), w1 b3 (by omega) (by omega), w1 (b0 * 16777216) (by omega) (by omega), w1 (b1 * 65536) (by omega) (by omega), w1 (b2 * 256) (by omega) (by omega),
    w1 (b0 * 16777216 + b1 * 65536) (by omega) (by omega), w1 (b0 * 16777216 + b1 * 65536 + b2 * 256) (by omega) (by omega), w1 _ (by omega) (by omega)]
  have ef : b0 * 16777216 + b1 * 65536 + b2 * 256 + b3 = (((b0.toNat * 256 + b1.toNat) * 65536 + (b2.toNat * 256 + b3.toNat) : Nat) : Int) := by omega
  exact congrArg some ef
theorem of_calls (s : ByteArray) (w : World) (h : 4 ≤ s.size) : Calls Try.prog 34 #[.string s] w fun e w' => e = .returned (.int .u32 (valueB s : Int)) ∧ Drawn0 w w' :=
  block_of.calls s _ w (block_of_val s h)
theorem value_calls (s : ByteArray) (w : World) (h : 4 ≤ s.size) : Calls Try.prog 35 #[.string s] w fun e w' => e = .returned (.int .i64 (valueB s : Int)) ∧ Drawn0 w w' :=
  quipuref10_value.calls s _ w (ref_value_val s h)
theorem valueB_lt (s : ByteArray) : valueB s < 4294967296 := by
  unfold valueB
  have h0 := bt_range s 0
  have h1 := bt_range s 1
  have h2 := bt_range s 2
  have h3 := bt_range s 3
  omega

/-! ### What is loaded -/
def QPU : ByteArray := ⟨#[81, 80, 85, 49]⟩
def loadLoop (img : ByteArray) (fs : List S40) (want : Nat) : Nat → Int → ByteArray → ByteArray × Int × Int
  | 0, n, hs => (hs, 0, n)
  | k + 1, n, hs => if hs.size < want then (if (nextP img fs n hs).2 ≠ 0 then (⟨#[]⟩, (nextP img fs n hs).2, nextN img n hs) else loadLoop img fs want k (nextN img n hs) (nextP img fs n hs).1) else (hs, 0, n)
def headOk (h : ByteArray) : Prop := h.extract 0 4 = QPU ∧ valueB (h.extract 12 16) = crc (h.extract 0 12)
instance (h : ByteArray) : Decidable (headOk h) := by unfold headOk; infer_instance
def bodyN (h : ByteArray) : Nat := valueB (h.extract 4 16)
def loadP (img : ByteArray) (fs : List S40) (n : Int) : ByteArray × Int × Int :=
  if img.size < 16 then (⟨#[]⟩, 105, n)
  else if (nextP img fs n ⟨#[]⟩).2 ≠ 0 then (⟨#[]⟩, (nextP img fs n ⟨#[]⟩).2, nextN img n ⟨#[]⟩)
  else if ¬ headOk ((nextP img fs n ⟨#[]⟩).1.extract 0 16) then (⟨#[]⟩, 105, nextN img n ⟨#[]⟩)
  else if 65536 < bodyN ((nextP img fs n ⟨#[]⟩).1.extract 0 16) ∨ img.size < bodyN ((nextP img fs n ⟨#[]⟩).1.extract 0 16) + 16 then (⟨#[]⟩, 106, nextN img n ⟨#[]⟩)
  else
    let N := bodyN ((nextP img fs n ⟨#[]⟩).1.extract 0 16)
    let q := loadLoop img fs (16 + N) (16 + N + 1) (nextN img n ⟨#[]⟩) (nextP img fs n ⟨#[]⟩).1
    if q.2.1 ≠ 0 then (⟨#[]⟩, q.2.1, q.2.2)
    else if crc (q.1.extract 16 (16 + N)) ≠ valueB ((nextP img fs n ⟨#[]⟩).1.extract 8 16) then (⟨#[]⟩, 104, q.2.2)
    else (q.1.extract 16 (16 + N), 0, q.2.2)
end Go.Proofs.Ytalbhllgdjgbjaa.Q
