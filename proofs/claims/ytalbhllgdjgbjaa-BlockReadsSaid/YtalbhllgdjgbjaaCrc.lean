import Derived.Test.YtalbhllgdjgbjaaQ2
import Derived.Test.YtalbhllgdjgbjaaQ5
import Derived.Laws.BitsAllLaws
namespace Go.Proofs.Ytalbhllgdjgbjaa.Q
open Go.RowKit Go.Proofs.YtalbhllgdjgbjaaW.PrintWords Go.Proofs.YtalbhllgdjgbjaaW.PrintLast Go.Proofs.YtalbhllgdjgbjaaW.PrintMore
set_option linter.unusedVariables false
set_option linter.unusedSimpArgs false

def stepB (r : Nat) : Nat := if r % 2 = 1 then (r / 2) ^^^ 3988292384 else r / 2
def steps : Nat → Nat → Nat
  | 0, r => r
  | n + 1, r => steps n (stepB r)
def crcS (l : List UInt8) (r : Nat) : Nat := l.foldl (fun r b => steps 8 (r ^^^ b.toNat)) r
def crc (s : ByteArray) : Nat := 4294967295 ^^^ crcS s.data.toList 4294967295

theorem stepB_lt {r : Nat} (h : r < 4294967296) : stepB r < 4294967296 := by
  unfold stepB
  split
  · exact Nat.xor_lt_two_pow (n := 32) (by omega) (by omega)
  · omega
theorem steps_lt : ∀ (n : Nat) {r : Nat}, r < 4294967296 → steps n r < 4294967296
  | 0, _, h => h
  | n + 1, _, h => steps_lt n (stepB_lt h)
theorem xor_lt {a b : Nat} (h : a < 4294967296) (h2 : b < 4294967296) : a ^^^ b < 4294967296 := Nat.xor_lt_two_pow (n := 32) h h2
theorem crcS_lt : ∀ (l : List UInt8) {r : Nat}, r < 4294967296 → crcS l r < 4294967296
  | [], _, h => h
  | b :: l, _, h => crcS_lt l (steps_lt 8 (xor_lt h (by have := b.toNat_lt; omega)))
theorem crc_lt (s : ByteArray) : crc s < 4294967296 := xor_lt (by omega) (crcS_lt _ (by omega))
theorem crcS_snoc (l : List UInt8) (b : UInt8) (r : Nat) : crcS (l ++ [b]) r = steps 8 (crcS l r ^^^ b.toNat) := by
  simp [crcS]

theorem w64s (n : Nat) (h : n < 4611686018427387904) : wrap64 ((n : Int) + 1) = ((n + 1 : Nat) : Int) := by unfold wrap64; omega

theorem block_l1_eq (k : Nat) (s : ByteArray) (r n i j : Int) : block_Sum.l1 (k + 1) s r n i j =
    if j < 8 then (if (Go.bits .and .u32 r 1) = 1 then (block_Sum.l1 k s (Go.bits .xor .u32 (r / 2) 3988292384) n i (wrap64 (j + 1))) else (block_Sum.l1 k s (r / 2) n i (wrap64 (j + 1)))) else (block_Sum.l0 k s r n (wrap64 (i + 1))) := by
  rw [block_Sum.l1]
theorem block_l0_eq (k : Nat) (s : ByteArray) (r n i : Int) : block_Sum.l0 (k + 1) s r n i =
    if i < n then (if 0 ≤ i then (if i < (s.size : Int) then (block_Sum.l1 k s (Go.bits .xor .u32 r ((bt s i) % 4294967296)) n i 0) else (none)) else (none)) else (some (Go.bits .xor .u32 4294967295 r)) := by
  rw [block_Sum.l0]

theorem block_l1 (s : ByteArray) (n i : Int) (k : Nat) : ∀ (m : Nat) (r : Nat), m ≤ 8 → r < 4294967296 →
    block_Sum.l1 (k + m + 1) s (r : Int) n i ((8 - m : Nat) : Int) = block_Sum.l0 k s (steps m r : Nat) n (wrap64 (i + 1))
  | 0, r, _, _ => by
    show block_Sum.l1 (k + 1) _ _ _ _ _ = _
    rw [block_l1_eq, if_neg (by omega)]; rfl
  | m + 1, r, hm, hr => by
    show block_Sum.l1 ((k + m + 1) + 1) _ _ _ _ _ = _
    rw [block_l1_eq (k + m + 1), if_pos (by omega)]
    have e1 : Go.bits .and .u32 (r : Int) 1 = ((r &&& 1 : Nat) : Int) := u32_and_nat r 1 hr (by omega)
    have e2 : wrap64 (((8 - (m + 1) : Nat) : Int) + 1) = ((8 - m : Nat) : Int) := by rw [w64s _ (by omega)]; congr 1; omega
    have e3 : (r : Int) / 2 = ((r / 2 : Nat) : Int) := by omega
    have e4 : Go.bits .xor .u32 ((r / 2 : Nat) : Int) 3988292384 = ((r / 2 ^^^ 3988292384 : Nat) : Int) := u32_xor_nat (r / 2) 3988292384 (by omega) (by omega)
    have e5 : r &&& 1 = r % 2 := Nat.and_one_is_mod r
    have ih := block_l1 s n i k m (stepB r) (by omega) (stepB_lt hr)
    rw [e1, e2, e3, e4, e5]
    by_cases h : r % 2 = 1
    · rw [if_pos (by omega)]
      rw [show stepB r = r / 2 ^^^ 3988292384 from if_pos h] at ih
      rw [ih]; simp only [steps]; rw [show stepB r = r / 2 ^^^ 3988292384 from if_pos h]
    · rw [if_neg (by omega)]
      rw [show stepB r = r / 2 from if_neg h] at ih
      rw [ih]; simp only [steps]; rw [show stepB r = r / 2 from if_neg h]

theorem bt_nat (s : ByteArray) (i : Nat) (h : i < s.size) : bt s (i : Int) = ((s.data.toList[i]'(by rw [Array.length_toList]; exact h)).toNat : Int) := by
  unfold bt; rw [dif_pos (by simpa using h)]; rfl
theorem drop_cons (s : ByteArray) (i : Nat) (h : i < s.size) : s.data.toList.drop i = (s.data.toList[i]'(by rw [Array.length_toList]; exact h)) :: s.data.toList.drop (i + 1) :=
  List.drop_eq_getElem_cons (by rw [Array.length_toList]; exact h)

theorem block_l0 (s : ByteArray) (hs : s.size < 4611686018427387904) : ∀ (d i : Nat) (r : Nat), i + d = s.size → r < 4294967296 →
    block_Sum.l0 (10 * d + 1) s (r : Int) (s.size : Int) (i : Int) = some ((4294967295 ^^^ crcS (s.data.toList.drop i) r : Nat) : Int)
  | 0, i, r, hi, hr => by
    show block_Sum.l0 (0 + 1) _ _ _ _ = _
    rw [block_l0_eq, if_neg (by omega), List.drop_of_length_le (by rw [Array.length_toList]; exact (show s.size ≤ i by omega))]
    exact congrArg some (u32_xor_nat 4294967295 r (by omega) hr)
  | d + 1, i, r, hi, hr => by
    rw [show 10 * (d + 1) + 1 = (10 * d + 1 + 8 + 1) + 1 from by omega]
    rw [block_l0_eq (10 * d + 1 + 8 + 1), if_pos (by omega), if_pos (by omega), if_pos (by omega), bt_nat s i (by omega), drop_cons s i (by omega)]
    generalize s.data.toList[i]'(by rw [Array.length_toList]; show i < s.size; omega) = b
    have hb := b.toNat_lt
    have e1 : ((b.toNat : Int)) % 4294967296 = ((b.toNat : Nat) : Int) := by omega
    rw [e1, u32_xor_nat r b.toNat hr (by omega)]
    have h := block_l1 s (s.size : Int) (i : Int) (10 * d + 1) 8 (r ^^^ b.toNat) (by omega) (xor_lt hr (by omega))
    rw [show ((8 - 8 : Nat) : Int) = 0 from rfl] at h
    rw [h, w64s i (by omega), block_l0 s hs d (i + 1) _ (by omega) (steps_lt 8 (xor_lt hr (by omega)))]
    rfl
theorem block_sum (s : ByteArray) (hs : s.size < 4611686018427387904) : block_Sum.f (10 * s.size + 1) s = some (crc s : Int) := by
  have h := block_l0 s hs s.size 0 4294967295 (by omega) (by omega)
  exact h

theorem ref_l1_eq (k : Nat) (s : ByteArray) (r i j : Int) : quipuref10_Sum.l1 (k + 1) s r i j =
    if j < 8 then (if 0 ≤ i then (if i < (s.size : Int) then (if 0 ≤ j then (if (Int.tmod r 2) = (((shr .u8 (bt s i) j) % 4294967296) % 2) then (quipuref10_Sum.l1 k s ((Int.tdiv r 2) % 4294967296) i (wrap64 (j + 1))) else (quipuref10_Sum.l1 k s (Go.bits .xor .u32 ((Int.tdiv r 2) % 4294967296) 3988292384) i (wrap64 (j + 1)))) else (none)) else (none)) else (none)) else (quipuref10_Sum.l0 k s r (wrap64 (i + 1))) := by
  rw [quipuref10_Sum.l1]
theorem ref_l0_eq (k : Nat) (s : ByteArray) (r i : Int) : quipuref10_Sum.l0 (k + 1) s r i =
    if i < (s.size : Int) then (quipuref10_Sum.l1 k s r i 0) else (some ((4294967295 - r) % 4294967296)) := by
  rw [quipuref10_Sum.l0]
theorem xor_odd (a b : Nat) : ((a ^^^ b) % 2 = 1) ↔ ¬ (a % 2 = b % 2) := by
  have h := Nat.testBit_xor a b 0
  simp only [Nat.testBit_zero] at h
  by_cases hx : (a ^^^ b) % 2 = 1 <;> by_cases ha : a % 2 = 1 <;> by_cases hb : b % 2 = 1 <;> simp only [hx, ha, hb, decide_true, decide_false] at h <;> first | exact absurd h (by decide) | (constructor <;> intro _ <;> omega)
theorem xor_half (a b : Nat) : (a ^^^ b) / 2 = a / 2 ^^^ b / 2 := by
  have h := Nat.shiftRight_xor_distrib (a := a) (b := b) (i := 1)
  simpa [Nat.shiftRight_eq_div_pow] using h
theorem stepB_xor (r c : Nat) : stepB (r ^^^ c) = (if r % 2 = c % 2 then r / 2 else r / 2 ^^^ 3988292384) ^^^ (c / 2) := by
  unfold stepB
  by_cases h : r % 2 = c % 2
  · rw [if_neg (by rw [xor_odd]; exact fun hn => hn h), if_pos h, xor_half]
  · rw [if_pos (by rw [xor_odd]; exact h), if_neg h, xor_half, Nat.xor_assoc, Nat.xor_assoc, Nat.xor_comm (c / 2)]
theorem div_pow_step (b j : Nat) : b / 2 ^ j / 2 = b / 2 ^ (j + 1) := by rw [Nat.div_div_eq_div_mul, Nat.pow_succ]

theorem ref_l1 (s : ByteArray) (i : Nat) (hi : i < s.size) (b : Nat) (hb : bt s (i : Int) = (b : Int)) (hb2 : b < 256) (k : Nat) : ∀ (m : Nat) (r : Nat), m ≤ 8 → r < 4294967296 →
    quipuref10_Sum.l1 (k + m + 1) s (r : Int) (i : Int) ((8 - m : Nat) : Int) = quipuref10_Sum.l0 k s (steps m (r ^^^ b / 2 ^ (8 - m)) : Nat) (wrap64 ((i : Int) + 1)) := by
  intro m
  induction m with
  | zero =>
    intro r _ _
    rw [Nat.add_zero, ref_l1_eq, if_neg (by omega)]
    have : b / 2 ^ (8 - 0) = 0 := Nat.div_eq_of_lt (by rw [show (2 : Nat) ^ (8 - 0) = 256 from by decide]; exact hb2)
    rw [this, Nat.xor_zero]; simp only [steps]
  | succ m ih =>
    intro r hm hr
    rw [show k + (m + 1) + 1 = (k + m + 1) + 1 from by omega]
    have hj : 8 - m = 8 - (m + 1) + 1 := by omega
    have hj8 : 8 - (m + 1) ≤ 8 := by omega
    obtain ⟨j, hjj⟩ : ∃ j, 8 - (m + 1) = j := ⟨_, rfl⟩
    rw [hjj] at hj hj8 ⊢
    have hjlt : j < 8 := by omega
    have e0 : shr .u8 (bt s (i : Int)) (j : Int) = ((b / 2 ^ j : Nat) : Int) := by
      unfold shr; rw [hb]
      have : min ((j : Int)).toNat IntKind.u8.bits = j := by
        have : IntKind.u8.bits = 8 := rfl
        rw [this]; omega
      rw [this]; simp
    have hs := stepB_xor r (b / 2 ^ j)
    rw [div_pow_step, ← hj] at hs
    have hc : b / 2 ^ j < 256 := Nat.lt_of_le_of_lt (Nat.div_le_self _ _) hb2
    have d1 : (j : Int) < 8 := by omega
    have d2 : (0 : Int) ≤ (i : Int) := by omega
    have d3 : (i : Int) < (s.size : Int) := by omega
    have d4 : (0 : Int) ≤ (j : Int) := by omega
    have e1 : wrap64 ((j : Int) + 1) = ((8 - m : Nat) : Int) := by rw [w64s _ (by omega), hj]
    have e3 : Int.tdiv (r : Int) 2 % 4294967296 = ((r / 2 : Nat) : Int) := by rw [Int.tdiv_eq_ediv_of_nonneg (by omega)]; omega
    have e4 : Int.tmod (r : Int) 2 = ((r % 2 : Nat) : Int) := by rw [Int.tmod_eq_emod_of_nonneg (by omega)]; omega
    have e5 : Go.bits .xor .u32 ((r / 2 : Nat) : Int) 3988292384 = ((r / 2 ^^^ 3988292384 : Nat) : Int) := u32_xor_nat (r / 2) 3988292384 (by omega) (by omega)
    have l1 : r / 2 < 4294967296 := by omega
    have l2 : m ≤ 8 := by omega
    rw [ref_l1_eq (k + m + 1), if_pos d1, if_pos d2, if_pos d3, if_pos d4, e0, e1, e3, e4, e5]
    generalize b / 2 ^ j = c at hc hs
    have e6 : (c : Int) % 4294967296 % 2 = ((c % 2 : Nat) : Int) := by clear e0 e1 e3 e4 e5 hs; omega
    rw [e6]
    clear e0 e1 e3 e4 e5 e6
    by_cases h : r % 2 = c % 2
    · rw [if_pos (by exact_mod_cast h), ih (r / 2) l2 l1]
      rw [if_pos h] at hs
      simp only [steps]; rw [hs]
    · rw [if_neg (by exact_mod_cast h), ih (r / 2 ^^^ 3988292384) l2 (xor_lt l1 (by decide))]
      rw [if_neg h] at hs
      simp only [steps]; rw [hs]

theorem sub_xor (r : Nat) (hr : r < 4294967296) : ((4294967295 - (r : Int)) % 4294967296) = ((4294967295 ^^^ r : Nat) : Int) := by
  have h : 4294967295 ^^^ r = 4294967295 - r := by
    have := BitVec.toNat_not (x := BitVec.ofNat 32 r)
    have h2 := BitVec.not_def (x := BitVec.ofNat 32 r)
    have h3 : (~~~ BitVec.ofNat 32 r).toNat = (BitVec.allOnes 32 ^^^ BitVec.ofNat 32 r).toNat := by rw [h2]
    rw [this, BitVec.toNat_xor, BitVec.toNat_allOnes, BitVec.toNat_ofNat, Nat.mod_eq_of_lt hr, show (2 ^ 32 - 1 : Nat) = 4294967295 from by decide] at h3
    exact h3.symm
  omega

theorem ref_l0 (s : ByteArray) (hs : s.size < 4611686018427387904) : ∀ (d i : Nat) (r : Nat), i + d = s.size → r < 4294967296 →
    quipuref10_Sum.l0 (10 * d + 1) s (r : Int) (i : Int) = some ((4294967295 ^^^ crcS (s.data.toList.drop i) r : Nat) : Int)
  | 0, i, r, hi, hr => by
    show quipuref10_Sum.l0 (0 + 1) _ _ _ = _
    rw [ref_l0_eq, if_neg (by omega), List.drop_of_length_le (by rw [Array.length_toList]; exact (show s.size ≤ i by omega))]
    exact congrArg some (sub_xor r hr)
  | d + 1, i, r, hi, hr => by
    rw [show 10 * (d + 1) + 1 = (10 * d + 1 + 8 + 1) + 1 from by omega]
    rw [ref_l0_eq (10 * d + 1 + 8 + 1), if_pos (by omega), drop_cons s i (by omega)]
    have hbt := bt_nat s i (by omega)
    generalize s.data.toList[i]'(by rw [Array.length_toList]; show i < s.size; omega) = b at hbt
    have hb := b.toNat_lt
    have h := ref_l1 s i (by omega) b.toNat hbt hb (10 * d + 1) 8 r (by omega) hr
    rw [show ((8 - 8 : Nat) : Int) = 0 from rfl] at h
    rw [h, w64s i (by omega)]
    have e : r ^^^ b.toNat / 2 ^ (8 - 8) = r ^^^ b.toNat := by simp
    rw [e, ref_l0 s hs d (i + 1) _ (by omega) (steps_lt 8 (xor_lt hr (by omega)))]
    rfl
theorem ref_sum (s : ByteArray) (hs : s.size < 4611686018427387904) : quipuref10_Sum.f (10 * s.size + 1) s = some (crc s : Int) := by
  have h := ref_l0 s hs s.size 0 4294967295 (by omega) (by omega)
  exact h

theorem sum_calls (s : ByteArray) (w : World) (hs : s.size < 4611686018427387904) : Calls Try.prog 11 #[.string s] w fun e w' => e = .returned (.int .u32 (crc s : Int)) ∧ Drawn0 w w' :=
  block_Sum.calls _ s _ w (block_sum s hs)
theorem rsum_calls (s : ByteArray) (w : World) (hs : s.size < 4611686018427387904) : Calls Try.prog 12 #[.string s] w fun e w' => e = .returned (.int .u32 (crc s : Int)) ∧ Drawn0 w w' :=
  quipuref10_Sum.calls _ s _ w (ref_sum s hs)
end Go.Proofs.Ytalbhllgdjgbjaa.Q
