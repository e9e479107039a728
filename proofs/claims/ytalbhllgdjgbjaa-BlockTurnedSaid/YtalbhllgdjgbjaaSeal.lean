import Derived.Test.YtalbhllgdjgbjaaCrc
import Derived.Test.YtalbhllgdjgbjaaRread
import Derived.Test.YtalbhllgdjgbjaaQ3
import Derived.Test.YtalbhllgdjgbjaaQ6
namespace Go.Proofs.Ytalbhllgdjgbjaa.Q
open Go.RowKit Go.Proofs.YtalbhllgdjgbjaaW.PrintWords Go.Proofs.YtalbhllgdjgbjaaW.PrintLast Go.Proofs.YtalbhllgdjgbjaaW.PrintMore
set_option linter.unusedVariables false
set_option linter.unusedSimpArgs false

def four (n : Nat) : ByteArray := strOfNums [((n / 16777216 % 256 : Nat) : Int), ((n / 65536 % 256 : Nat) : Int), ((n / 256 % 256 : Nat) : Int), ((n % 256 : Nat) : Int)]
theorem four_size (n : Nat) : (four n).size = 4 := strOfNums_size _
theorem four_calls (n : Nat) (w : World) : Calls Try.prog 25 #[.int .u32 (n : Int)] w fun e w' => e = .returned (.string (four n)) ∧ Below w.heap.size w w' :=
  block_four.calls n _ w (by unfold block_four.f four; rfl)
theorem rfour_calls (n : Nat) (hn : n < 4294967296) (w : World) : Calls Try.prog 26 #[.int .i64 (n : Int)] w fun e w' => e = .returned (.string (four n)) ∧ Below w.heap.size w w' :=
  quipuref10_four.calls n _ w (by
    unfold quipuref10_four.f four
    have h1 : Int.tdiv (n : Int) 16777216 = ((n / 16777216 : Nat) : Int) := by rw [Int.tdiv_eq_ediv_of_nonneg (by omega)]; omega
    have h2 : Int.tdiv (n : Int) 65536 = ((n / 65536 : Nat) : Int) := by rw [Int.tdiv_eq_ediv_of_nonneg (by omega)]; omega
    have h3 : Int.tdiv (n : Int) 256 = ((n / 256 : Nat) : Int) := by rw [Int.tdiv_eq_ediv_of_nonneg (by omega)]; omega
    have w1 : ∀ m : Nat, m < 4294967296 → wrap64 (m : Int) = (m : Int) := fun m hm => by unfold wrap64; omega
    have t1 : ∀ m : Nat, Int.tmod (m : Int) 256 = ((m % 256 : Nat) : Int) := fun m => by rw [Int.tmod_eq_emod_of_nonneg (by omega)]; omega
    rw [h1, h2, h3, w1 _ (by omega), w1 _ (by omega), w1 _ (by omega), t1, t1, t1]
    have e : ∀ m : Nat, ((m % 256 : Nat) : Int) % 256 = ((m % 256 : Nat) : Int) := fun m => by omega
    rw [e, e, e]; rfl)
def headB (s : ByteArray) : ByteArray := (⟨#[81, 80, 85, 49]⟩ : ByteArray) ++ four s.size ++ four (crc s)
def sealB (s : ByteArray) : ByteArray := headB s ++ four (crc (headB s)) ++ s
theorem q4_size : (⟨#[81, 80, 85, 49]⟩ : ByteArray).size = 4 := rfl
theorem headB_size (s : ByteArray) : (headB s).size = 12 := by unfold headB; rw [ByteArray.size_append, ByteArray.size_append, four_size, four_size, q4_size]
theorem sealB_size (s : ByteArray) : (sealB s).size = s.size + 16 := by unfold sealB; rw [ByteArray.size_append, ByteArray.size_append, four_size, headB_size]; omega

theorem seal_long (s : ByteArray) (w : World) (h : 65536 < s.size) :
    Calls Try.prog 9 #[.string s] w fun e w' => e = .returned (.tuple #[.string ⟨#[]⟩, .int .i64 106]) ∧ Below w.heap.size w w' := by
  have d1 : decide (65536 < (s.size : Int)) = true := decide_eq_true (by omega)
  have d2 : decide (65536 < s.size) = true := decide_eq_true h
  go_enter Try.func9, Try.ntmps9
  go_wp2
  go_ret2
  exact ⟨rfl, Below.refl _ _⟩
theorem rseal_long (s : ByteArray) (w : World) (h : 65536 < s.size) :
    Calls Try.prog 10 #[.string s] w fun e w' => e = .returned (.tuple #[.string ⟨#[]⟩, .int .i64 106]) ∧ Below w.heap.size w w' := by
  have d1 : decide (65536 < (s.size : Int)) = true := decide_eq_true (by omega)
  have d2 : decide (65536 < s.size) = true := decide_eq_true h
  go_enter Try.func10, Try.ntmps10
  go_wp2
  go_ret2
  exact ⟨rfl, Below.refl _ _⟩
theorem u32c (n : Nat) (h : n < 4294967296) : (n : Int) % 4294967296 = (n : Int) := by omega
set_option maxHeartbeats 1000000 in
theorem seal_calls (s : ByteArray) (w : World) (h : s.size ≤ 65536) :
    Calls Try.prog 9 #[.string s] w fun e w' => e = .returned (.tuple #[.string (sealB s), .int .i64 0]) ∧ Below w.heap.size w w' := by
  have d1 : decide (65536 < (s.size : Int)) = false := decide_eq_false (by omega)
  have d2 : decide (65536 < s.size) = false := decide_eq_false (by omega)
  have f1 := four_size s.size
  have f2 := four_size (crc s)
  have f3 := four_size (crc (headB s))
  have k1 := fun W => run_sadd W (⟨#[81, 80, 85, 49]⟩ : ByteArray) (four s.size) (by rw [q4_size]; omega)
  have k2 := fun W => run_sadd W ((⟨#[81, 80, 85, 49]⟩ : ByteArray) ++ four s.size) (four (crc s)) (by rw [ByteArray.size_append, q4_size]; omega)
  have k3 := fun W => run_sadd W (headB s) (four (crc (headB s))) (by rw [headB_size]; omega)
  have k4 := fun W => run_sadd W (headB s ++ four (crc (headB s))) s (by rw [ByteArray.size_append, headB_size]; omega)
  have e1 := u32c s.size (by omega)
  have H1 : Aside0 (((⟨#[81, 80, 85, 49]⟩ : ByteArray) ++ four s.size) ++ four (crc s) = headB s) := ⟨rfl⟩
  have HS : Aside0 (headB s ++ four (crc (headB s)) ++ s = sealB s) := ⟨rfl⟩
  clear f1 f2 f3
  go_enter Try.func9, Try.ntmps9
  go_wp2_with fail
  refine (four_calls s.size _).mono ?_
  rintro e w1 ⟨rfl, hb1⟩
  go_wp2_with fail
  refine (sum_calls s _ (by omega)).mono ?_
  rintro e w2 ⟨rfl, hb2⟩
  go_wp2_with fail
  refine (four_calls (crc s) _).mono ?_
  rintro e w3 ⟨rfl, hb3⟩
  go_wp2_with fail
  rw [H1.out]
  refine (sum_calls (headB s) _ (by rw [headB_size]; omega)).mono ?_
  rintro e w4 ⟨rfl, hb4⟩
  go_wp2_with fail
  refine (four_calls (crc (headB s)) _).mono ?_
  rintro e w5 ⟨rfl, hb5⟩
  go_wp2
  go_ret2
  rw [HS.out]
  exact ⟨rfl, below_step (below_step (below_step (below_step hb1 hb2.below) hb3) hb4.below) hb5⟩
set_option maxHeartbeats 1000000 in
theorem rseal_calls (s : ByteArray) (w : World) (h : s.size ≤ 65536) :
    Calls Try.prog 10 #[.string s] w fun e w' => e = .returned (.tuple #[.string (sealB s), .int .i64 0]) ∧ Below w.heap.size w w' := by
  have d1 : decide (65536 < (s.size : Int)) = false := decide_eq_false (by omega)
  have d2 : decide (65536 < s.size) = false := decide_eq_false (by omega)
  have f1 := four_size s.size
  have f2 := four_size (crc s)
  have f3 := four_size (crc (headB s))
  have k1 := fun W => run_sadd W (⟨#[81, 80, 85, 49]⟩ : ByteArray) (four s.size) (by rw [q4_size]; omega)
  have k2 := fun W => run_sadd W ((⟨#[81, 80, 85, 49]⟩ : ByteArray) ++ four s.size) (four (crc s)) (by rw [ByteArray.size_append, q4_size]; omega)
  have k3 := fun W => run_sadd W (headB s) (four (crc (headB s))) (by rw [headB_size]; omega)
  have k4 := fun W => run_sadd W (headB s ++ four (crc (headB s))) s (by rw [ByteArray.size_append, headB_size]; omega)
  have e1 := u32c s.size (by omega)
  have c1 := crc_lt s
  have c2 := crc_lt (headB s)
  have H1 : Aside0 (((⟨#[81, 80, 85, 49]⟩ : ByteArray) ++ four s.size) ++ four (crc s) = headB s) := ⟨rfl⟩
  have HS : Aside0 (headB s ++ four (crc (headB s)) ++ s = sealB s) := ⟨rfl⟩
  clear f1 f2 f3
  go_enter Try.func10, Try.ntmps10
  go_wp2_with fail
  refine (rfour_calls s.size (by omega) _).mono ?_
  rintro e w1 ⟨rfl, hb1⟩
  go_wp2_with fail
  refine (rsum_calls s _ (by omega)).mono ?_
  rintro e w2 ⟨rfl, hb2⟩
  go_wp2_with fail
  refine (rfour_calls (crc s) c1 _).mono ?_
  rintro e w3 ⟨rfl, hb3⟩
  go_wp2_with fail
  rw [H1.out]
  refine (rsum_calls (headB s) _ (by rw [headB_size]; omega)).mono ?_
  rintro e w4 ⟨rfl, hb4⟩
  go_wp2_with fail
  refine (rfour_calls (crc (headB s)) c2 _).mono ?_
  rintro e w5 ⟨rfl, hb5⟩
  go_wp2
  go_ret2
  rw [HS.out]
  exact ⟨rfl, below_step (below_step (below_step (below_step hb1 hb2.below) hb3) hb4.below) hb5⟩
end Go.Proofs.Ytalbhllgdjgbjaa.Q
