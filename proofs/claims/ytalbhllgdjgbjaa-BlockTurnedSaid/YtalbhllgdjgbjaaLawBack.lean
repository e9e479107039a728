import Derived.Test.YtalbhllgdjgbjaaSealp
import Derived.Test.YtalbhllgdjgbjaaFixed
import Derived.IntWalk
namespace Go.Proofs.Ytalbhllgdjgbjaa.Q
open Go.RowKit Go.Proofs.YtalbhllgdjgbjaaW.PrintWords Go.Proofs.YtalbhllgdjgbjaaW.PrintLast Go.Proofs.YtalbhllgdjgbjaaW.PrintMore
set_option linter.unusedVariables false
set_option linter.unusedSimpArgs false

theorem okFs_nil : okFs [] := fun k hk => absurd hk (by simp)
theorem bstr_eq (s : ByteArray) : (s.toList == s.toList) = true := by simp
theorem rc_cell (g : Nat) (n : Int) (w : World) (z : w.cell? ⟨g, 2, none⟩ = some (.int .i64 n)) :
    Calls Try.prog 20 #[.pointer (some ⟨g, 0, none⟩)] w fun e w' => e = .returned (.int .i64 n) ∧ w = w' := by
  go_enter Try.func20, Try.ntmps20
  go_wp2
  go_ret
  exact ⟨rfl, rfl⟩
theorem w64n (n : Nat) (h : n < 4611686018427387904) : wrap64 (n : Int) = (n : Int) := by unfold wrap64; omega

theorem mA1 (n : Nat) (h : n ≤ 65552) : wrap64 ((n : Int) + 63) = (n : Int) + 63 := by unfold wrap64; omega
theorem mA2 (n : Nat) (h : n ≤ 65552) : IntKind.i64.wrap ((n : Int) + 63) = (n : Int) + 63 := IntWalk.i64_in _ (by omega)
theorem mA3 (n m : Nat) (h : n = m + 16) : Int.tdiv ((n : Int) + 63) 64 = (((m + 16 + 63) / 64 : Nat) : Int) := by rw [Int.tdiv_eq_ediv_of_nonneg (by omega)]; omega
theorem mA4 (n : Nat) (h : n ≤ 65536) : IntKind.i64.wrap (((n + 16 + 63) / 64 : Nat) : Int) = (((n + 16 + 63) / 64 : Nat) : Int) := IntWalk.i64_in _ (by omega)
theorem mA5 (n : Nat) (h : n ≤ 65536) : wrap64 (((n + 16 + 63) / 64 : Nat) : Int) = (((n + 16 + 63) / 64 : Nat) : Int) := by unfold wrap64; omega

set_option maxHeartbeats 4000000 in
set_option maxRecDepth 100000 in
theorem back_calls (b : ByteArray) (hb : b.size ≤ 140737488351232) (t : ByteArray) (ht : t.size ≤ 140737488351232) (w : World) :
    Calls Try.prog 6 #[.string b, .string t] w fun e w' => e = .returned (.bool true) ∧ Below w.heap.size w w' := by
  by_cases hl : b.size ≤ 65536
  · have hsz := sealB_size b
    have HSZ := Aside0.mk hsz
    go_enter Try.func6, Try.ntmps6
    go_wp2_with fail
    refine (seal_calls b _ hl).mono ?_
    rintro e w1 ⟨rfl, hb1⟩
    have HB1 := Aside0.mk hb1
    clear hb1
    obtain ⟨s, hs⟩ : ∃ s, s = sealB b := ⟨_, rfl⟩
    rw [← hs] at HSZ ⊢
    have HS := Lib.hid hs
    clear hs hsz
    have hsn : s.size = b.size + 16 := HSZ.out
    have q1 : wrap64 ((b.size : Int) + 16) = (b.size : Int) + 16 := by unfold wrap64; omega
    have q2 : IntKind.i64.wrap ((b.size : Int) + 16) = (b.size : Int) + 16 := IntWalk.i64_in _ (by omega)
    have q3 : (s.size : Int) = (b.size : Int) + 16 := by omega
    have q4 : ((s.size : Int) == (b.size : Int) + 16) = true := by simp [q3]
    have q5 : ((s.size : Int) != (b.size : Int) + 16) = false := by simp [q3]
    have q6 : wrap64 (65552 - (s.size : Int)) = 65552 - (s.size : Int) := by unfold wrap64; omega
    have q7 : IntKind.i64.wrap (65552 - (s.size : Int)) = 65552 - (s.size : Int) := IntWalk.i64_in _ (by omega)
    clear q3 hsn
    by_cases big : 65552 - (s.size : Int) < (t.size : Int)
    · have d0 : decide (65552 - (s.size : Int) < (t.size : Int)) = true := decide_eq_true big
      clear big
      go_wp2_with fail
      refine (fixed_calls _).mono ?_
      rintro e w2 ⟨rfl, hb2⟩
      go_wp2
      go_ret
      exact ⟨rfl, below_step HB1.out hb2⟩
    · have d0 : decide (65552 - (s.size : Int) < (t.size : Int)) = false := decide_eq_false big
      have hst : (s ++ t).size ≤ 65552 := by rw [ByteArray.size_append]; omega
      have hsm : s.size ≤ 65552 := by have := HSZ.out; omega
      have kc : ∀ W, _ := fun W => run_sadd W s t (by omega)
      clear big
      go_wp2_with fail
      refine (new_main (s ++ t) none 0 [] _ hst (by decide) (nilC40 _)).mono ?_
      intro e w4 hp4
      obtain ⟨g, rfl, hd4, hb4⟩ := hp4.yes okFs_nil
      have HD4 : Aside0 (DiskE 59 w1.heap.size w4.heap.size w4 g (s ++ t) [] 0) := ⟨hd4.toE⟩
      have HB4 := Aside0.mk (below_step HB1.out hb4)
      have hgl := hd4.lt
      have hs1 := HB1.out.size
      clear hd4 hb4 hp4
      go_wp2_with fail
      refine (load_calls w1.heap.size w4.heap.size g (s ++ t) [] 0 _ HD4.out (by omega) okFs_nil (by decide) hst (by omega) (by omega)).mono ?_
      rintro e w5 ⟨rfl, hd5, ho5⟩
      have eL : loadP (s ++ t) [] 0 = (b, 0, (((b.size + 16 + 63) / 64 : Nat) : Int)) := by
        have hh := loadP_back b t [] hl (fun i hi => rfl)
        unfold img at hh
        rw [HS.out]; exact hh
      rw [eL] at hd5 ⊢
      have hz : w5.cell? ⟨g, 2, none⟩ = some (.int .i64 (((b.size + 16 + 63) / 64 : Nat) : Int)) := by
        obtain ⟨v, hb, _⟩ := hd5
        exact (blk_cell hb 2).trans rfl
      have HB5 : Aside0 (Below w.heap.size w w5) := ⟨ho5.below HB4.out (by omega) (by have := HB4.out.size; omega)⟩
      clear hd5 ho5 eL
      have ks := bstr_eq b
      have hsn : s.size = b.size + 16 := HSZ.out
      have m1 := mA1 s.size hsm
      have m2 := mA2 s.size hsm
      have m3 := mA3 s.size b.size hsn
      have m4 := mA4 b.size hl
      have m5 := mA5 b.size hl
      generalize (((b.size + 16 + 63) / 64 : Nat) : Int) = nn at m3 m4 m5 hz ⊢
      clear hsn
      go_wp2_with fail
      refine (rc_cell g nn _ hz).mono ?_
      rintro e w6 ⟨rfl, rfl⟩
      go_wp2_with fail
      refine (fixed_calls _).mono ?_
      rintro e w6 ⟨rfl, hb6⟩
      go_wp2
      go_ret
      exact ⟨rfl, below_step HB5.out hb6⟩
  · go_enter Try.func6, Try.ntmps6
    go_wp2_with fail
    refine (seal_long b _ (by omega)).mono ?_
    rintro e w1 ⟨rfl, hb1⟩
    have d0 : decide (65536 < (b.size : Int)) = true := decide_eq_true (by omega)
    have d1 : decide (65536 < b.size) = true := decide_eq_true (by omega)
    go_wp2_with fail
    refine (fixed_calls _).mono ?_
    rintro e w2 ⟨rfl, hb2⟩
    go_wp2
    go_ret
    exact ⟨rfl, below_step hb1 hb2⟩
end Go.Proofs.Ytalbhllgdjgbjaa.Q
