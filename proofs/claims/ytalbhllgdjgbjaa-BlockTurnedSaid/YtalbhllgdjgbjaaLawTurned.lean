import Derived.Test.YtalbhllgdjgbjaaTurn
import Derived.Test.YtalbhllgdjgbjaaLawBack
namespace Go.Proofs.Ytalbhllgdjgbjaa.Q
open Go.RowKit Go.Proofs.YtalbhllgdjgbjaaW.PrintWords Go.Proofs.YtalbhllgdjgbjaaW.PrintLast Go.Proofs.YtalbhllgdjgbjaaW.PrintMore
set_option linter.unusedVariables false
set_option linter.unusedSimpArgs false

theorem nA1' (x : Int) (h0 : 0 ≤ x) (h : x < 65553) : wrap64 (x + 1) = x + 1 := by unfold wrap64; omega
theorem nA2' (x : Int) (h0 : 0 ≤ x) (h : x < 65553) : IntKind.i64.wrap (x + 1) = x + 1 := IntWalk.i64_in _ (by omega)
theorem convW (W : World) (x : Int) :
    (convert 52 9 (.slice (some ⟨W.heap.size, 0, none⟩) 1 1)).run Try.prog (W.alloc (.cells #[.int .u8 x] 5)) = .ok (.string (strOfNums [x])) (W.alloc (.cells #[.int .u8 x] 5)) := by
  refine run_convert_bytes_arg _ 52 5 Try.underlying52 Try.underlying5 _ 0 1 1 [x] rfl (fun i hi => ?_) 9 Try.underlying9
  obtain rfl : i = 0 := by omega
  exact (blk_cell (blk_new W (Obj.cells #[.int .u8 x] 5)) 0).trans rfl
theorem nA3' (n : Nat) (h : n < 65553) : wrap64 (n : Int) = (n : Int) := by unfold wrap64; omega
theorem nA4' (n : Nat) (h : n < 65553) : IntKind.i64.wrap (n : Int) = (n : Int) := IntWalk.i64_in _ (by omega)
theorem mB1 (n : Nat) (h : n ≤ 65536) : wrap64 ((n : Int) + 16) = (n : Int) + 16 := by unfold wrap64; omega
theorem mB2 (n : Nat) (h : n ≤ 65536) : IntKind.i64.wrap ((n : Int) + 16) = (n : Int) + 16 := IntWalk.i64_in _ (by omega)
theorem mB3 (m n : Nat) (h : m = n + 16) : ((m : Int) != (n : Int) + 16) = false := by simp [h]
set_option maxHeartbeats 4000000 in
set_option maxRecDepth 100000 in
theorem turned_law (b : ByteArray) (hb : b.size ≤ 140737488351232) (at_ bit : Int) (w : World) :
    Calls Try.prog 7 #[.string b, .int .i64 at_, .int .i64 bit] w fun e w' => e = .returned (.bool true) ∧ Below w.heap.size w w' := by
  have hu40 := Try.underlying40
  by_cases hl : b.size ≤ 65536
  · have hsz := sealB_size b
    have HSZ := Aside0.mk hsz
    go_enter Try.func7, Try.ntmps7
    go_wp2_with fail
    refine (seal_calls b _ hl).mono ?_
    rintro e w1 ⟨rfl, hb1⟩
    have HB1 := Aside0.mk hb1
    clear hb1
    obtain ⟨s, hs⟩ : ∃ s, s = sealB b := ⟨_, rfl⟩
    rw [← hs] at HSZ ⊢
    have HS := Lib.hid hs
    clear hs hsz
    have hsm : s.size ≤ 65552 := by have := HSZ.out; omega
    have hs0 : 0 < s.size := by have := HSZ.out; omega
    have q1 := mB1 b.size hl
    have q2 := mB2 b.size hl
    have q5 := mB3 s.size b.size HSZ.out
    go_wp2_with fail
    refine (place_calls at_ (s.size : Int) (by omega) (by omega) _).mono ?_
    rintro e w2 ⟨rfl, ⟨nd, rfl⟩⟩
    go_wp2_with fail
    refine (place_calls bit 8 (by omega) (by omega) _).mono ?_
    rintro e w2 ⟨rfl, ⟨nd2, rfl⟩⟩
    obtain ⟨p0, p1⟩ := placeP_lt at_ (s.size : Int) (by omega)
    obtain ⟨k0, k1⟩ := placeP_lt bit 8 (by omega)
    generalize placeP at_ (s.size : Int) = p at p0 p1
    generalize placeP bit 8 = k at k0 k1
    have hbt := bt_at s p
    have hcat := flip_cat s p k p0 p1
    have HCAT := Aside0.mk hcat
    clear hcat
    have hple : p ≤ (s.size : Int) := by omega
    have g1 : wrap64 (p + 1) = p + 1 := nA1' p p0 (by omega)
    have g2 : IntKind.i64.wrap (p + 1) = p + 1 := nA2' p p0 (by omega)
    have g3 : 0 ≤ p + 1 := by omega
    have g4 : p + 1 ≤ (s.size : Int) := by omega
    have hcv : (convert 52 9 (.slice (some ⟨w1.heap.size, 0, none⟩) 1 1)).run Try.prog ((w1.drewN (nd + nd2 + 1)).alloc (.cells #[.int .u8 (Go.bits .xor .u8 (bt s p) (2 ^ k.toNat % 256))] 5)) = _ := convW (w1.drewN (nd + nd2 + 1)) (Go.bits .xor .u8 (bt s p) (2 ^ k.toNat % 256))
    have f1 : (s.extract 0 p.toNat).size = p.toNat := by rw [ByteArray.size_extract]; omega
    have f2 : (s.extract (p + 1).toNat s.size).size ≤ 65552 := by rw [ByteArray.size_extract]; omega
    have f3 : (strOfNums [Go.bits .xor .u8 (bt s p) (2 ^ k.toNat % 256)]).size = 1 := strOfNums_size _
    have hc1 := fun W => run_sadd W (s.extract 0 p.toNat) (strOfNums [Go.bits .xor .u8 (bt s p) (2 ^ k.toNat % 256)]) (by omega)
    have hc2 := fun W => run_sadd W (s.extract 0 p.toNat ++ strOfNums [Go.bits .xor .u8 (bt s p) (2 ^ k.toNat % 256)]) (s.extract (p + 1).toNat s.size) (by rw [ByteArray.size_append]; omega)
    clear f1 f2 f3
    go_wp2
    go_region
    rw [HCAT.out]
    clear hcv hc1 hc2 hbt g1 g2 g3 g4 q1 q2 q5
    have hfs : (flipB s p k).size ≤ 65552 := by rw [flipB_set, setB_size]; exact hsm
    go_wp2_with fail
    refine (new_main (flipB s p k) none 0 [] _ hfs (by decide) (nilC40 _)).mono ?_
    intro e w4 hp4
    obtain ⟨g, rfl, hd4, hb4⟩ := hp4.yes okFs_nil
    clear hp4
    have HG4 := Aside0.mk hd4.toE
    have HL4 := Aside0.mk hd4.lt
    have HBB := Aside0.mk hb4
    clear hd4 hb4
    obtain ⟨q, rfl⟩ := Int.eq_ofNat_of_zero_le p0
    have z1 : Int.tdiv (q : Int) 64 = ((q / 64 : Nat) : Int) := by rw [Int.tdiv_eq_ediv_of_nonneg (by omega)]; omega
    have z2 : Int.tmod (q : Int) 64 = ((q % 64 : Nat) : Int) := by rw [Int.tmod_eq_emod_of_nonneg (by omega)]; omega
    have z3 := nA3' (q / 64) (by omega)
    have z4 := nA4' (q / 64) (by omega)
    go_wp2_with fail
    refine (new_main s _ 1 [⟨((q / 64 : Nat) : Int), 3, ((q % 64 : Nat) : Int), k⟩] _ hsm (by simp) (lit40 w4 ⟨((q / 64 : Nat) : Int), 3, ((q % 64 : Nat) : Int), k⟩)).mono ?_
    intro e w5 hp5
    have hmy : mayB ⟨((q / 64 : Nat) : Int), 3, ((q % 64 : Nat) : Int), k⟩ = true := by unfold mayB; simp; omega
    have OK := Aside0.mk (okFs_one hmy)
    obtain ⟨x, rfl, hd5, hb5⟩ := hp5.yes OK.out
    clear hp5 hmy z1 z2 z3 z4
    have hb45 := below_step (below_alloc (Below.refl _ w4) _) hb5
    have DA := Aside0.mk (HG4.out.below hb45 (Nat.le_refl _))
    have DB := Aside0.mk hd5.toE
    have hgl := HL4.out
    have hxl := hd5.lt
    have hB4 := below_step (below_alloc (pw_below_drewN HB1.out (nd + nd2 + 1)) _) HBB.out
    have HB5 := Aside0.mk (below_step hB4 hb45)
    have hsz5 := hb45.size
    have hs14 := HBB.out.size
    clear hb5 hd5 hb45 hB4
    simp at hgl hxl hs14
    have hqs : q < (sealB b).size := by rw [← HS.out]; omega
    have J1 : Aside0 ((loadP (flipB s q k) [] 0).1 = ⟨#[]⟩ ∧ (loadP (flipB s q k) [] 0).2.1 = if q < 16 then 105 else 104) := ⟨by
      rw [HS.out, flipB_set]
      exact load_turned b hl q (turnV (sealB b) q k) hqs (turnV_ne _ q k hqs k0 k1) _ [] (setB_size _ _ _) (fun i hi => readsWell_none _ [] i hi rfl)⟩
    have J2 : Aside0 ((loadP s [⟨((q / 64 : Nat) : Int), 3, ((q % 64 : Nat) : Int), k⟩] 0).1 = ⟨#[]⟩ ∧ (loadP s [⟨((q / 64 : Nat) : Int), 3, ((q % 64 : Nat) : Int), k⟩] 0).2.1 = if q < 16 then 105 else 104) := ⟨by
      rw [HS.out]
      exact load_turned b hl q (turnV (sealB b) q k) hqs (turnV_ne _ q k hqs k0 k1) _ _ rfl (fun i hi => readsWell_flip (sealB b) q k hqs i hi)⟩
    clear hqs
    by_cases c16 : q < 16
    · go_wp2_with fail
      refine (load_calls _ w4.heap.size g (flipB s q k) [] 0 _ DA.out (by omega) okFs_nil (by decide) hfs (by omega) (by omega)).mono ?_
      rintro e w6 ⟨rfl, hd6, ho6⟩
      have DB6 := Aside0.mk (DB.out.keep (fun n h1 h2 => ho6.block n h2 (by simp at h1; omega)))
      have HB6 : Aside0 (Below w.heap.size w w6) := ⟨ho6.below HB5.out (by have := HB1.out.size; omega) (by have := HB5.out.size; omega)⟩
      have hsz6 := ho6.size
      have ho6b : w.heap.size ≤ x := by have := HB1.out.size; omega
      clear hd6 ho6
      obtain ⟨j1, j2⟩ := J1.out
      rw [j1, j2, if_pos c16]
      clear j1 j2
      go_wp2_with fail
      refine (load_calls _ w5.heap.size x s [⟨((q / 64 : Nat) : Int), 3, ((q % 64 : Nat) : Int), k⟩] 0 _ DB6.out (by omega) OK.out (by simp) hsm (by omega) (by omega)).mono ?_
      rintro e w7 ⟨rfl, hd7, ho7⟩
      have HB7 : Aside0 (Below w.heap.size w w7) := ⟨ho7.below HB6.out (by omega) (by have := HB6.out.size; omega)⟩
      clear hd7 ho7
      obtain ⟨j1, j2⟩ := J2.out
      rw [j1, j2, if_pos c16]
      clear j1 j2
      have d0 : decide ((q : Int) < 16) = true := decide_eq_true (by omega)
      have d1 : decide (q < 16) = true := decide_eq_true c16
      clear c16
      go_wp2_with fail
      refine (fixed_calls _).mono ?_
      rintro e w8 ⟨rfl, hb8⟩
      go_wp2
      go_ret
      exact ⟨rfl, below_step HB7.out hb8⟩
    · go_wp2_with fail
      refine (load_calls _ w4.heap.size g (flipB s q k) [] 0 _ DA.out (by omega) okFs_nil (by decide) hfs (by omega) (by omega)).mono ?_
      rintro e w6 ⟨rfl, hd6, ho6⟩
      have DB6 := Aside0.mk (DB.out.keep (fun n h1 h2 => ho6.block n h2 (by simp at h1; omega)))
      have HB6 : Aside0 (Below w.heap.size w w6) := ⟨ho6.below HB5.out (by have := HB1.out.size; omega) (by have := HB5.out.size; omega)⟩
      have hsz6 := ho6.size
      have ho6b : w.heap.size ≤ x := by have := HB1.out.size; omega
      clear hd6 ho6
      obtain ⟨j1, j2⟩ := J1.out
      rw [j1, j2, if_neg c16]
      clear j1 j2
      go_wp2_with fail
      refine (load_calls _ w5.heap.size x s [⟨((q / 64 : Nat) : Int), 3, ((q % 64 : Nat) : Int), k⟩] 0 _ DB6.out (by omega) OK.out (by simp) hsm (by omega) (by omega)).mono ?_
      rintro e w7 ⟨rfl, hd7, ho7⟩
      have HB7 : Aside0 (Below w.heap.size w w7) := ⟨ho7.below HB6.out (by omega) (by have := HB6.out.size; omega)⟩
      clear hd7 ho7
      obtain ⟨j1, j2⟩ := J2.out
      rw [j1, j2, if_neg c16]
      clear j1 j2
      have d0 : decide ((q : Int) < 16) = false := decide_eq_false (by omega)
      have d1 : decide (q < 16) = false := decide_eq_false c16
      have d2 : decide (16 ≤ (q : Int)) = true := decide_eq_true (by omega)
      have d3 : decide (16 ≤ q) = true := decide_eq_true (by omega)
      clear c16
      go_wp2_with fail
      refine (fixed_calls _).mono ?_
      rintro e w8 ⟨rfl, hb8⟩
      go_wp2
      go_ret
      exact ⟨rfl, below_step HB7.out hb8⟩
  · go_enter Try.func7, Try.ntmps7
    go_wp2_with fail
    refine (seal_long b _ (by omega)).mono ?_
    rintro e w1 ⟨rfl, hb1⟩
    have d0 : decide (65536 < (b.size : Int)) = true := decide_eq_true (by omega)
    have d1 : decide (65536 < b.size) = true := decide_eq_true (by omega)
    go_wp2_with fail
    refine (fixed_calls _).mono ?_
    rintro e w2 ⟨rfl, hb2⟩
    go_wp2
    go_ret
    exact ⟨rfl, below_step hb1 hb2⟩
end Go.Proofs.Ytalbhllgdjgbjaa.Q
