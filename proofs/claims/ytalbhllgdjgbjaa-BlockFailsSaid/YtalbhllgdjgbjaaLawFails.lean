import Derived.Test.YtalbhllgdjgbjaaFailp
import Derived.Test.YtalbhllgdjgbjaaLawBack
import Derived.StillTailTactics
import Derived.Test.YtalbhllgdjgbjaaOpen
import Derived.OpenShut
namespace Go.Proofs.Ytalbhllgdjgbjaa.Q
open Go.RowKit Go.Proofs.YtalbhllgdjgbjaaW.PrintWords Go.Proofs.YtalbhllgdjgbjaaW.PrintLast Go.Proofs.YtalbhllgdjgbjaaW.PrintMore
set_option linter.unusedVariables false
set_option linter.unusedSimpArgs false

attribute [local irreducible] Go.wpStill
theorem NewPost.no {T : Nat} {w w' : World} {im : ByteArray} {fs : List S40} {e : Ending} (h : NewPost T w im fs e w') (hok : ¬ okFs fs) :
    e = .returned (.tuple #[.pointer none, .int .i64 103]) ∧ Below w.heap.size w w' := h.elim (fun h => absurd h.1 hok) (fun h => ⟨h.2.1, h.2.2⟩)
theorem nA1 (x : Int) (h0 : 0 ≤ x) (h : x < 65553) : wrap64 (x + 1) = x + 1 := by unfold wrap64; omega
theorem nA2 (x : Int) (h0 : 0 ≤ x) (h : x < 65553) : IntKind.i64.wrap (x + 1) = x + 1 := IntWalk.i64_in _ (by omega)
set_option maxHeartbeats 4000000 in
set_option maxRecDepth 100000 in
theorem fails_law (b : ByteArray) (hb : b.size ≤ 140737488351232) (f : S40) (w : World) (hf9 : f.f0 < 9223372036854775808) :
    Calls Try.prog 8 #[.string b, .agg #[.int .i64 f.f0, .int .i64 f.f1, .int .i64 f.f2, .int .i64 f.f3]] w fun e w' => e = .returned (.bool true) ∧ Below w.heap.size w w' := by
  have hu40 := Try.underlying40
  have c0 : (w.alloc (Obj.cells #[.int .i64 f.f0, .int .i64 f.f1, .int .i64 f.f2, .int .i64 f.f3] 40)).heap[w.heap.size]? = some (.cells #[.int .i64 f.f0, .int .i64 f.f1, .int .i64 f.f2, .int .i64 f.f3] 40 (0, 0)) := blk_new w _
  by_cases hl : b.size ≤ 65536
  · have hsz := sealB_size b
    have HSZ := Aside0.mk hsz
    go_enter Try.func8, Try.ntmps8
    go_wp2_with fail
    refine (seal_calls b _ hl).mono ?_
    rintro e w1 ⟨rfl, hb1⟩
    have HB1 := Aside0.mk (below_step (below_alloc (Below.refl _ w) _) hb1)
    have CB := Aside0.mk (blk_below c0 hb1)
    clear hb1 c0
    obtain ⟨s, hs⟩ : ∃ s, s = sealB b := ⟨_, rfl⟩
    rw [← hs] at HSZ ⊢
    have HS := Lib.hid hs
    clear hs hsz
    have hsm : s.size ≤ 65552 := by have := HSZ.out; omega
    have x0 : w1.cell? ⟨w.heap.size, 0, none⟩ = some (.int .i64 f.f0) := (blk_cell CB.out 0).trans rfl
    have x1 : w1.cell? ⟨w.heap.size, 1, none⟩ = some (.int .i64 f.f1) := (blk_cell CB.out 1).trans rfl
    have x2 : w1.cell? ⟨w.heap.size, 2, none⟩ = some (.int .i64 f.f2) := (blk_cell CB.out 2).trans rfl
    have x3 : w1.cell? ⟨w.heap.size, 3, none⟩ = some (.int .i64 f.f3) := (blk_cell CB.out 3).trans rfl
    go_wp2_with fail
    refine (new_main s _ 1 [f] _ hsm (by simp) (lit40 w1 f)).mono ?_
    intro e w4 hp4
    clear x0 x1 x2 x3
    by_cases hmy : mayB f = true
    · obtain ⟨g, rfl, hd4, hb4⟩ := hp4.yes (okFs_one hmy)
      have OK := Aside0.mk (okFs_one hmy)
      obtain ⟨y1, y2, y3, y4, y5, y6⟩ := mayB_yes hmy
      have HD4 : Aside0 (DiskE 59 _ w4.heap.size w4 g s [f] 0) := ⟨hd4.toE⟩
      have HB4 := Aside0.mk (below_step (below_alloc HB1.out _) hb4)
      have CB4 := Aside0.mk (blk_below (blk_alloc CB.out _) hb4)
      have hgl := hd4.lt
      have hs1 : w.heap.size < w1.heap.size := blk_lt CB.out
      simp at hgl
      have x0 : w4.cell? ⟨w.heap.size, 0, none⟩ = some (.int .i64 f.f0) := (blk_cell CB4.out 0).trans rfl
      have x1 : w4.cell? ⟨w.heap.size, 1, none⟩ = some (.int .i64 f.f1) := (blk_cell CB4.out 1).trans rfl
      clear hd4 hb4 hp4 hmy
      by_cases h3 : f.f1 = 3
      · have k3 : ((f.f1 : Int) == 3) = true := by simpa using h3
        clear h3
        go_wp2_with fail
        refine (fixed_calls _).mono ?_
        rintro e w2 ⟨rfl, hb2⟩
        go_wp2
        go_ret
        exact ⟨rfl, below_step HB4.out hb2⟩
      have k3 : ((f.f1 : Int) == 3) = false := by simpa using h3
      go_wp2_with fail
      refine (load_calls _ w4.heap.size g s [f] 0 _ HD4.out (by omega) OK.out (by simp) hsm (by omega) (by omega)).mono ?_
      rintro e w5 ⟨rfl, hd5, ho5⟩
      have CB5 := Aside0.mk ((ho5.block w.heap.size (by omega) (by omega)).trans CB4.out)
      have HB5 : Aside0 (Below w.heap.size w w5) := ⟨ho5.below HB4.out (by omega) (by omega)⟩
      clear x0 x1
      have x0 : w5.cell? ⟨w.heap.size, 0, none⟩ = some (.int .i64 f.f0) := (blk_cell CB5.out 0).trans rfl
      have x1 : w5.cell? ⟨w.heap.size, 1, none⟩ = some (.int .i64 f.f1) := (blk_cell CB5.out 1).trans rfl
      have hz : w5.cell? ⟨g, 2, none⟩ = some (.int .i64 (loadP s [f] 0).2.2) := by
        obtain ⟨v, hb, _⟩ := hd5
        exact (blk_cell hb 2).trans rfl
      have hM : (((b.size + 16 + 63) / 64 : Nat) : Int) = (((sealB b).size + 63) / 64 : Nat) := by rw [← HS.out, HSZ.out]
      clear hd5 ho5 k3
      by_cases far : (((b.size + 16 + 63) / 64 : Nat) : Int) ≤ f.f0
      · have d0 : decide ((((b.size + 16 + 63) / 64 : Nat) : Int) ≤ f.f0) = true := decide_eq_true far
        have eL : loadP s [f] 0 = (b, 0, (((b.size + 16 + 63) / 64 : Nat) : Int)) := by
          rw [HS.out]; exact loadP_far b f hl (by omega)
        rw [eL] at hz ⊢
        have ks := bstr_eq b
        have m1 := mA1 s.size hsm
        have m2 := mA2 s.size hsm
        have m3 := mA3 s.size b.size HSZ.out
        have m4 := mA4 b.size hl
        have m5 := mA5 b.size hl
        generalize (((b.size + 16 + 63) / 64 : Nat) : Int) = nn at m3 m4 m5 hz d0 hM
        clear hM far eL
        go_wp2_with fail
        refine (fixed_calls _).mono ?_
        rintro e w2 ⟨rfl, hb2⟩
        go_wp2
        go_ret
        exact ⟨rfl, below_step HB5.out hb2⟩
      · have d0 : decide ((((b.size + 16 + 63) / 64 : Nat) : Int) ≤ f.f0) = false := decide_eq_false far
        have hlim : f.f0 < 65553 := by omega
        have a1 := nA1 f.f0 y3 hlim
        have a2 := nA2 f.f0 y3 hlim
        by_cases h1 : f.f1 = 1
        · have eL : loadP s [f] 0 = (⟨#[]⟩, 100, f.f0 + 1) := by
            rw [HS.out]; exact loadP_one b f hl 100 (by decide) y3 (by omega) (fun a ha hsa => next_fail b f a ha hsa h1)
          rw [eL] at hz ⊢
          rw [h1] at x1
          have m1 := mA1 s.size hsm
          have m2 := mA2 s.size hsm
          have m3 := mA3 s.size b.size HSZ.out
          have m4 := mA4 b.size hl
          have m5 := mA5 b.size hl
          generalize (((b.size + 16 + 63) / 64 : Nat) : Int) = nn at m3 m4 m5 d0 hM far
          clear hM far eL h1 h3
          go_upto_region 12 with (fail)
          go_still_tail 29, (by kernel_rfl)
          still_call ((rc_cell g (f.f0 + 1) w5.drew hz).mono (fun _ _ h => ⟨h.1, h.2.symm⟩))
          repeat still_step
          refine wpStill_nil ?_
          change wpList _ _ _ _ _ w5.drew
          go_wp2_with fail
          refine (fixed_calls _).mono ?_
          rintro e w6 ⟨rfl, hb6⟩
          go_wp2
          go_ret
          exact ⟨rfl, below_step (below_drew HB5.out) hb6⟩
        · have h2 : f.f1 = 2 := by omega
          have eL : loadP s [f] 0 = (⟨#[]⟩, 101, f.f0 + 1) := by
            rw [HS.out]; exact loadP_one b f hl 101 (by decide) y3 (by omega) (fun a ha hsa => next_short b f a ha hsa h2 y4)
          rw [eL] at hz ⊢
          rw [h2] at x1
          have m1 := mA1 s.size hsm
          have m2 := mA2 s.size hsm
          have m3 := mA3 s.size b.size HSZ.out
          have m4 := mA4 b.size hl
          have m5 := mA5 b.size hl
          generalize (((b.size + 16 + 63) / 64 : Nat) : Int) = nn at m3 m4 m5 d0 hM far
          clear hM far eL h1 h2 h3
          go_upto_region 12 with (fail)
          go_still_tail 29, (by kernel_rfl)
          still_call ((rc_cell g (f.f0 + 1) w5.drew hz).mono (fun _ _ h => ⟨h.1, h.2.symm⟩))
          repeat still_step
          refine wpStill_nil ?_
          change wpList _ _ _ _ _ w5.drew
          go_wp2_with fail
          refine (fixed_calls _).mono ?_
          rintro e w6 ⟨rfl, hb6⟩
          go_wp2
          go_ret
          exact ⟨rfl, below_step (below_drew HB5.out) hb6⟩
    · obtain ⟨rfl, hb4⟩ := hp4.no (okFs_one' hmy)
      have HB4 := Aside0.mk (below_step (below_alloc HB1.out _) hb4)
      clear hb4 hp4 hmy
      go_wp2_with fail
      refine (fixed_calls _).mono ?_
      rintro e w2 ⟨rfl, hb2⟩
      go_wp2
      go_ret
      exact ⟨rfl, below_step HB4.out hb2⟩
  · go_enter Try.func8, Try.ntmps8
    go_wp2_with fail
    refine (seal_long b _ (by omega)).mono ?_
    rintro e w1 ⟨rfl, hb1⟩
    have d0 : decide (65536 < (b.size : Int)) = true := decide_eq_true (by omega)
    have d1 : decide (65536 < b.size) = true := decide_eq_true (by omega)
    go_wp2_with fail
    refine (fixed_calls _).mono ?_
    rintro e w2 ⟨rfl, hb2⟩
    go_wp2
    go_ret
    exact ⟨rfl, below_step (below_step (below_alloc (Below.refl _ w) _) hb1) hb2⟩

open Go.Proofs.Ytalbhllgdjgbjaa.Opn in
theorem openF40 : Opens Try.prog 40 k40 (fun x => (Lit.int .i64 x.f0).wf = true ∧ (Lit.int .i64 x.f1).wf = true ∧ (Lit.int .i64 x.f2).wf = true ∧ (Lit.int .i64 x.f3).wf = true) :=
  Opens.struct Try.underlying40 (OpensF.cons (Opens.int .i64 (by kernel_rfl)) rfl (by kernel_rfl) (OpensF.cons (Opens.int .i64 (by kernel_rfl)) rfl (by kernel_rfl) (OpensF.cons (Opens.int .i64 (by kernel_rfl)) rfl (by kernel_rfl) (OpensF.one (Opens.int .i64 (by kernel_rfl)) rfl (by kernel_rfl)))))
    (by kernel_rfl) (fun x : S40 => (x.f0, x.f1, x.f2, x.f3)) (fun p => ⟨p.1, p.2.1, p.2.2.1, p.2.2.2⟩) (fun _ => rfl)
theorem open_f40 {H : Type} {enc : TypeId × Value → H} {W : World} {base : Nat} {spare : Nat → Bool} {held : Bool} {cs : Array Value} {x : DataW H} {ps : List MemPlace}
    (h : DataW.Trod enc Try.prog W base spare held 40 (.agg cs) x ps) : ∃ f : S40, cs = #[.int .i64 f.f0, .int .i64 f.f1, .int .i64 f.f2, .int .i64 f.f3] ∧ f.f0 < 9223372036854775808 := by
  obtain ⟨fuel, hf⟩ := h
  obtain ⟨f, hK, ok⟩ := openF40 enc W base spare held fuel _ _ hf
  have e := k40_open hK
  refine ⟨f, ?_, by have := (bounds_i64 ok.1).2; omega⟩
  apply Array.ext'
  simpa [Value.cells] using e
theorem fails_row (W : World) (b : ByteArray) (hb : b.size ≤ 140737488351232) (f : S40) (hf9 : f.f0 < 9223372036854775808) :
    Calls Try.prog 8 #[.string b, .agg #[.int .i64 f.f0, .int .i64 f.f1, .int .i64 f.f2, .int .i64 f.f3]] W fun e w' => e = .returned (.bool true) ∧ Below W.heap.size W w' := fails_law b hb f W hf9
end Go.Proofs.Ytalbhllgdjgbjaa.Q
