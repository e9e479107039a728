/- For all operands, the program says whether they may be as the document does, and what is told of any Shown always may; the input reads as it did. Conditions: none beyond the given card's. -/
import Derived.Test.YtfgjfkocbennnaaDoorRows
import Derived.Test.YtfgjfkocbennnaaDoorTie
import Derived.Test.YtfgjfkocbennnaaDoorCards
import Derived.Test.YtfgjfkocbennnaaDoorLawMay
import Derived.WalkKit
import Derived.ProofKit
import Derived.OpenShut
import Derived.ShutString
import Derived.ChangeOld
import Derived.Below
import Derived.SizedLaws
import Derived.LaidMore
import Derived.Lay
import Derived.SevenTiedAt
import Derived.Stop.Joined
namespace Go.Proofs.YtfgjfkocbennnaaDoor.operandMay
open Go.ChangeShapes Go.WideShapes Go.ChangeAt Go.RowKit
set_option linter.unusedVariables false
theorem own : ownKnob Tryd.prog.godebug = none := by kernel_rfl
theorem laidOut : laidOutB Tryd.prog = true := by kernel_rfl
set_option maxRecDepth 100000 in
theorem lifted (os : Os) (started : os.Started) (H : Type) (enc : TypeId × Value → H) :
    ReturnsInHanded {} Tryd.checked os 4 .any (fun w args => (Rows.operandMaySpec.pre enc Tryd.prog Tryd.f4 Rows.operandMayRow.domain false w args ∧ laidMetH Tryd.prog Rows.operandMayRow.laid w) ∧ sizedMet enc Tryd.prog Tryd.f4 (OpenSpec.ofChange Rows.operandMaySpec) false w args)
      (Rows.operandMaySpec.post enc Tryd.prog Tryd.f4 false true false false) := by
  refine returnsInHanded_of_change_and (C := Tryd.checked) (X := fun w _ => laidMetH Tryd.prog Rows.operandMayRow.laid w) (fun _ _ _ hh h => h.of_heap hh) own started (by kernel_rfl) Tryd.func4
    (ChangeSpec.witness_shaped (enc := enc) (C := Tryd.checked) (os := os) (X := fun w _ => laidMetH Tryd.prog Rows.operandMayRow.laid w) false (World.laidAll Tryd.prog os Rows.operandMayRow.laid) #[.agg #[.string ByteArray.empty, .int .i64 0, .int .i64 0, .string ByteArray.empty, .string ByteArray.empty, .int .i64 0], .agg #[.int .i64 0, .bool false, .string ByteArray.empty, .string ByteArray.empty, .int .i64 0, .bool false]] 8 (World.laidAll_os _ _ _)
      (World.shaped_of_ZipB (by kernel_rfl) (by kernel_rfl)) (by kernel_rfl) (by kernel_rfl) (by kernel_rfl)
      (by rw [MakeChecks.laidMetH_plain _ _ _ (by kernel_rfl)]; exact laidMet_laidAll _ (by kernel_rfl) (by kernel_rfl))) ?_
  intro W base args ds gs before hval0 hW _ hsz0 _ _
  have hsz : (DataW.weightsEach Tryd.prog (Tryd.f4.params.toList ++ Rows.operandMaySpec.plain.varTypes Tryd.prog) (ds ++ gs)).all (· ≤ reachBytes) = true := hsz0
  have hval : ∀ (j : Nat) t v, Tryd.f4.params[j]? = some t → args[j]? = some v → Value.okWide Tryd.prog W .any base t v := hval0
  have hW' := hW
  obtain ⟨p, q, hA0, hV, rfl, hfz, hnd⟩ := hW
  have hA : DataW.TrodAll enc Tryd.prog W 0 (fun _ => true) true Tryd.f4.params.toList args.toList ds p := hA0
  rw [Tryd.params4] at hA hval hsz
  obtain ⟨v0, vs0, d0, ds0, p0, q0, hargs, rfl, rfl, h0, r0⟩ := trodAll_cons hA
  obtain ⟨v1, vs1, d1, ds1, p1, q1, rfl, rfl, rfl, h1, r1⟩ := trodAll_cons r0
  obtain ⟨rfl, rfl, rfl⟩ := trodAll_nil r1
  obtain rfl : args = #[v0, v1] := by cases args; simp_all
  obtain ⟨rfl, rfl⟩ := trodVars_none hV
  obtain ⟨cs0, rfl, hcs0⟩ := okWide_struct Tryd.underlying25 (hval 0 25 v0 rfl rfl)
  have k0 := h0
  have lt0 : ∀ x ∈ p0, x.block < W.heap.size := by obtain ⟨m, hm⟩ := k0; exact DataW.trod_lt m _ _ _ hm
  obtain ⟨i0, v0_, u0, f0, t0, e0, rfl, rfl⟩ := Q.open_s25 h0
  have si0 : i0.size ≤ 140737488351232 := by have z := Q.sized_part hsz (j := 0) (i := 0) (t := 25) rfl rfl Tryd.underlying25 rfl rfl; rw [Array.length_toList] at z; exact z
  have sf0 : f0.size ≤ 140737488351232 := by have z := Q.sized_part hsz (j := 0) (i := 3) (t := 25) rfl rfl Tryd.underlying25 rfl rfl; rw [Array.length_toList] at z; exact z
  have st0 : t0.size ≤ 140737488351232 := by have z := Q.sized_part hsz (j := 0) (i := 4) (t := 25) rfl rfl Tryd.underlying25 rfl rfl; rw [Array.length_toList] at z; exact z
  obtain ⟨cs1, rfl, hcs1⟩ := okWide_struct Tryd.underlying23 (hval 1 23 v1 rfl rfl)
  have k1 := h1
  have lt1 : ∀ x ∈ p1, x.block < W.heap.size := by obtain ⟨m, hm⟩ := k1; exact DataW.trod_lt m _ _ _ hm
  obtain ⟨c1, n1, a1, b1, e1, q1_, rfl, rfl, he1⟩ := Q.open_s23 h1
  have sa1 : a1.size ≤ 140737488351232 := by have z := Q.sized_part hsz (j := 1) (i := 2) (t := 23) rfl rfl Tryd.underlying23 rfl rfl; rw [Array.length_toList] at z; exact z
  have sb1 : b1.size ≤ 140737488351232 := by have z := Q.sized_part hsz (j := 1) (i := 3) (t := 23) rfl rfl Tryd.underlying23 rfl rfl; rw [Array.length_toList] at z; exact z
  clear hA0 hval0 hsz0
  refine (Q.may_row W i0 v0_ u0 f0 t0 e0 si0 sf0 st0 c1 n1 a1 b1 e1 q1_ he1 sa1 sb1).mono fun e W' ⟨he, bel⟩ => ?_
  subst he
  exact ⟨_, rfl, _, _, _, [], _, [], hW', trodAll_mk1 (shut_bool Tryd.underlying4 _), (trodAll_cons_mk (Below.trod laidOut (by kernel_rfl) (of_decide_eq_true (by kernel_rfl)) k0 bel lt0) (trodAll_cons_mk (Below.trod laidOut (by kernel_rfl) (of_decide_eq_true (by kernel_rfl)) k1 bel lt1) trodAll_mk0)), rfl, bel.frame _, fun h => by cases h⟩
theorem over : Rows.operandMayRow.holds Tryd.pinned (OpenSpec.ofChange Rows.operandMaySpec) :=
  OpenClaim.holds_of_wide 4 Tryd.f4 rfl rfl rfl rfl rfl rfl rfl ⟨rfl, rfl, rfl, rfl, rfl⟩ rfl rfl rfl rfl rfl (by kernel_rfl) Tryd.func4 (by kernel_rfl)
    (of_decide_eq_true (by kernel_rfl)) (by unfold Func.isWrapper; first | (rw [if_pos (by decide +kernel)]; kernel_rfl) | (rw [if_neg (by decide +kernel)]; exact ⟨rfl, rfl⟩))
    (fun os started H enc _ => lifted os started H enc)
theorem card : Rows.OperandMayCardSaid :=
  Claim7.holds_tied_plain_at .later [] [.data, .pinned] true (true, "c6a8aae3d9e6d32592726174d24a08597a937f4c642436570dd5d99179fb1ed8") false
    over (fun _ h => by cases h) (by kernel_rfl) (fun _ h => by cases h) operandMay_row_tie rfl ⟨rfl, rfl⟩ (by kernel_rfl) rfl
    (fun f fn hf hfn => by
      obtain rfl : f = 4 := Option.some.inj ((show Tryd.prog.funcNamed "quipu/quipulaw08.OperandMay" = some 4 by kernel_rfl).symm.trans hf) |>.symm
      obtain rfl : fn = Tryd.f4 := (Option.some.inj (Tryd.func4.symm.trans hfn)).symm
      exact ⟨by kernel_rfl, fun j t ht => by
        rw [Tryd.params4] at ht
        have h3 : t = 23 ∨ t = 25 := by
          have := List.mem_of_getElem? (l := [25, 23]) (i := j) (by simpa using ht)
          first | simpa using this | (simp at this; exact this.elim Or.inr Or.inl)
        rcases h3 with rfl | rfl
        · exact (show Tryd.prog.wantsStandIn 23 = false by kernel_rfl)
        · exact (show Tryd.prog.wantsStandIn 25 = false by kernel_rfl)⟩)
    (by kernel_rfl)
#print axioms card
end Go.Proofs.YtfgjfkocbennnaaDoor.operandMay
namespace Go.Proofs.YtfgjfkocbennnaaDoor
/-- The card, under a short name, for the claim. -/
theorem operandMay_holds : Rows.OperandMayCardSaid := operandMay.card
end Go.Proofs.YtfgjfkocbennnaaDoor
