/- For whatever is shown, all symbols and all groups, other symbols change nothing but the texts, and without groups there is one piece of whole digits at most, where what is read is together of bulk at most 1048576; the input reads as_ it did. Conditions: none beyond the given card's of the second form. -/
import Derived.Test.YtefejkhcbelahaaDoorRows
import Derived.Test.YtefejkhcbelahaaDoorTie
import Derived.Test.YtefejkhcbelahaaDoorCards
import Derived.Test.YtefejkhcbelahaaDoorKa25
import Derived.WalkKit
import Derived.ProofKit
import Derived.OpenShut
import Derived.ShutString
import Derived.ChangeOld
import Derived.Below
import Derived.SizedLaws
import Derived.LaidMore
import Derived.LaidSub
import Derived.Lay
import Derived.SevenTiedAt
import Derived.Stop.Joined
import Derived.Deep.DeepHandedRow
import Derived.Lib.LaidTab
namespace Go.Proofs.YtefejkhcbelahaaDoor.digitsAlike
open Go.ChangeShapes Go.WideShapes Go.ChangeAt Go.RowKit
set_option linter.unusedVariables false
set_option linter.unusedSimpArgs false
theorem own : ownKnob Tryd.prog.godebug = none := by kernel_rfl
theorem laidOut : laidOutB Tryd.prog = true := by kernel_rfl
theorem gd {W : World} (hL : laidMetH Tryd.prog Rows.digitsAlikeUptoRow.laid W) (hS : W.ShapedOpen Tryd.prog) : Q.Gd W := by
  rw [MakeChecks.laidMetH_plain _ _ _ (by kernel_rfl)] at hL
  have h := hL.filter (fun x => x.1 == "internal/strconv.uint64pow10")
  obtain ⟨g, hg⟩ : ∃ g, Tryd.prog.globalNamed "internal/strconv.uint64pow10" = some g := Option.isSome_iff_exists.1 (by kernel_rfl)
  have e : (Rows.digitsAlikeUptoRow.laid.filter (fun x => x.1 == "internal/strconv.uint64pow10")) = [("internal/strconv.uint64pow10", Lib.tabData .u64 Lib.pow10Tab)] := by kernel_rfl
  rw [e] at h
  exact Lib.tabIs_of_head (rest := []) (g := 0) (t := 124) (e := 87) (n := 20) (by kernel_rfl) (by kernel_rfl) Tryd.underlying124 Tryd.underlying87 (by kernel_rfl) (by kernel_rfl) h
def zeroS : Value := .agg #[.string ByteArray.empty, .string ByteArray.empty, .string ByteArray.empty, .string ByteArray.empty, .string ByteArray.empty, .string ByteArray.empty, .string ByteArray.empty, .string ByteArray.empty, .string ByteArray.empty, .string ByteArray.empty, .string ByteArray.empty, .string ByteArray.empty, .string ByteArray.empty, .string ByteArray.empty, .string ByteArray.empty, .string ByteArray.empty, .string ByteArray.empty, .string ByteArray.empty, .string ByteArray.empty, .string ByteArray.empty, .string ByteArray.empty]
set_option maxRecDepth 100000 in
theorem contract (H : Type) (enc : TypeId × Value → H) (W : World) (base : Nat) (args : Array Value) (ds gs : List (DataW H)) (before : List MemPlace)
    (hval0 : ∀ (j : Nat) t v, Tryd.f7.params[j]? = some t → args[j]? = some v → Value.okWide Tryd.prog W .any base t v)
    (hW : DataW.Whole enc Tryd.prog Tryd.f7.params.toList Rows.digitsAlikeSpec.vars false W args.toList ds gs before)
    (hsz0 : (DataW.weightsEach Tryd.prog (Tryd.f7.params.toList ++ Rows.digitsAlikeSpec.plain.varTypes Tryd.prog) (ds ++ gs)).all (· ≤ reachBytes) = true)
    (hL : laidMetH Tryd.prog Rows.digitsAlikeUptoRow.laid W) (hS : W.ShapedOpen Tryd.prog) (hcond : Rows.uptoSmall H (ds ++ gs) = true) :
    Calls Tryd.prog 7 args W fun e W' => ∃ v, e = .returned v ∧ Rows.digitsAlikeSpec.post enc Tryd.prog Tryd.f7 false true false false W args v W' := by
  have hsz := hsz0
  have hval := hval0
  have hW' := hW
  obtain ⟨p, q, hA0, hV, rfl, hfz, hnd⟩ := hW
  have hA : DataW.TrodAll enc Tryd.prog W 0 (fun _ => true) true Tryd.f7.params.toList args.toList ds p := hA0
  rw [Tryd.params7] at hA hval hsz
  obtain ⟨v0, vs0, d0, ds0, p0, q0, hargs, rfl, rfl, h0, r0⟩ := trodAll_cons hA
  obtain ⟨v1, vs1, d1, ds1, p1, q1, rfl, rfl, rfl, h1, r1⟩ := trodAll_cons r0
  obtain ⟨v2, vs2, d2, ds2, p2, q2, rfl, rfl, rfl, h2, r2⟩ := trodAll_cons r1
  obtain ⟨rfl, rfl, rfl⟩ := trodAll_nil r2
  obtain rfl : args = #[v0, v1, v2] := by cases args; simp_all
  obtain ⟨rfl, rfl⟩ := trodVars_none hV
  obtain ⟨cs0, rfl, hcs0⟩ := okWide_struct Tryd.underlying23 (hval 0 23 v0 rfl rfl)
  have k0 := h0
  have lt0 : ∀ x ∈ p0, x.block < W.heap.size := by obtain ⟨m, hm⟩ := k0; exact DataW.trod_lt m _ _ _ hm
  obtain ⟨x0, hK0, ok0⟩ := Opn.open_arg Q.open23 h0
  obtain e0 := Q.ko23 hK0
  obtain rfl := Array.ext' (xs := cs0) (ys := #[.int .i64 x0.f0, .bool x0.f1, .string x0.f2, .string x0.f3, .int .i64 x0.f4, .bool x0.f5]) e0
  obtain ⟨cs1, rfl, hcs1⟩ := okWide_struct Tryd.underlying26 (hval 1 26 v1 rfl rfl)
  have k1 := h1
  have lt1 : ∀ x ∈ p1, x.block < W.heap.size := by obtain ⟨m, hm⟩ := k1; exact DataW.trod_lt m _ _ _ hm
  obtain ⟨x1, hK1, ok1⟩ := Opn.open_arg Q.open26 h1
  obtain e1 := Q.ko26 hK1
  obtain rfl := Array.ext' (xs := cs1) (ys := #[.string x1.f0.f0, .string x1.f0.f1, .string x1.f0.f2, .string x1.f0.f3, .string x1.f0.f4, .string x1.f0.f5, .string x1.f0.f6, .string x1.f0.f7, .string x1.f0.f8, .string x1.f0.f9, .string x1.f1, .string x1.f2, .string x1.f3, .string x1.f4, .string x1.f5, .string x1.f6, .string x1.f7, .string x1.f8, .string x1.f9, .string x1.f10, .string x1.f11]) e1
  obtain ⟨cs2, rfl, hcs2⟩ := okWide_struct Tryd.underlying28 (hval 2 28 v2 rfl rfl)
  have k2 := h2
  have lt2 : ∀ x ∈ p2, x.block < W.heap.size := by obtain ⟨m, hm⟩ := k2; exact DataW.trod_lt m _ _ _ hm
  obtain ⟨x2, hK2, ok2⟩ := Opn.open_arg Q.open28 h2
  obtain e2 := Q.ko28 hK2
  obtain rfl := Array.ext' (xs := cs2) (ys := #[.int .i64 x2.f0, .int .i64 x2.f1, .int .i64 x2.f2, .bool x2.f3]) e2
  have hbk := of_decide_eq_true hcond
  simp only [List.append_nil, Rows.uptoBulkAll] at hbk
  have b1 := Opn.Light.arg Q.light26 h1
  have hD : Q.Small (Q.symsOf x1.f0.f0 x1.f0.f1 x1.f0.f2 x1.f0.f3 x1.f0.f4 x1.f0.f5 x1.f0.f6 x1.f0.f7 x1.f0.f8 x1.f0.f9) := by
    intro y hy
    simp only [Q.symsOf, List.mem_cons, List.not_mem_nil, or_false] at hy
    rcases hy with rfl | rfl | rfl | rfl | rfl | rfl | rfl | rfl | rfl | rfl
    · have h := b1 _ (show Value.string (x1.f0.f0) ∈ _ from by simp)
      omega
    · have h := b1 _ (show Value.string (x1.f0.f1) ∈ _ from by simp)
      omega
    · have h := b1 _ (show Value.string (x1.f0.f2) ∈ _ from by simp)
      omega
    · have h := b1 _ (show Value.string (x1.f0.f3) ∈ _ from by simp)
      omega
    · have h := b1 _ (show Value.string (x1.f0.f4) ∈ _ from by simp)
      omega
    · have h := b1 _ (show Value.string (x1.f0.f5) ∈ _ from by simp)
      omega
    · have h := b1 _ (show Value.string (x1.f0.f6) ∈ _ from by simp)
      omega
    · have h := b1 _ (show Value.string (x1.f0.f7) ∈ _ from by simp)
      omega
    · have h := b1 _ (show Value.string (x1.f0.f8) ∈ _ from by simp)
      omega
    · have h := b1 _ (show Value.string (x1.f0.f9) ∈ _ from by simp)
      omega
  have g1 : x1.f1.size ≤ 1048576 := by
    have h := b1 x1.f1 (show Value.string x1.f1 ∈ _ from by simp)
    omega
  have g2 : x1.f2.size ≤ 1048576 := by
    have h := b1 x1.f2 (show Value.string x1.f2 ∈ _ from by simp)
    omega
  have g3 : x1.f8.size ≤ 1048576 := by
    have h := b1 x1.f8 (show Value.string x1.f8 ∈ _ from by simp)
    omega
  have g4 : x1.f9.size ≤ 1048576 := by
    have h := b1 x1.f9 (show Value.string x1.f9 ∈ _ from by simp)
    omega
  have c0 := Opn.Light.arg Q.light23 h0
  have ha : x0.f2.size ≤ 140737488355328 := by
    have h := c0 x0.f2 (by simp)
    omega
  have hb : x0.f3.size ≤ 140737488355328 := by
    have h := c0 x0.f3 (by simp)
    omega
  have he := Opn.wf64_le ok0.2.2.2.2.1
  have hi2 : Q.inI x2.f0 = true ∧ Q.inI x2.f1 = true ∧ Q.inI x2.f2 = true := ⟨Q.inI_wf ok2.1, Q.inI_wf ok2.2.1, Q.inI_wf ok2.2.2.1⟩
  clear hA0 hval0 hsz0
  refine (Q.alike_row W (gd hL hS) x0.f0 x0.f1 x0.f2 x0.f3 x0.f4 x0.f5 x1.f0.f0 x1.f0.f1 x1.f0.f2 x1.f0.f3 x1.f0.f4 x1.f0.f5 x1.f0.f6 x1.f0.f7 x1.f0.f8 x1.f0.f9 x1.f1 x1.f2 x1.f3 x1.f4 x1.f5 x1.f6 x1.f7 x1.f8 x1.f9 x1.f10 x1.f11 x2.f0 x2.f1 x2.f2 x2.f3 hD g1 g2 g3 g4 ha hb he hi2.1 hi2.2.1 hi2.2.2).mono fun e W' ⟨he, bel⟩ => ?_
  subst he
  exact ⟨_, rfl, _, _, _, [], _, [], hW', trodAll_mk1 (shut_bool Tryd.underlying4 _), (trodAll_cons_mk (Below.trod laidOut (by kernel_rfl) (of_decide_eq_true (by kernel_rfl)) k0 bel lt0) (trodAll_cons_mk (Below.trod laidOut (by kernel_rfl) (of_decide_eq_true (by kernel_rfl)) k1 bel lt1) (trodAll_cons_mk (Below.trod laidOut (by kernel_rfl) (of_decide_eq_true (by kernel_rfl)) k2 bel lt2) trodAll_mk0))), rfl, bel.frame _, fun h => by cases h⟩
theorem reads (os : Os) {H : Type} (enc : TypeId × Value → H) : DataW.whole enc Tryd.prog ((World.laidAll Tryd.prog os Rows.digitsAlikeUptoRow.laid).forCall (fun _ _ => 0) ⟨#[], #[.agg #[.int .i64 0, .bool false, .string ByteArray.empty, .string ByteArray.empty, .int .i64 0, .bool false], zeroS, .agg #[.int .i64 0, .int .i64 0, .int .i64 0, .bool false]], []⟩).memory Tryd.f7.params.toList Rows.digitsAlikeSpec.vars false #[.agg #[.int .i64 0, .bool false, .string ByteArray.empty, .string ByteArray.empty, .int .i64 0, .bool false], zeroS, .agg #[.int .i64 0, .int .i64 0, .int .i64 0, .bool false]].toList 8 = some ([.agg [.lit (.int .i64 0), .lit (.bool false), .lit (.string []), .lit (.string []), .lit (.int .i64 0), .lit (.bool false)], .agg [.agg [.lit (.string []), .lit (.string []), .lit (.string []), .lit (.string []), .lit (.string []), .lit (.string []), .lit (.string []), .lit (.string []), .lit (.string []), .lit (.string [])], .lit (.string []), .lit (.string []), .lit (.string []), .lit (.string []), .lit (.string []), .lit (.string []), .lit (.string []), .lit (.string []), .lit (.string []), .lit (.string []), .lit (.string [])], .agg [.lit (.int .i64 0), .lit (.int .i64 0), .lit (.int .i64 0), .lit (.bool false)]], [], []) := by kernel_rfl
set_option maxRecDepth 100000 in
theorem lifted (os : Os) (started : os.Started) (H : Type) (enc : TypeId × Value → H) (F : Stop.Interp) :
    ReturnsInHanded {} Tryd.checked os 7 .any ((Rows.OpenSpec.upto Rows.digitsAlikeSpec).preRow enc Tryd.prog Tryd.f7 Rows.digitsAlikeUptoRow.domain false Rows.digitsAlikeUptoRow.laid) (((Rows.OpenSpec.upto Rows.digitsAlikeSpec).at F).post enc Tryd.prog Tryd.f7 false true false false) := by
  refine returnsInHanded_of_row (C := Tryd.checked) (s := (Rows.OpenSpec.upto Rows.digitsAlikeSpec)) own started (by kernel_rfl) Tryd.func7
    (witness_row_at (enc := enc) (C := Tryd.checked) false (World.laidAll Tryd.prog os Rows.digitsAlikeUptoRow.laid) #[.agg #[.int .i64 0, .bool false, .string ByteArray.empty, .string ByteArray.empty, .int .i64 0, .bool false], zeroS, .agg #[.int .i64 0, .int .i64 0, .int .i64 0, .bool false]] (World.laidAll_os _ _ _) (by kernel_rfl) (by kernel_rfl) (by kernel_rfl)
      (OpenSpec.preRow_of_cond 8 (reads os enc) (by kernel_rfl) (fun k hk => by cases hk; kernel_rfl) (by kernel_rfl) (by rw [MakeChecks.laidMetH_plain _ _ _ (by kernel_rfl)]; exact laidMet_laidAll _ (by kernel_rfl) (by kernel_rfl)))) ?_
  intro W base args ds gs before hval hW _ hcond hsz hL hS _
  exact contract H enc W base args ds gs before hval hW hsz hL hS (hcond _ rfl)
theorem over : Rows.digitsAlikeUptoRow.holds Tryd.pinned (Rows.OpenSpec.upto Rows.digitsAlikeSpec) :=
  OpenClaim.holds_of_cond 7 Tryd.f7 rfl rfl rfl rfl rfl rfl rfl ⟨rfl, rfl, rfl, rfl, rfl⟩ rfl rfl rfl rfl rfl (by kernel_rfl) Tryd.func7 (by kernel_rfl)
    (of_decide_eq_true (by kernel_rfl)) (by unfold Func.isWrapper; first | (rw [if_pos (by decide +kernel)]; kernel_rfl) | (rw [if_neg (by decide +kernel)]; exact ⟨rfl, rfl⟩))
    (fun os started H enc _ F => by rw [OpenClaim.pre_eq_preRow]; exact lifted os started H enc F)
theorem card : Rows.DigitsAlikeUptoCardSaid :=
  Claim7.holds_tied_plain_at .later [] [.data, .data, .data, .data, .pinned] true (true, "1eeeeb1fb95d8e9eb3db3bbf8996531f6b2fa83db6242408c93eacc4bbbe17d6") false
    over (fun _ h => by cases h) (by kernel_rfl) (fun _ h => by cases h) digitsAlikeUpto_row_tie rfl ⟨rfl, rfl⟩ (by kernel_rfl) rfl
    (fun f fn hf hfn => by
      obtain rfl : f = 7 := Option.some.inj ((show Tryd.prog.funcNamed "quipu/quipulaw16.DigitsAlike" = some 7 by kernel_rfl).symm.trans hf) |>.symm
      obtain rfl : fn = Tryd.f7 := (Option.some.inj (Tryd.func7.symm.trans hfn)).symm
      exact ⟨by kernel_rfl, fun j t ht => by
        rw [Tryd.params7] at ht
        have h2 := List.mem_of_getElem? (l := [23, 26, 28]) (i := j) (by simpa using ht)
        simp only [List.mem_cons, List.not_mem_nil, or_false] at h2
        rcases h2 with rfl | rfl | rfl
        · exact (show Tryd.prog.wantsStandIn 23 = false by kernel_rfl)
        · exact (show Tryd.prog.wantsStandIn 26 = false by kernel_rfl)
        · exact (show Tryd.prog.wantsStandIn 28 = false by kernel_rfl)⟩)
    (by kernel_rfl)
#print axioms card
end Go.Proofs.YtefejkhcbelahaaDoor.digitsAlike
namespace Go.Proofs.YtefejkhcbelahaaDoor
/-- The card, under a short name, for the claim. -/
theorem digitsAlike_holds : Rows.DigitsAlikeUptoCardSaid := digitsAlike.card
end Go.Proofs.YtefejkhcbelahaaDoor
