/- For every exponent, least number of digits and all symbols, the pieces are those that the document says, where what is read is together of bulk at most 1048576; the input reads as_ it did. Conditions: none beyond the given card's of the second form. -/
import Derived.Test.YtefejkhcbelahaaDoorRows
import Derived.Test.YtefejkhcbelahaaDoorTie
import Derived.Test.YtefejkhcbelahaaDoorCards
import Derived.Test.YtefejkhcbelahaaDoorKe32
import Derived.WalkKit
import Derived.ProofKit
import Derived.OpenShut
import Derived.ShutString
import Derived.ChangeOld
import Derived.Below
import Derived.SizedLaws
import Derived.LaidMore
import Derived.LaidSub
import Derived.Lay
import Derived.SevenTiedAt
import Derived.Stop.Joined
import Derived.Deep.DeepHandedRow
import Derived.Lib.LaidTab
namespace Go.Proofs.YtefejkhcbelahaaDoor.digitsExponent
open Go.ChangeShapes Go.WideShapes Go.ChangeAt Go.RowKit
set_option linter.unusedVariables false
set_option linter.unusedSimpArgs false
theorem own : ownKnob Tryd.prog.godebug = none := by kernel_rfl
theorem laidOut : laidOutB Tryd.prog = true := by kernel_rfl
theorem gd {W : World} (hL : laidMetH Tryd.prog Rows.digitsExponentUptoRow.laid W) (hS : W.ShapedOpen Tryd.prog) : Q.Gd W := by
  rw [MakeChecks.laidMetH_plain _ _ _ (by kernel_rfl)] at hL
  have h := hL.filter (fun x => x.1 == "internal/strconv.uint64pow10")
  obtain ⟨g, hg⟩ : ∃ g, Tryd.prog.globalNamed "internal/strconv.uint64pow10" = some g := Option.isSome_iff_exists.1 (by kernel_rfl)
  have e : (Rows.digitsExponentUptoRow.laid.filter (fun x => x.1 == "internal/strconv.uint64pow10")) = [("internal/strconv.uint64pow10", Lib.tabData .u64 Lib.pow10Tab)] := by kernel_rfl
  rw [e] at h
  exact Lib.tabIs_of_head (rest := []) (g := 0) (t := 124) (e := 87) (n := 20) (by kernel_rfl) (by kernel_rfl) Tryd.underlying124 Tryd.underlying87 (by kernel_rfl) (by kernel_rfl) h
def zeroW : Value := .agg #[.bool false, .string ByteArray.empty, .string ByteArray.empty, .string ByteArray.empty, .string ByteArray.empty, .string ByteArray.empty, .string ByteArray.empty, .string ByteArray.empty, .string ByteArray.empty, .string ByteArray.empty, .string ByteArray.empty, .string ByteArray.empty, .string ByteArray.empty, .string ByteArray.empty, .string ByteArray.empty, .string ByteArray.empty, .string ByteArray.empty, .string ByteArray.empty, .string ByteArray.empty, .string ByteArray.empty, .string ByteArray.empty, .string ByteArray.empty]
set_option maxRecDepth 100000 in
theorem contract (H : Type) (enc : TypeId × Value → H) (W : World) (base : Nat) (args : Array Value) (ds gs : List (DataW H)) (before : List MemPlace)
    (hval0 : ∀ (j : Nat) t v, Tryd.f4.params[j]? = some t → args[j]? = some v → Value.okWide Tryd.prog W .any base t v)
    (hW : DataW.Whole enc Tryd.prog Tryd.f4.params.toList Rows.digitsExponentSpec.vars false W args.toList ds gs before)
    (hsz0 : (DataW.weightsEach Tryd.prog (Tryd.f4.params.toList ++ Rows.digitsExponentSpec.plain.varTypes Tryd.prog) (ds ++ gs)).all (· ≤ reachBytes) = true)
    (hL : laidMetH Tryd.prog Rows.digitsExponentUptoRow.laid W) (hS : W.ShapedOpen Tryd.prog) (hcond : Rows.uptoSmall H (ds ++ gs) = true) :
    Calls Tryd.prog 4 args W fun e W' => ∃ v, e = .returned v ∧ Rows.digitsExponentSpec.post enc Tryd.prog Tryd.f4 false true false false W args v W' := by
  have hsz := hsz0
  have hval := hval0
  have hW' := hW
  obtain ⟨p, q, hA0, hV, rfl, hfz, hnd⟩ := hW
  have hA : DataW.TrodAll enc Tryd.prog W 0 (fun _ => true) true Tryd.f4.params.toList args.toList ds p := hA0
  rw [Tryd.params4] at hA hval hsz
  obtain ⟨v0, vs0, d0, ds0, p0, q0, hargs, rfl, rfl, h0, r0⟩ := trodAll_cons hA
  obtain ⟨v1, vs1, d1, ds1, p1, q1, rfl, rfl, rfl, h1, r1⟩ := trodAll_cons r0
  obtain ⟨v2, vs2, d2, ds2, p2, q2, rfl, rfl, rfl, h2, r2⟩ := trodAll_cons r1
  obtain ⟨rfl, rfl, rfl⟩ := trodAll_nil r2
  obtain rfl : args = #[v0, v1, v2] := by cases args; simp_all
  obtain ⟨rfl, rfl⟩ := trodVars_none hV
  obtain ⟨a0, rfl, rfl, rfl, w0⟩ := open_int Tryd.underlying3 (hval 0 3 v0 rfl rfl) h0
  obtain ⟨a1, rfl, rfl, rfl, w1⟩ := open_int Tryd.underlying3 (hval 1 3 v1 rfl rfl) h1
  obtain ⟨cs2, rfl, hcs2⟩ := okWide_struct Tryd.underlying38 (hval 2 38 v2 rfl rfl)
  have k2 := h2
  have lt2 : ∀ x ∈ p2, x.block < W.heap.size := by obtain ⟨m, hm⟩ := k2; exact DataW.trod_lt m _ _ _ hm
  obtain ⟨x2, hK2, ok2⟩ := Opn.open_arg Q.open38 h2
  obtain e2 := Q.ko38 hK2
  obtain rfl := Array.ext' (xs := cs2) (ys := #[.bool x2.f0, .string x2.f1.f0.f0, .string x2.f1.f0.f1, .string x2.f1.f0.f2, .string x2.f1.f0.f3, .string x2.f1.f0.f4, .string x2.f1.f0.f5, .string x2.f1.f0.f6, .string x2.f1.f0.f7, .string x2.f1.f0.f8, .string x2.f1.f0.f9, .string x2.f1.f1, .string x2.f1.f2, .string x2.f1.f3, .string x2.f1.f4, .string x2.f1.f5, .string x2.f1.f6, .string x2.f1.f7, .string x2.f1.f8, .string x2.f1.f9, .string x2.f1.f10, .string x2.f1.f11]) e2
  have hbk := of_decide_eq_true hcond
  simp only [List.append_nil, Rows.uptoBulkAll] at hbk
  have b2 := Opn.Light.arg Q.light38 h2
  have hD : Q.Small (Q.symsOf x2.f1.f0.f0 x2.f1.f0.f1 x2.f1.f0.f2 x2.f1.f0.f3 x2.f1.f0.f4 x2.f1.f0.f5 x2.f1.f0.f6 x2.f1.f0.f7 x2.f1.f0.f8 x2.f1.f0.f9) := by
    intro y hy
    simp only [Q.symsOf, List.mem_cons, List.not_mem_nil, or_false] at hy
    rcases hy with rfl | rfl | rfl | rfl | rfl | rfl | rfl | rfl | rfl | rfl
    · have h := b2 _ (show Value.string (x2.f1.f0.f0) ∈ _ from by simp)
      omega
    · have h := b2 _ (show Value.string (x2.f1.f0.f1) ∈ _ from by simp)
      omega
    · have h := b2 _ (show Value.string (x2.f1.f0.f2) ∈ _ from by simp)
      omega
    · have h := b2 _ (show Value.string (x2.f1.f0.f3) ∈ _ from by simp)
      omega
    · have h := b2 _ (show Value.string (x2.f1.f0.f4) ∈ _ from by simp)
      omega
    · have h := b2 _ (show Value.string (x2.f1.f0.f5) ∈ _ from by simp)
      omega
    · have h := b2 _ (show Value.string (x2.f1.f0.f6) ∈ _ from by simp)
      omega
    · have h := b2 _ (show Value.string (x2.f1.f0.f7) ∈ _ from by simp)
      omega
    · have h := b2 _ (show Value.string (x2.f1.f0.f8) ∈ _ from by simp)
      omega
    · have h := b2 _ (show Value.string (x2.f1.f0.f9) ∈ _ from by simp)
      omega
  clear hA0 hval0 hsz0
  refine (Q.exponent_row W (gd hL hS) a0 a1 x2.f0 x2.f1.f0.f0 x2.f1.f0.f1 x2.f1.f0.f2 x2.f1.f0.f3 x2.f1.f0.f4 x2.f1.f0.f5 x2.f1.f0.f6 x2.f1.f0.f7 x2.f1.f0.f8 x2.f1.f0.f9 x2.f1.f1 x2.f1.f2 x2.f1.f3 x2.f1.f4 x2.f1.f5 x2.f1.f6 x2.f1.f7 x2.f1.f8 x2.f1.f9 x2.f1.f10 x2.f1.f11 hD (Q.inI_wf w0) (Q.inI_wf w1)).mono fun e W' ⟨he, bel⟩ => ?_
  subst he
  exact ⟨_, rfl, _, _, _, [], _, [], hW', trodAll_mk1 (shut_bool Tryd.underlying4 _), (trodAll_cons_mk (shut_int Tryd.underlying3 w0) (trodAll_cons_mk (shut_int Tryd.underlying3 w1) (trodAll_cons_mk (Below.trod laidOut (by kernel_rfl) (of_decide_eq_true (by kernel_rfl)) k2 bel lt2) trodAll_mk0))), rfl, bel.frame _, fun h => by cases h⟩
theorem reads (os : Os) {H : Type} (enc : TypeId × Value → H) : DataW.whole enc Tryd.prog ((World.laidAll Tryd.prog os Rows.digitsExponentUptoRow.laid).forCall (fun _ _ => 0) ⟨#[], #[.int .i64 0, .int .i64 0, zeroW], []⟩).memory Tryd.f4.params.toList Rows.digitsExponentSpec.vars false #[.int .i64 0, .int .i64 0, zeroW].toList 8 = some ([.lit (.int .i64 0), .lit (.int .i64 0), .agg [.lit (.bool false), .agg [.agg [.lit (.string []), .lit (.string []), .lit (.string []), .lit (.string []), .lit (.string []), .lit (.string []), .lit (.string []), .lit (.string []), .lit (.string []), .lit (.string [])], .lit (.string []), .lit (.string []), .lit (.string []), .lit (.string []), .lit (.string []), .lit (.string []), .lit (.string []), .lit (.string []), .lit (.string []), .lit (.string []), .lit (.string [])]]], [], []) := by kernel_rfl
set_option maxRecDepth 100000 in
theorem lifted (os : Os) (started : os.Started) (H : Type) (enc : TypeId × Value → H) (F : Stop.Interp) :
    ReturnsInHanded {} Tryd.checked os 4 .any ((Rows.OpenSpec.upto Rows.digitsExponentSpec).preRow enc Tryd.prog Tryd.f4 Rows.digitsExponentUptoRow.domain false Rows.digitsExponentUptoRow.laid) (((Rows.OpenSpec.upto Rows.digitsExponentSpec).at F).post enc Tryd.prog Tryd.f4 false true false false) := by
  refine returnsInHanded_of_row (C := Tryd.checked) (s := (Rows.OpenSpec.upto Rows.digitsExponentSpec)) own started (by kernel_rfl) Tryd.func4
    (witness_row_at (enc := enc) (C := Tryd.checked) false (World.laidAll Tryd.prog os Rows.digitsExponentUptoRow.laid) #[.int .i64 0, .int .i64 0, zeroW] (World.laidAll_os _ _ _) (by kernel_rfl) (by kernel_rfl) (by kernel_rfl)
      (OpenSpec.preRow_of_cond 8 (reads os enc) (by kernel_rfl) (fun k hk => by cases hk; kernel_rfl) (by kernel_rfl) (by rw [MakeChecks.laidMetH_plain _ _ _ (by kernel_rfl)]; exact laidMet_laidAll _ (by kernel_rfl) (by kernel_rfl)))) ?_
  intro W base args ds gs before hval hW _ hcond hsz hL hS _
  exact contract H enc W base args ds gs before hval hW hsz hL hS (hcond _ rfl)
theorem over : Rows.digitsExponentUptoRow.holds Tryd.pinned (Rows.OpenSpec.upto Rows.digitsExponentSpec) :=
  OpenClaim.holds_of_cond 4 Tryd.f4 rfl rfl rfl rfl rfl rfl rfl ⟨rfl, rfl, rfl, rfl, rfl⟩ rfl rfl rfl rfl rfl (by kernel_rfl) Tryd.func4 (by kernel_rfl)
    (of_decide_eq_true (by kernel_rfl)) (by unfold Func.isWrapper; first | (rw [if_pos (by decide +kernel)]; kernel_rfl) | (rw [if_neg (by decide +kernel)]; exact ⟨rfl, rfl⟩))
    (fun os started H enc _ F => by rw [OpenClaim.pre_eq_preRow]; exact lifted os started H enc F)
theorem card : Rows.DigitsExponentUptoCardSaid :=
  Claim7.holds_tied_plain_at .later [] [.data, .data, .data, .data, .pinned] true (true, "1eeeeb1fb95d8e9eb3db3bbf8996531f6b2fa83db6242408c93eacc4bbbe17d6") false
    over (fun _ h => by cases h) (by kernel_rfl) (fun _ h => by cases h) digitsExponentUpto_row_tie rfl ⟨rfl, rfl⟩ (by kernel_rfl) rfl
    (fun f fn hf hfn => by
      obtain rfl : f = 4 := Option.some.inj ((show Tryd.prog.funcNamed "quipu/quipulaw16.DigitsExponent" = some 4 by kernel_rfl).symm.trans hf) |>.symm
      obtain rfl : fn = Tryd.f4 := (Option.some.inj (Tryd.func4.symm.trans hfn)).symm
      exact ⟨by kernel_rfl, fun j t ht => by
        rw [Tryd.params4] at ht
        have h2 := List.mem_of_getElem? (l := [3, 3, 38]) (i := j) (by simpa using ht)
        simp only [List.mem_cons, List.not_mem_nil, or_false] at h2
        rcases h2 with rfl | rfl | rfl
        · exact (show Tryd.prog.wantsStandIn 3 = false by kernel_rfl)
        · exact (show Tryd.prog.wantsStandIn 3 = false by kernel_rfl)
        · exact (show Tryd.prog.wantsStandIn 38 = false by kernel_rfl)⟩)
    (by kernel_rfl)
#print axioms card
end Go.Proofs.YtefejkhcbelahaaDoor.digitsExponent
namespace Go.Proofs.YtefejkhcbelahaaDoor
/-- The card, under a short name, for the claim. -/
theorem digitsExponent_holds : Rows.DigitsExponentUptoCardSaid := digitsExponent.card
end Go.Proofs.YtefejkhcbelahaaDoor
