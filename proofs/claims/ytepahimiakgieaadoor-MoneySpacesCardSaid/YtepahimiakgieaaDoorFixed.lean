import Derived.Test.YtepahimiakgieaaDoorFindU
import Derived.Test.YtepahimiakgieaaDoorSpace
import Derived.Test.YtepahimiakgieaaDoorEqs
import Derived.Test.YtepahimiakgieaaDoorQ34
import Derived.Test.YtepahimiakgieaaDoorQ40
import Derived.Test.YtepahimiakgieaaDoorQ41
namespace Go.Proofs.YtepahimiakgieaaDoor.Q
open Go.RowKit Go.Proofs.YtepahimiakgieaaDoorW.PrintWords Go.Proofs.YtepahimiakgieaaDoorW.PrintMore
set_option linter.unusedVariables false
set_option linter.unusedSimpArgs false

/-! ### The calls whose answers the document fixes -/
def usd : ByteArray := ⟨#[85, 83, 68]⟩
def usdC : S24 := ⟨⟨#[85, 83, 68]⟩, ⟨#[36]⟩, ⟨#[110]⟩, z22, 2, 2, 5⟩
theorem fx_coin : cpick ⟨#[85, 83, 68]⟩ [usdC] = usdC ∧ cerr ⟨#[85, 83, 68]⟩ [usdC] 200 = 0 := by
  have h : [usdC].findIdx (cis ⟨#[85, 83, 68]⟩) = 0 := by
    rw [List.findIdx_cons]
    have : cis ⟨#[85, 83, 68]⟩ usdC = true := by unfold cis; exact beq_iff_eq.2 rfl
    rw [this]; rfl
  unfold cpick cerr
  rw [h]
  exact ⟨rfl, rfl⟩
theorem coin_reads {w : World} {g : Nat} (hb : w.heap[g]? = some (.cells #[.string ⟨#[85, 83, 68]⟩, .string ⟨#[36]⟩, .string ⟨#[110]⟩, .string ⟨#[]⟩, .string ⟨#[]⟩, .string ⟨#[]⟩, .string ⟨#[]⟩, .string ⟨#[]⟩, .string ⟨#[]⟩, .int .i64 2, .int .i64 2, .int .i64 5] 24 (0, 0))) : Kd.C k24 w (some ⟨g, 0, none⟩) [usdC].length [usdC] := by
  refine C_block hb (by simp) (fun j p hj => ?_)
  cases j with
  | succ j => simp at hj
  | zero =>
    have : usdC = p := by simpa using hj
    subst this
    refine ⟨_, rfl, k24_mk w usdC, fun i u hu => ?_⟩
    rw [Nat.zero_mul, Nat.zero_add]
    have hu2 : ([.string ⟨#[85, 83, 68]⟩, .string ⟨#[36]⟩, .string ⟨#[110]⟩, .string ⟨#[]⟩, .string ⟨#[]⟩, .string ⟨#[]⟩, .string ⟨#[]⟩, .string ⟨#[]⟩, .string ⟨#[]⟩, .int .i64 2, .int .i64 2, .int .i64 5] : List Value)[i]? = some u := hu
    simpa using hu2
theorem fx_coin_calls (g : Nat) (w : World) (hb : w.heap[g]? = some (.cells #[.string ⟨#[85, 83, 68]⟩, .string ⟨#[36]⟩, .string ⟨#[110]⟩, .string ⟨#[]⟩, .string ⟨#[]⟩, .string ⟨#[]⟩, .string ⟨#[]⟩, .string ⟨#[]⟩, .string ⟨#[]⟩, .int .i64 2, .int .i64 2, .int .i64 5] 24 (0, 0))) :
    Calls Tryd.prog 20 #[.agg #[.string ⟨#[]⟩, .string ⟨#[]⟩, .string ⟨#[]⟩, .string ⟨#[]⟩, .string ⟨#[]⟩, .string ⟨#[]⟩, .string ⟨#[]⟩, .string ⟨#[]⟩, .string ⟨#[]⟩, .string ⟨#[]⟩, .string ⟨#[]⟩, .string ⟨#[]⟩, .string ⟨#[]⟩, .string ⟨#[]⟩, .string ⟨#[]⟩, .string ⟨#[]⟩, .string ⟨#[]⟩, .string ⟨#[]⟩, .string ⟨#[]⟩, .string ⟨#[]⟩, .string ⟨#[]⟩, .string ⟨#[]⟩, .int .i64 0, .string ⟨#[]⟩, .string ⟨#[]⟩, .string ⟨#[]⟩, .string ⟨#[]⟩, .string ⟨#[]⟩, .string ⟨#[]⟩, .string ⟨#[]⟩, .slice none 0 0, .slice none 0 0, .slice (some ⟨g, 0, none⟩) 1 1, .slice none 0 0, .string ⟨#[]⟩], .string ⟨#[85, 83, 68]⟩] w fun e w' => e = .returned (.tuple #[.agg #[.string ⟨#[85, 83, 68]⟩, .string ⟨#[36]⟩, .string ⟨#[110]⟩, .string ⟨#[]⟩, .string ⟨#[]⟩, .string ⟨#[]⟩, .string ⟨#[]⟩, .string ⟨#[]⟩, .string ⟨#[]⟩, .int .i64 2, .int .i64 2, .int .i64 5], .int .i64 0]) ∧ Below w.heap.size w w' := by
  refine money_Coin.calls ⟨#[]⟩ ⟨#[]⟩ ⟨#[]⟩ ⟨#[]⟩ ⟨#[]⟩ ⟨#[]⟩ ⟨#[]⟩ ⟨#[]⟩ ⟨#[]⟩ ⟨#[]⟩ ⟨#[]⟩ ⟨#[]⟩ ⟨#[]⟩ ⟨#[]⟩ ⟨#[]⟩ ⟨#[]⟩ ⟨#[]⟩ ⟨#[]⟩ ⟨#[]⟩ ⟨#[]⟩ ⟨#[]⟩ ⟨#[]⟩ 0 ⟨#[]⟩ ⟨#[]⟩ ⟨#[]⟩ ⟨#[]⟩ ⟨#[]⟩ ⟨#[]⟩ ⟨#[]⟩ none 0 [] none 0 [] (some ⟨g, 0, none⟩) 1 [usdC] none 0 [] ⟨#[]⟩ ⟨#[85, 83, 68]⟩ ⟨#[85, 83, 68]⟩ ⟨#[36]⟩ ⟨#[110]⟩ ⟨#[]⟩ ⟨#[]⟩ ⟨#[]⟩ ⟨#[]⟩ ⟨#[]⟩ ⟨#[]⟩ 2 2 5 0 w (Kd.C_nil _ _) (Nat.le_refl _) (Kd.C_nil _ _) (Nat.le_refl _) (coin_reads hb) (Nat.le_refl _) (Kd.C_nil _ _) (Nat.le_refl _) ?_
  unfold money_Coin.f
  rw [fx_coin.1, fx_coin.2]
  rfl
theorem fx_prec : money_Precision.f 2 ⟨#[85, 83, 68]⟩ ⟨#[36]⟩ ⟨#[110]⟩ ⟨#[]⟩ ⟨#[]⟩ ⟨#[]⟩ ⟨#[]⟩ ⟨#[]⟩ ⟨#[]⟩ 2 2 5 true 0 0 0 0 0 false 0 false ⟨#[]⟩ 0 0 false 0 0 = some (4, 2, 0, 0, 0, false, 0, false, ⟨#[53]⟩, -2, 0, false, 0, 0) := by
  unfold money_Precision.f
  rw [if_pos rfl, if_pos rfl]
  simp only [money_Precision.j0]
  have e1 : strconv_Itoa.f 5 = some (⟨#[53]⟩ : ByteArray) := by
    unfold strconv_Itoa.f
    rw [if_pos (by decide), if_pos (by decide)]
    have : Lib.itoa 5 = [53] := by
      unfold Lib.itoa
      rw [if_neg (by decide)]
      exact Lib.decDigits_one (i := 5) (by decide)
    rw [this]; rfl
  have e2 : strings_TrimRight.f ⟨#[53]⟩ ⟨#[48]⟩ = some (⟨#[53]⟩ : ByteArray) := by
    unfold strings_TrimRight.f
    rw [if_pos (by decide +kernel), if_pos (by decide)]
    have : Lib.trimRightS (⟨#[53]⟩ : ByteArray).data.toList (⟨#[48]⟩ : ByteArray).data.toList = [53] := by decide +kernel
    rw [this]; rfl
  rw [if_pos (by decide), e1]
  simp only [Option.bind_some]
  rw [e2]
  simp only [Option.bind_some]
  have hw : wrap64 (wrap64 (((⟨#[53]⟩ : ByteArray).size : Int) - ((⟨#[53]⟩ : ByteArray).size : Int)) - 2) = -2 := by
    rw [Int.sub_self]; unfold wrap64; decide
  rw [hw]
theorem fx_cut : money_Cut.f ⟨#[97, 32, 123, 48, 125, 98]⟩ = some (⟨#[97, 32]⟩, ⟨#[98]⟩, true) := by
  unfold money_Cut.f strings_Cut.f
  rw [if_pos (by decide)]
  simp only [Option.bind_some]
  have e : Lib.cut (⟨#[97, 32, 123, 48, 125, 98]⟩ : ByteArray).data.toList (⟨#[123, 48, 125]⟩ : ByteArray).data.toList = ([97, 32], [98], true) := by decide +kernel
  rw [e]
  rfl
theorem fx_form : money_Form.f ⟨#[]⟩ ⟨#[]⟩ ⟨#[]⟩ ⟨#[]⟩ ⟨#[]⟩ ⟨#[111]⟩ 1 = some ⟨#[111]⟩ := by
  unfold money_Form.f formP
  simp
theorem fx_symbol : money_Symbol.f ⟨#[85, 83, 68]⟩ ⟨#[36]⟩ ⟨#[110]⟩ ⟨#[]⟩ ⟨#[]⟩ ⟨#[]⟩ ⟨#[]⟩ ⟨#[]⟩ ⟨#[]⟩ 2 2 5 1 = some ⟨#[110]⟩ := rfl
theorem fx_left : leftS [(⟨⟨#[85, 83]⟩, 11⟩ : S43)] ⟨#[95]⟩ = [(⟨⟨#[85, 83]⟩, 11⟩ : S43), ⟨⟨#[95]⟩, 0⟩] := by
  unfold leftS leftP
  rw [if_neg (by decide)]
  rfl
theorem fx_right : rightS ([] : List S43) ⟨#[95]⟩ = [] := by
  unfold rightS rightP
  rw [if_neg (by decide)]
  rfl
theorem piece_reads {w : World} {g : Nat} {s : ByteArray} {n : Int} (hb : w.heap[g]? = some (.cells #[.string s, .int .i64 n] 43 (0, 0))) : Kd.C k43 w (some ⟨g, 0, none⟩) [(⟨s, n⟩ : S43)].length [(⟨s, n⟩ : S43)] := by
  refine C_block hb (by simp) (fun j p hj => ?_)
  cases j with
  | succ j => simp at hj
  | zero =>
    have : (⟨s, n⟩ : S43) = p := by simpa using hj
    subst this
    refine ⟨[.string s, .int .i64 n], rfl, k43_mk w _, fun i u hu => ?_⟩
    match i, hu with
    | 0, hu => simpa using hu
    | 1, hu => simpa using hu
theorem fx_space_calls (g : Nat) (w : World) (hb : w.heap[g]? = some (.cells #[.string ⟨#[85, 83]⟩, .int .i64 11] 43 (0, 0))) :
    Calls Tryd.prog 17 #[.slice (some ⟨g, 0, none⟩) 1 1, .slice none 0 0, .string ⟨#[95]⟩] w fun e w' => ∃ B0 B1 : Option Addr, e = .returned (.tuple #[.slice B0 2 2, .slice B1 0 0]) ∧
      (∃ k, B0 = some ⟨k, 0, none⟩) ∧ (∀ k, B0 = some ⟨k, 0, none⟩ → w'.cell? ⟨k, 2, none⟩ = some (.string ⟨#[95]⟩)) ∧ Below w.heap.size w w' := by
  have h := space_calls (some ⟨g, 0, none⟩) 1 [(⟨⟨#[85, 83]⟩, 11⟩ : S43)] none 0 [] ⟨#[95]⟩ w (piece_reads hb) (Nat.le_refl _) (Kd.C_nil _ _) (Nat.le_refl _) (by simp) (by simp) (fun p hp => by rw [show p = ⟨⟨#[85, 83]⟩, 11⟩ by simpa using hp]; decide)
  rw [fx_left, fx_right] at h
  refine h.mono ?_
  rintro e w' ⟨B0, B1, he, ho, _, _, hb'⟩
  obtain ⟨hC, _, ho⟩ := ho
  refine ⟨B0, B1, he, ?_, ?_, hb'⟩
  · rcases ho with ⟨h0, _⟩ | ⟨k, cur, e2, _⟩
    · cases h0
    · exact ⟨k, e2⟩
  · rintro k rfl
    obtain ⟨ad, e2, h1, _⟩ := at_T43 hC 1 (by decide) (by decide)
    injection e2 with e2
    subst e2
    exact h1
def quipulaw20_fixed.f : Option Bool := some true
attribute [local go_sem high] eqA24 eqA26
set_option maxHeartbeats 4000000 in
set_option maxRecDepth 100000 in
theorem fixed_calls (w : World) (hG : Gd w) : Calls Tryd.prog 7 #[] w fun e w' => e = .returned (.bool true) ∧ Below w.heap.size w w' := by
  have hu24 := Tryd.underlying24
  have hu26 := Tryd.underlying26
  have hu28 := Tryd.underlying28
  have HG := Aside0.mk hG
  clear hG
  go_enter Tryd.func7, Tryd.ntmps7
  go_wp2_with fail
  refine (fx_coin_calls (w.heap.size + 1) _ (blk_new1 _ _ _)).mono ?_
  rintro e w1 ⟨rfl, hb⟩
  have G1 : Aside0 (w1.heap[w.heap.size]? = some (.cells #[.string ⟨#[85, 83, 68]⟩, .string ⟨#[36]⟩, .string ⟨#[110]⟩, .string ⟨#[]⟩, .string ⟨#[]⟩, .string ⟨#[]⟩, .string ⟨#[]⟩, .string ⟨#[]⟩, .string ⟨#[]⟩, .int .i64 2, .int .i64 2, .int .i64 5] 24 (0, 0))) := ⟨blk_below (blk_alloc (blk_new _ _) _) hb⟩
  have HB1 := Aside0.mk (below_step (below_alloc (below_alloc (Below.refl _ _) _) _) hb)
  clear hb
  have s1 : w.heap.size < w1.heap.size := blk_lt G1.out
  have c0 : w1.cell? ⟨w.heap.size, 0, none⟩ = some (.string ⟨#[85, 83, 68]⟩) := (blk_cell G1.out 0).trans rfl
  have c1 : w1.cell? ⟨w.heap.size, 1, none⟩ = some (.string ⟨#[36]⟩) := (blk_cell G1.out 1).trans rfl
  have c2 : w1.cell? ⟨w.heap.size, 2, none⟩ = some (.string ⟨#[110]⟩) := (blk_cell G1.out 2).trans rfl
  have c3 : w1.cell? ⟨w.heap.size, 3, none⟩ = some (.string ⟨#[]⟩) := (blk_cell G1.out 3).trans rfl
  have c4 : w1.cell? ⟨w.heap.size, 4, none⟩ = some (.string ⟨#[]⟩) := (blk_cell G1.out 4).trans rfl
  have c5 : w1.cell? ⟨w.heap.size, 5, none⟩ = some (.string ⟨#[]⟩) := (blk_cell G1.out 5).trans rfl
  have c6 : w1.cell? ⟨w.heap.size, 6, none⟩ = some (.string ⟨#[]⟩) := (blk_cell G1.out 6).trans rfl
  have c7 : w1.cell? ⟨w.heap.size, 7, none⟩ = some (.string ⟨#[]⟩) := (blk_cell G1.out 7).trans rfl
  have c8 : w1.cell? ⟨w.heap.size, 8, none⟩ = some (.string ⟨#[]⟩) := (blk_cell G1.out 8).trans rfl
  have c9 : w1.cell? ⟨w.heap.size, 9, none⟩ = some (.int .i64 2) := (blk_cell G1.out 9).trans rfl
  have c10 : w1.cell? ⟨w.heap.size, 10, none⟩ = some (.int .i64 2) := (blk_cell G1.out 10).trans rfl
  have c11 : w1.cell? ⟨w.heap.size, 11, none⟩ = some (.int .i64 5) := (blk_cell G1.out 11).trans rfl
  go_wp2_with fail
  refine (money_Precision.calls 2 _ _ _ _ _ _ _ _ _ 2 2 5 true 0 0 0 0 0 false 0 false _ 0 0 false 0 0 4 2 0 0 0 false 0 false _ (-2) 0 false 0 0 _ (HG.out.below (below_alloc HB1.out _)) fx_prec).mono ?_
  rintro e w2 ⟨rfl, hb⟩
  have G2 : Aside0 (w2.heap[w.heap.size]? = some (.cells #[.string ⟨#[85, 83, 68]⟩, .string ⟨#[36]⟩, .string ⟨#[110]⟩, .string ⟨#[]⟩, .string ⟨#[]⟩, .string ⟨#[]⟩, .string ⟨#[]⟩, .string ⟨#[]⟩, .string ⟨#[]⟩, .int .i64 2, .int .i64 2, .int .i64 5] 24 (0, 0))) := ⟨blk_below (blk_alloc G1.out _) hb⟩
  have X2 : Aside0 (w2.heap[w1.heap.size]? = some (.cells #[.string ⟨#[85, 83, 68]⟩, .string ⟨#[36]⟩, .string ⟨#[110]⟩, .string ⟨#[]⟩, .string ⟨#[]⟩, .string ⟨#[]⟩, .string ⟨#[]⟩, .string ⟨#[]⟩, .string ⟨#[]⟩, .int .i64 2, .int .i64 2, .int .i64 5] 24 (0, 0))) := ⟨blk_below (blk_new _ _) hb⟩
  have HB2 := Aside0.mk (below_step (below_alloc HB1.out _) hb)
  clear hb s1 HB1 G1 c0 c1 c2 c3 c4 c5 c6 c7 c8 c9 c10 c11
  go_wp2_with fail
  refine (money_Cut.calls _ _ _ _ _ (HG.out.below (below_alloc HB2.out _)) fx_cut).mono ?_
  rintro e w3 ⟨rfl, hb⟩
  have G3 : Aside0 (w3.heap[w.heap.size]? = some (.cells #[.string ⟨#[85, 83, 68]⟩, .string ⟨#[36]⟩, .string ⟨#[110]⟩, .string ⟨#[]⟩, .string ⟨#[]⟩, .string ⟨#[]⟩, .string ⟨#[]⟩, .string ⟨#[]⟩, .string ⟨#[]⟩, .int .i64 2, .int .i64 2, .int .i64 5] 24 (0, 0))) := ⟨blk_below (blk_alloc G2.out _) hb⟩
  have X3 : Aside0 (w3.heap[w1.heap.size]? = some (.cells #[.string ⟨#[85, 83, 68]⟩, .string ⟨#[36]⟩, .string ⟨#[110]⟩, .string ⟨#[]⟩, .string ⟨#[]⟩, .string ⟨#[]⟩, .string ⟨#[]⟩, .string ⟨#[]⟩, .string ⟨#[]⟩, .int .i64 2, .int .i64 2, .int .i64 5] 24 (0, 0))) := ⟨blk_below (blk_alloc X2.out _) hb⟩
  have P3 : Aside0 (w3.heap[w2.heap.size]? = some (.cells #[.int .i64 4, .int .i64 2, .int .i64 0, .int .i64 0, .int .i64 0, .bool false, .int .i64 0, .bool false, .string ⟨#[53]⟩, .int .i64 (-2), .int .i64 0, .bool false, .int .i64 0, .int .i64 0] 28 (0, 0))) := ⟨blk_below (blk_new _ _) hb⟩
  have HB3 := Aside0.mk (below_step (below_alloc HB2.out _) hb)
  clear hb G2 X2 HB2
  go_wp2_with fail
  refine (money_Form.calls _ _ _ _ _ _ 1 ⟨#[111]⟩ _ fx_form).mono ?_
  rintro e w4 ⟨rfl, hb⟩
  have G4 := Aside0.mk (blk_below G3.out hb)
  have X4 := Aside0.mk (blk_below X3.out hb)
  have P4 := Aside0.mk (blk_below P3.out hb)
  have HB4 := Aside0.mk (below_step HB3.out hb)
  clear hb G3 X3 P3 HB3
  go_wp2_with fail
  refine (fx_space_calls w4.heap.size _ (blk_new _ _)).mono ?_
  rintro e w5 ⟨B0, B1, rfl, hB0, hc, hb⟩
  have G5 := Aside0.mk (blk_below (blk_alloc G4.out _) hb)
  have X5 := Aside0.mk (blk_below (blk_alloc X4.out _) hb)
  have P5 := Aside0.mk (blk_below (blk_alloc P4.out _) hb)
  have HB5 := Aside0.mk (below_step (below_alloc HB4.out _) hb)
  clear hb G4 X4 P4 HB4
  have t1 : w.heap.size < w5.heap.size := blk_lt G5.out
  have t2 : w1.heap.size < w5.heap.size := blk_lt X5.out
  have t3 : w2.heap.size < w5.heap.size := blk_lt P5.out
  have c0 : w5.cell? ⟨w.heap.size, 0, none⟩ = some (.string ⟨#[85, 83, 68]⟩) := (blk_cell G5.out 0).trans rfl
  have c1 : w5.cell? ⟨w.heap.size, 1, none⟩ = some (.string ⟨#[36]⟩) := (blk_cell G5.out 1).trans rfl
  have c2 : w5.cell? ⟨w.heap.size, 2, none⟩ = some (.string ⟨#[110]⟩) := (blk_cell G5.out 2).trans rfl
  have c3 : w5.cell? ⟨w.heap.size, 3, none⟩ = some (.string ⟨#[]⟩) := (blk_cell G5.out 3).trans rfl
  have c4 : w5.cell? ⟨w.heap.size, 4, none⟩ = some (.string ⟨#[]⟩) := (blk_cell G5.out 4).trans rfl
  have c5 : w5.cell? ⟨w.heap.size, 5, none⟩ = some (.string ⟨#[]⟩) := (blk_cell G5.out 5).trans rfl
  have c6 : w5.cell? ⟨w.heap.size, 6, none⟩ = some (.string ⟨#[]⟩) := (blk_cell G5.out 6).trans rfl
  have c7 : w5.cell? ⟨w.heap.size, 7, none⟩ = some (.string ⟨#[]⟩) := (blk_cell G5.out 7).trans rfl
  have c8 : w5.cell? ⟨w.heap.size, 8, none⟩ = some (.string ⟨#[]⟩) := (blk_cell G5.out 8).trans rfl
  have c9 : w5.cell? ⟨w.heap.size, 9, none⟩ = some (.int .i64 2) := (blk_cell G5.out 9).trans rfl
  have c10 : w5.cell? ⟨w.heap.size, 10, none⟩ = some (.int .i64 2) := (blk_cell G5.out 10).trans rfl
  have c11 : w5.cell? ⟨w.heap.size, 11, none⟩ = some (.int .i64 5) := (blk_cell G5.out 11).trans rfl
  have x0 : w5.cell? ⟨w1.heap.size, 0, none⟩ = some (.string ⟨#[85, 83, 68]⟩) := (blk_cell X5.out 0).trans rfl
  have x1 : w5.cell? ⟨w1.heap.size, 1, none⟩ = some (.string ⟨#[36]⟩) := (blk_cell X5.out 1).trans rfl
  have x2 : w5.cell? ⟨w1.heap.size, 2, none⟩ = some (.string ⟨#[110]⟩) := (blk_cell X5.out 2).trans rfl
  have x3 : w5.cell? ⟨w1.heap.size, 3, none⟩ = some (.string ⟨#[]⟩) := (blk_cell X5.out 3).trans rfl
  have x4 : w5.cell? ⟨w1.heap.size, 4, none⟩ = some (.string ⟨#[]⟩) := (blk_cell X5.out 4).trans rfl
  have x5 : w5.cell? ⟨w1.heap.size, 5, none⟩ = some (.string ⟨#[]⟩) := (blk_cell X5.out 5).trans rfl
  have x6 : w5.cell? ⟨w1.heap.size, 6, none⟩ = some (.string ⟨#[]⟩) := (blk_cell X5.out 6).trans rfl
  have x7 : w5.cell? ⟨w1.heap.size, 7, none⟩ = some (.string ⟨#[]⟩) := (blk_cell X5.out 7).trans rfl
  have x8 : w5.cell? ⟨w1.heap.size, 8, none⟩ = some (.string ⟨#[]⟩) := (blk_cell X5.out 8).trans rfl
  have x9 : w5.cell? ⟨w1.heap.size, 9, none⟩ = some (.int .i64 2) := (blk_cell X5.out 9).trans rfl
  have x10 : w5.cell? ⟨w1.heap.size, 10, none⟩ = some (.int .i64 2) := (blk_cell X5.out 10).trans rfl
  have x11 : w5.cell? ⟨w1.heap.size, 11, none⟩ = some (.int .i64 5) := (blk_cell X5.out 11).trans rfl
  have p0 : w5.cell? ⟨w2.heap.size, 0, none⟩ = some (.int .i64 4) := (blk_cell P5.out 0).trans rfl
  have p1 : w5.cell? ⟨w2.heap.size, 1, none⟩ = some (.int .i64 2) := (blk_cell P5.out 1).trans rfl
  have p6 : w5.cell? ⟨w2.heap.size, 6, none⟩ = some (.int .i64 0) := (blk_cell P5.out 6).trans rfl
  have p7 : w5.cell? ⟨w2.heap.size, 7, none⟩ = some (.bool false) := (blk_cell P5.out 7).trans rfl
  have p8 : w5.cell? ⟨w2.heap.size, 8, none⟩ = some (.string ⟨#[53]⟩) := (blk_cell P5.out 8).trans rfl
  have p9 : w5.cell? ⟨w2.heap.size, 9, none⟩ = some (.int .i64 (-2)) := (blk_cell P5.out 9).trans rfl
  obtain ⟨g, rfl⟩ := hB0
  go_wp2_with fail
  refine (money_Symbol.calls _ _ _ _ _ _ _ _ _ 2 2 5 1 _ _ fx_symbol).mono ?_
  rintro e w6 ⟨rfl, hb⟩
  have HB6 := Aside0.mk (below_step HB5.out hb)
  clear hb
  go_wp2
  go_ret
  exact ⟨rfl, HB6.out⟩
theorem quipulaw20_fixed.calls (r : Bool) (w : World) (hG : Gd w) (h : quipulaw20_fixed.f = some r) : Calls Tryd.prog 7 #[] w fun e w' => e = .returned (.bool r) ∧ Below w.heap.size w w' := by
  obtain rfl : true = r := Option.some.inj h
  exact fixed_calls w hG
end Go.Proofs.YtepahimiakgieaaDoor.Q
