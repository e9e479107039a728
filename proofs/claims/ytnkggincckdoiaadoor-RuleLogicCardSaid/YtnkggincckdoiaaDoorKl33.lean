import Derived.Test.YtnkggincckdoiaaDoorKl31
import Derived.Test.YtnkggincckdoiaaDoorKl32
namespace Go.Proofs.YtnkggincckdoiaaDoor.Q
open Go.RowKit Go.Shelf Go.Proofs.YtnkggincckdoiaaDoorW.PrintWords
set_option linter.unusedVariables false
set_option linter.unusedSimpArgs false
def plainC (c : UInt8) : Bool := c != 59 && (c != 58 && (c != 111 && c != 97))
theorem single_l0 (s : ByteArray) (hs : s.size ≤ 140737488351232) : ∀ (d i k : Nat), i + d = s.size → d < k → quipulaw09_single.l0 k s (i : Int) = some ((s.data.toList.drop i).all plainC) := by
  intro d
  induction d with
  | zero =>
    intro i k hi hk
    obtain ⟨k, rfl⟩ : ∃ q, k = q + 1 := ⟨k - 1, by omega⟩
    rw [quipulaw09_single.l0, if_neg (by omega), List.drop_of_length_le (by rw [slen]; omega)]
    rfl
  | succ d ih =>
    intro i k hi hk
    obtain ⟨k, rfl⟩ : ∃ q, k = q + 1 := ⟨k - 1, by omega⟩
    have hlt : i < s.size := by omega
    have e : ∀ n : Nat, n < 256 → (((s[i].toNat : Nat) : Int) = (n : Int)) = (s[i] = UInt8.ofNat n) := fun n hn => propext ⟨fun h => by
      have h2 : s[i].toNat = n := Int.ofNat.inj h
      rw [← h2]; simp, fun h => by rw [h]; simp; omega⟩
    have e59 := e 59 (by omega); have e58 := e 58 (by omega); have e111 := e 111 (by omega); have e97 := e 97 (by omega)
    rw [quipulaw09_single.l0, if_pos (by omega), if_pos (by omega), bt_get s i hlt, wrapS i s.size hlt (by omega), ih (i + 1) k (by omega) (by omega), dropD s i hlt, List.all_cons]
    have f59 : (((s[i].toNat : Nat) : Int) = 59) = (s[i] = 59) := e59
    have f58 : (((s[i].toNat : Nat) : Int) = 58) = (s[i] = 58) := e58
    have f111 : (((s[i].toNat : Nat) : Int) = 111) = (s[i] = 111) := e111
    have f97 : (((s[i].toNat : Nat) : Int) = 97) = (s[i] = 97) := e97
    simp only [f59, f58, f111, f97]
    unfold plainC
    by_cases a : s[i] = 59
    · rw [if_pos a, bne_eq_false_iff_eq.2 a]; rfl
    rw [if_neg a, bne_iff_ne.2 a]
    by_cases b : s[i] = 58
    · rw [if_pos b, bne_eq_false_iff_eq.2 b]; rfl
    rw [if_neg b, bne_iff_ne.2 b]
    by_cases c : s[i] = 111
    · rw [if_pos c, bne_eq_false_iff_eq.2 c]; rfl
    rw [if_neg c, bne_iff_ne.2 c]
    by_cases d : s[i] = 97
    · rw [if_pos d, bne_eq_false_iff_eq.2 d]; rfl
    rw [if_neg d, bne_iff_ne.2 d]
    rfl
theorem single_eq (s : ByteArray) (hs : s.size ≤ 140737488351232) (k : Nat) (hk : s.size < k) : quipulaw09_single.f k s = some (s.data.toList.all plainC) := by
  have := single_l0 s hs s.size 0 k (by omega) hk
  rw [List.drop_zero] at this
  exact this
theorem plain_no {s : ByteArray} (h : s.data.toList.all plainC = true) : (59 : UInt8) ∉ s.data.toList ∧ (58 : UInt8) ∉ s.data.toList ∧ (111 : UInt8) ∉ s.data.toList ∧ (97 : UInt8) ∉ s.data.toList := by
  rw [List.all_eq_true] at h
  exact ⟨fun m => absurd (h _ m) (by decide), fun m => absurd (h _ m) (by decide), fun m => absurd (h _ m) (by decide), fun m => absurd (h _ m) (by decide)⟩
theorem alone_eq {x : Opr} (hx : OIn x) (s : ByteArray) (hs : s.size ≤ 9223372036854775802) : quipulaw09_alone.f s x.i x.v x.w x.f x.t x.e = some ((pickF (one s) x).1 == 1, (pickF (one s) x).2 == 0) := by
  unfold quipulaw09_alone.f
  rw [if_pos (by omega), show rule_Pick.f ((⟨#[111, 110, 101, 58, 32]⟩ : ByteArray) ++ s) x.i x.v x.w x.f x.t x.e = some (pickF (one s) x) from if_pos hx]
  rfl
/-- One relation, as_ a text: for the operands and for those of a check. -/
structure RelT (s : ByteArray) (x : Opr) (l : List (List UInt8)) (h h0 : Bool) : Prop where
  may : mayO x.i x.v x.w x.f x.t x.e = true
  tok : tokL s.data.toList = some l
  rel : relT x (l.map mkS) = some (h, [])
  rel0 : relT opr0 (l.map mkS) = some (h0, [])
theorem relT_of {s : ByteArray} {x : Opr} (hp : (pickF (one s) x).2 = 0) (hs : s.data.toList.all plainC = true) : ∃ l h h0, RelT s x l h h0 ∧ ((pickF (one s) x).1 == 1) = h := by
  obtain ⟨n59, n58, n111, n97⟩ := plain_no hs
  obtain ⟨hm, h1, h2, h3⟩ := pickF_two hp
  obtain ⟨l, h, hl, hc, hv⟩ := one_ok h2 n59
  obtain ⟨l2, h0, hl2, hc2, _⟩ := one_ok h1 n59
  rw [hl] at hl2
  obtain rfl := Option.some.inj hl2
  have ha : sAnd ∉ l.map mkS := no_part hl n97 [97, 110, 100] (by simp)
  have ho : sOr ∉ l.map mkS := no_part hl n111 [111, 114] (by simp)
  refine ⟨l, h, h0, ⟨hm, hl, cond_rel ha ho hc, cond_rel ha ho hc2⟩, ?_⟩
  rw [h3, hv]
  cases h <;> rfl
theorem alone_of {x : Opr} (hx : OIn x) (hm : mayO x.i x.v x.w x.f x.t x.e = true) {s : ByteArray} {l : List (List UInt8)} {h h0 : Bool} (hl : tokL s.data.toList = some l) (hc : condT x (l.map mkS) = some (h, [])) (hc0 : condT opr0 (l.map mkS) = some (h0, [])) (hs : s.size ≤ 1019) :
    quipulaw09_alone.f s x.i x.v x.w x.f x.t x.e = some (h, true) := by
  rw [alone_eq hx s (by omega), pickF_of hm (one_of hl hc0 hs) (one_of hl hc hs)]
  cases h <;> rfl
def sA5 : ByteArray := ⟨#[32, 97, 110, 100, 32]⟩
def sO4 : ByteArray := ⟨#[32, 111, 114, 32]⟩
theorem j1_true {a : ByteArray} {x : Opr} (hx : OIn x) {l : List (List UInt8)} {h h0 : Bool} (R : RelT a x l h h0) (hs : a.size ≤ 900) (k : Nat) (hk : a.size < k) : quipulaw09_RuleLogic.j1 (k + 1) a h false x.i x.v x.w x.f x.t x.e = some true := by
  have h61 : (61 : UInt8) ∈ a.data.toList := by
    refine Classical.byContradiction fun hn => ?_
    rcases rel_has R.rel with hm | hm
    · exact no_part R.tok hn [61] (by simp) hm
    · exact no_part R.tok hn [33, 61] (by simp) hm
  obtain ⟨u, c, v, hT, hu, hc⟩ := split_first _ h61
  obtain ⟨l', hl', hf⟩ := other_tok hT hu hc R.tok
  have hlen : a.size = u.length + v.length + 1 := by rw [← slen a, hT]; simp; omega
  have ho : quipulaw09_other.f k a = some (mkS (otherL u c v)) := other_l0 a u v c hT hu hc (by omega) u.length 0 k (by omega) (by omega)
  have hmk : (mkS (otherL u c v)).data.toList = otherL u c v := by simp [mkS]
  have hsz : (mkS (otherL u c v)).size ≤ a.size + 1 := by
    rw [← slen, hmk]
    unfold otherL
    split <;> simp <;> omega
  have r1 := hf x _ R.rel
  have r0 := hf opr0 _ R.rel0
  have c1 : ∀ y p, relT y (l'.map mkS) = some (p, []) → condT y (l'.map mkS) = some (p, []) := fun y p hr => by
    have := or_one (y := y) ((l'.map mkS).length) false (and_one ((l'.map mkS).length) true hr)
    simpa [condT] using this
  rw [quipulaw09_RuleLogic.j1, if_neg (by decide), ho]
  simp only [Option.bind_some]
  rw [alone_of hx R.may (by rw [hmk]; exact hl') (c1 _ _ r1) (c1 _ _ r0) (by omega)]
  cases h <;> rfl
theorem main_true {a b c : ByteArray} {x : Opr} (hx : OIn x) {la lb lc : List (List UInt8)} {ha hb hc ha0 hb0 hc0 : Bool} (A : RelT a x la ha ha0) (B : RelT b x lb hb hb0) (C : RelT c x lc hc hc0) (hs : a.size + b.size + c.size ≤ 900) (k : Nat) (hk : a.size < k) :
    quipulaw09_RuleLogic.j0 (k + 2) a b c ha hb hc false x.i x.v x.w x.f x.t x.e = some true := by
  have z1 : sA5.size = 5 := rfl
  have z2 : sO4.size = 4 := rfl
  have d1 : ((a ++ sA5) ++ b).data.toList = a.data.toList ++ [32, 97, 110, 100, 32] ++ b.data.toList := by rw [app_data, app_data]; rfl
  have d2 : ((a ++ sO4) ++ b).data.toList = a.data.toList ++ [32, 111, 114, 32] ++ b.data.toList := by rw [app_data, app_data]; rfl
  have d3 : ((((a ++ sO4) ++ b) ++ sA5) ++ c).data.toList = (a.data.toList ++ [32, 111, 114, 32] ++ b.data.toList) ++ [32, 97, 110, 100, 32] ++ c.data.toList := by rw [app_data, app_data, d2]; rfl
  have d4 : ((((a ++ sA5) ++ b) ++ sO4) ++ c).data.toList = (a.data.toList ++ [32, 97, 110, 100, 32] ++ b.data.toList) ++ [32, 111, 114, 32] ++ c.data.toList := by rw [app_data, app_data, d1]; rfl
  have t1 : tokL ((a ++ sA5) ++ b).data.toList = some (la ++ [[97, 110, 100]] ++ lb) := by rw [d1, tok_and, A.tok, B.tok]; rfl
  have t2 : tokL ((a ++ sO4) ++ b).data.toList = some (la ++ [[111, 114]] ++ lb) := by rw [d2, tok_or, A.tok, B.tok]; rfl
  have t3 : tokL ((((a ++ sO4) ++ b) ++ sA5) ++ c).data.toList = some (la ++ [[111, 114]] ++ lb ++ [[97, 110, 100]] ++ lc) := by rw [d3, tok_and, tok_or, A.tok, B.tok, C.tok]; rfl
  have t4 : tokL ((((a ++ sA5) ++ b) ++ sO4) ++ c).data.toList = some (la ++ [[97, 110, 100]] ++ lb ++ [[111, 114]] ++ lc) := by rw [d4, tok_or, tok_and, A.tok, B.tok, C.tok]; rfl
  have m1 : (la ++ [[97, 110, 100]] ++ lb).map mkS = la.map mkS ++ sAnd :: lb.map mkS := by simp; rfl
  have m2 : (la ++ [[111, 114]] ++ lb).map mkS = la.map mkS ++ sOr :: lb.map mkS := by simp; rfl
  have m3 : (la ++ [[111, 114]] ++ lb ++ [[97, 110, 100]] ++ lc).map mkS = la.map mkS ++ sOr :: (lb.map mkS ++ sAnd :: lc.map mkS) := by simp; exact ⟨rfl, rfl⟩
  have m4 : (la ++ [[97, 110, 100]] ++ lb ++ [[111, 114]] ++ lc).map mkS = la.map mkS ++ sAnd :: (lb.map mkS ++ sOr :: lc.map mkS) := by simp; exact ⟨rfl, rfl⟩
  have s1 : ((a ++ sA5) ++ b).size ≤ 1019 := by simp only [ByteArray.size_append]; omega
  have s2 : ((a ++ sO4) ++ b).size ≤ 1019 := by simp only [ByteArray.size_append]; omega
  have s3 : ((((a ++ sO4) ++ b) ++ sA5) ++ c).size ≤ 1019 := by simp only [ByteArray.size_append]; omega
  have s4 : ((((a ++ sA5) ++ b) ++ sO4) ++ c).size ≤ 1019 := by simp only [ByteArray.size_append]; omega
  have a1 := alone_of hx A.may t1 (by rw [m1]; exact cond_both A.rel B.rel) (by rw [m1]; exact cond_both A.rel0 B.rel0) s1
  have a2 := alone_of hx A.may t2 (by rw [m2]; exact cond_one A.rel B.rel) (by rw [m2]; exact cond_one A.rel0 B.rel0) s2
  have a3 := alone_of hx A.may t3 (by rw [m3]; exact cond_mixed A.rel B.rel C.rel) (by rw [m3]; exact cond_mixed A.rel0 B.rel0 C.rel0) s3
  have a4 := alone_of hx A.may t4 (by rw [m4]; exact cond_turned A.rel B.rel C.rel) (by rw [m4]; exact cond_turned A.rel0 B.rel0 C.rel0) s4
  have j1 := j1_true hx A (by omega) k hk
  have g1 : (a ++ sA5).size + b.size ≤ 9223372036854775807 := by rw [ByteArray.size_append]; omega
  have g2 : (a ++ sO4).size + b.size ≤ 9223372036854775807 := by rw [ByteArray.size_append]; omega
  have g3 : ((a ++ sO4) ++ b).size + 5 ≤ 9223372036854775807 := by omega
  have g4 : (((a ++ sO4) ++ b) ++ sA5).size + c.size ≤ 9223372036854775807 := by simp only [ByteArray.size_append] at *; omega
  have g5 : ((a ++ sA5) ++ b).size + 4 ≤ 9223372036854775807 := by omega
  have g6 : (((a ++ sA5) ++ b) ++ sO4).size + c.size ≤ 9223372036854775807 := by simp only [ByteArray.size_append] at *; omega
  unfold sA5 at a1 a3 a4 g1 g4 g5 g6
  unfold sO4 at a2 a3 a4 g2 g3 g4 g6
  rw [quipulaw09_RuleLogic.j0, if_neg (by decide), if_pos (by omega), if_pos g1, a1]
  simp only [Option.bind_some]
  rw [if_pos (by omega), if_pos g2, a2]
  simp only [Option.bind_some]
  rw [if_pos g3, if_pos g4, a3]
  simp only [Option.bind_some]
  rw [if_pos g5, if_pos g6, a4]
  simp only [Option.bind_some, if_true]
  cases ha <;> cases hb <;> cases hc <;> simpa using j1
theorem j0_true (k : Nat) (a b c : ByteArray) (p q r : Bool) (x : Opr) : quipulaw09_RuleLogic.j0 (k + 1) a b c p q r true x.i x.v x.w x.f x.t x.e = some true := by
  rw [quipulaw09_RuleLogic.j0, if_pos rfl]
theorem logic_true (a b c : ByteArray) (x : Opr) (hx : OIn x) (sa : a.size ≤ 140737488351232) (sb : b.size ≤ 140737488351232) (sc : c.size ≤ 140737488351232) :
    quipulaw09_RuleLogic.f (a.size + b.size + c.size + 3) a b c x.i x.v x.w x.f x.t x.e = some true := by
  unfold quipulaw09_RuleLogic.f
  rw [alone_eq hx a (by omega), alone_eq hx b (by omega), alone_eq hx c (by omega), awake_true]
  simp only [Option.bind_some, if_true]
  rw [single_eq a sa _ (by omega), single_eq b sb _ (by omega), single_eq c sc _ (by omega)]
  simp only [Option.bind_some]
  by_cases p1 : ((pickF (one a) x).2 == 0) = true
  · rw [if_pos p1]
    by_cases p2 : ((pickF (one b) x).2 == 0) = true
    · rw [if_pos p2]
      by_cases p3 : ((pickF (one c) x).2 == 0) = true
      · rw [if_pos p3]
        by_cases q1 : a.data.toList.all plainC = true
        · rw [if_pos q1]
          by_cases q2 : b.data.toList.all plainC = true
          · rw [if_pos q2]
            by_cases q3 : c.data.toList.all plainC = true
            · rw [if_pos q3]
              have w1 : wrap64 ((a.size : Int) + (b.size : Int)) = (a.size : Int) + (b.size : Int) := by unfold wrap64; omega
              have w2 : wrap64 ((a.size : Int) + (b.size : Int) + (c.size : Int)) = (a.size : Int) + (b.size : Int) + (c.size : Int) := by unfold wrap64; omega
              rw [w1, w2]
              by_cases hl : (a.size : Int) + (b.size : Int) + (c.size : Int) > 900
              · rw [decide_eq_true hl]; exact j0_true _ _ _ _ _ _ _ _
              · rw [decide_eq_false hl]
                obtain ⟨la, ha, ha0, A, ea⟩ := relT_of (by simpa using p1) q1
                obtain ⟨lb, hb, hb0, B, eb⟩ := relT_of (by simpa using p2) q2
                obtain ⟨lc, hc, hc0, C, ec⟩ := relT_of (by simpa using p3) q3
                rw [ea, eb, ec]
                exact main_true hx A B C (by omega) (a.size + b.size + c.size + 1) (by omega)
            · rw [if_neg q3]; exact j0_true _ _ _ _ _ _ _ _
          · rw [if_neg q2]; exact j0_true _ _ _ _ _ _ _ _
        · rw [if_neg q1]; exact j0_true _ _ _ _ _ _ _ _
      · rw [if_neg p3]; exact j0_true _ _ _ _ _ _ _ _
    · rw [if_neg p2]; exact j0_true _ _ _ _ _ _ _ _
  · rw [if_neg p1]; exact j0_true _ _ _ _ _ _ _ _
end Go.Proofs.YtnkggincckdoiaaDoor.Q
