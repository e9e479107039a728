import Derived.Test.YtnkggincckdoiaaDoorKr27
import Derived.Test.YtnkggincckdoiaaDoorKr18
import Derived.Test.YtnkggincckdoiaaDoorKr31
namespace Go.Proofs.YtnkggincckdoiaaDoor.Q
open Go.RowKit Go.Shelf Go.Proofs.YtnkggincckdoiaaDoorW.PrintWords Go.Proofs.YtnkggincckdoiaaDoorW.PrintLast Go.Proofs.YtnkggincckdoiaaDoorW.PrintMore
set_option linter.unusedVariables false
set_option linter.unusedSimpArgs false
theorem ba_inj (a b : ByteArray) : a.toList = b.toList ↔ a = b := by
  rw [toList_data, toList_data]
  exact ⟨fun h => ByteArray.ext (Array.toList_inj.1 h), fun h => by rw [h]⟩
/-- A list of parts, split at a part. -/
def splA (t : ByteArray) : List ByteArray → List ByteArray → List (List ByteArray)
  | cur, [] => [cur]
  | cur, x :: xs => if x = t then cur :: splA t [] xs else splA t (cur ++ [x]) xs
theorem split_l0 (l : List ByteArray) (t : ByteArray) (hl : l.length ≤ 4096) : ∀ (r i j k : Nat) (out : List (List ByteArray)), l.length - i ≤ r → j ≤ i → i ≤ l.length → out.length ≤ i → r + 2 ≤ k →
    quipuref09_split.l0 k l t out (j : Int) (i : Int) = some (out ++ splA t ((l.take i).drop j) (l.drop i)) := by
  intro r
  induction r with
  | zero =>
    intro i j k out hr hj hi ho hk
    obtain rfl : i = l.length := by omega
    obtain ⟨k, rfl⟩ : ∃ k', k = k' + 1 + 1 := ⟨k - 2, by omega⟩
    rw [quipuref09_split.l0, if_pos (by omega), if_pos rfl, if_pos (by omega), if_pos (by omega), if_pos (by omega), wrapI1 _ hl, quipuref09_split.l0, if_neg (by omega), List.drop_length]
    simp only [Int.toNat_natCast]
    rfl
  | succ r ih =>
    intro i j k out hr hj hi ho hk
    rcases Nat.lt_or_ge i l.length with hlt | hge
    case inr => exact ih i j k out (by omega) hj hi ho (by omega)
    obtain ⟨k, rfl⟩ : ∃ k', k = k' + 1 := ⟨k - 1, by omega⟩
    have hg : rdOf ByteArray.empty l (i : Int) = l[i] := by simp [rdOf, List.getD_eq_getElem?_getD, hlt]
    rw [quipuref09_split.l0, if_pos (by omega), if_neg (by omega), if_pos (by omega), if_pos (by omega), hg, wrapI1 i (by omega), List.drop_eq_getElem_cons hlt, splA]
    by_cases h : l[i] = t
    · rw [if_pos ((ba_inj _ _).2 h), if_pos (by omega), if_pos (by omega), if_pos (by omega), if_pos h, ih (i + 1) (i + 1) k _ (by omega) (Nat.le_refl _) (by omega) (by rw [List.length_append, List.length_singleton]; omega) (by omega)]
      simp only [Int.toNat_natCast]
      rw [show (l.take (i + 1)).drop (i + 1) = [] from List.drop_eq_nil_of_le (by rw [List.length_take]; omega), List.append_assoc, List.singleton_append]
    · rw [if_neg (fun e => h ((ba_inj _ _).1 e)), if_neg h, ih (i + 1) j k out (by omega) (by omega) (by omega) (by omega) (by omega)]
      have e : (l.take (i + 1)).drop j = (l.take i).drop j ++ [l[i]] := by
        rw [List.take_add_one, List.getElem?_eq_getElem hlt, List.drop_append_of_le_length (by rw [List.length_take]; omega)]
        rfl
      rw [e]
theorem split_eq (l : List ByteArray) (t : ByteArray) (hl : l.length ≤ 4096) (k : Nat) (hk : l.length + 2 ≤ k) : quipuref09_split.f k l t = some (splA t [] l) := by
  have := split_l0 l t hl l.length 0 0 k [] (by omega) (Nat.le_refl _) (Nat.zero_le _) (Nat.zero_le _) hk
  rw [List.take_zero, List.drop_nil, List.drop_zero, List.nil_append] at this
  exact this
theorem spl_len (t : ByteArray) : ∀ (l cur : List ByteArray), (splA t cur l).length ≤ l.length + 1
  | [], cur => Nat.le_refl _
  | x :: xs, cur => by
    rw [splA]
    split
    · have := spl_len t xs []
      simp only [List.length_cons]; omega
    · have := spl_len t xs (cur ++ [x])
      simp only [List.length_cons]; omega
def catI (s : ByteArray) : Int := Lib.idxOfS words6 s
theorem category_eq (s : ByteArray) (k : Nat) (hk : 8 ≤ k) : quipuref09_Category.f k s = some (catI s) := by
  obtain ⟨k, rfl⟩ : ∃ k', k = k' + 1 + 1 + 1 + 1 + 1 + 1 + 1 := ⟨k - 7, by omega⟩
  unfold quipuref09_Category.f catI Lib.idxOfS words6
  have w1 : wrap64 ((0 : Int) + 1) = 1 := by unfold wrap64; omega
  have w2 : wrap64 ((1 : Int) + 1) = 2 := by unfold wrap64; omega
  have w3 : wrap64 ((2 : Int) + 1) = 3 := by unfold wrap64; omega
  have w4 : wrap64 ((3 : Int) + 1) = 4 := by unfold wrap64; omega
  have w5 : wrap64 ((4 : Int) + 1) = 5 := by unfold wrap64; omega
  have w6 : wrap64 ((5 : Int) + 1) = 6 := by unfold wrap64; omega
  simp only [quipuref09_Category.l0, Lib.idxFromS, rdOf, ba_inj, w1, w2, w3, w4, w5, w6]
  simp
  repeat' split
  all_goals simp_all
theorem catI_lt (s : ByteArray) : -1 ≤ catI s ∧ catI s < 6 := by
  unfold catI Lib.idxOfS words6
  simp only [Lib.idxFromS]
  repeat' split
  all_goals omega
/-- The next entry, if a piece is one. -/
def ent5 : List ByteArray → Option S52
  | [a, p, b, q, c] => if p = sPlu ∧ q = sCol ∧ 0 ≤ catI a ∧ 0 ≤ catI b ∧ 0 ≤ catI c then some ⟨catI a, catI b, catI c⟩ else none
  | _ => none
def refGo : List S52 → List (List ByteArray) → Option (List S52)
  | out, [] => some out
  | out, p :: ps => match ent5 p with
    | none => none
    | some e => if (out.any fun r => decide (r.f0 = e.f0) && decide (r.f1 = e.f1)) = true then none else refGo (out ++ [e]) ps
def finS : Option (List S52) → List S52 × Int
  | none => ([], 90)
  | some o => (o, 0)
theorem ranges_l1 (out : List S52) (ps : List (List ByteArray)) (i : Nat) (e : S52) (ho : out.length ≤ 4096) : ∀ (r j k : Nat), out.length - j ≤ r → j ≤ out.length → r + 1 ≤ k →
    quipuref09_readRanges.l1 k out ps (i : Int) (j : Int) e.f0 e.f1 e.f2 = if ((out.drop j).any fun r => decide (r.f0 = e.f0) && decide (r.f1 = e.f1)) = true then some ([], 90) else quipuref09_readRanges.l0 (k - (out.length - j) - 1) (out ++ [e]) ps (wrap64 ((i : Int) + 1)) := by
  intro r
  induction r with
  | zero =>
    intro j k hr hj hk
    obtain rfl : j = out.length := by omega
    obtain ⟨k, rfl⟩ : ∃ k', k = k' + 1 := ⟨k - 1, by omega⟩
    rw [quipuref09_readRanges.l1, if_neg (by omega), if_pos (by omega), List.drop_length, if_neg (by simp)]
    simp
  | succ r ih =>
    intro j k hr hj hk
    rcases Nat.lt_or_ge j out.length with hlt | hge
    case inr => exact ih j k (by omega) hj (by omega)
    obtain ⟨k, rfl⟩ : ∃ k', k = k' + 1 := ⟨k - 1, by omega⟩
    have hg : rd_T52 out (j : Int) = out[j] := by simp [rd_T52, List.getD_eq_getElem?_getD, hlt]
    rw [quipuref09_readRanges.l1, if_pos (by omega), if_pos (by omega), hg, wrapI1 j (by omega), ih (j + 1) k (by omega) (by omega) (by omega), List.drop_eq_getElem_cons hlt, List.any_cons]
    rw [show k + 1 - (out.length - j) - 1 = k - (out.length - (j + 1)) - 1 by omega]
    by_cases h0 : out[j].f0 = e.f0
    · rw [if_pos h0, decide_eq_true h0, Bool.true_and]
      by_cases h1 : out[j].f1 = e.f1
      · rw [if_pos h1, decide_eq_true h1, Bool.true_or, if_pos rfl]
      · rw [if_neg h1, decide_eq_false h1, Bool.false_or]
    · rw [if_neg h0, decide_eq_false h0, Bool.false_and, Bool.false_or]
theorem ranges_l0 (ps : List (List ByteArray)) (hp : ps.length ≤ 1100) : ∀ (r i k : Nat) (out : List S52), ps.length - i ≤ r → i ≤ ps.length → out.length ≤ i → 1200 * r + 20 ≤ k →
    quipuref09_readRanges.l0 k out ps (i : Int) = some (finS (refGo out (ps.drop i))) := by
  intro r
  induction r with
  | zero =>
    intro i k out hr hi ho hk
    obtain rfl : i = ps.length := by omega
    obtain ⟨k, rfl⟩ : ∃ k', k = k' + 1 := ⟨k - 1, by omega⟩
    rw [quipuref09_readRanges.l0, if_neg (by omega), List.drop_length]
    rfl
  | succ r ih =>
    intro i k out hr hi ho hk
    rcases Nat.lt_or_ge i ps.length with hlt | hge
    case inr => exact ih i k out (by omega) hi ho (by omega)
    obtain ⟨k, rfl⟩ : ∃ k', k = k' + 1 := ⟨k - 1, by omega⟩
    have hg : rd_L1 ps (i : Int) = ps[i] := by simp [rd_L1, List.getD_eq_getElem?_getD, hlt]
    rw [quipuref09_readRanges.l0, if_pos (by omega), if_pos (by omega), hg, List.drop_eq_getElem_cons hlt, refGo]
    generalize hq : ps[i] = p
    by_cases h5 : p.length = 5
    case neg =>
      rw [if_neg (by omega)]
      have e5 : ent5 p = none := by
        rcases p with _ | ⟨a, _ | ⟨b, _ | ⟨c, _ | ⟨d, _ | ⟨e, _ | ⟨f, l⟩⟩⟩⟩⟩⟩ <;> first | rfl | exact absurd rfl h5
      rw [e5]; rfl
    obtain ⟨a, x, b, y, c, rfl⟩ : ∃ a x b y c, p = [a, x, b, y, c] := by
      rcases p with _ | ⟨a, _ | ⟨b, _ | ⟨c, _ | ⟨d, _ | ⟨e, _ | ⟨f, l⟩⟩⟩⟩⟩⟩ <;> first | exact ⟨_, _, _, _, _, rfl⟩ | (simp at h5)
    have g0 : rdOf ByteArray.empty [a, x, b, y, c] 0 = a := rfl
    have g1 : rdOf ByteArray.empty [a, x, b, y, c] 1 = x := rfl
    have g2 : rdOf ByteArray.empty [a, x, b, y, c] 2 = b := rfl
    have g3 : rdOf ByteArray.empty [a, x, b, y, c] 3 = y := rfl
    have g4 : rdOf ByteArray.empty [a, x, b, y, c] 4 = c := rfl
    have hplu : (x.toList = ([43] : List UInt8)) = (x = sPlu) := by rw [← ba_inj x sPlu, toList_data sPlu]; rfl
    have hcol : (y.toList = ([58] : List UInt8)) = (y = sCol) := by rw [← ba_inj y sCol, toList_data sCol]; rfl
    have hlen : (([a, x, b, y, c].length : Nat) : Int) = 5 := rfl
    rw [g0, g1, g2, g3, g4, hlen, if_pos rfl, if_pos (by decide), ent5]
    simp only [hplu, hcol]
    by_cases hx : x = sPlu
    case neg => rw [if_neg hx, if_neg (fun h => hx h.1)]; rfl
    rw [if_pos hx, if_pos (by decide)]
    by_cases hy : y = sCol
    case neg => rw [if_neg hy, if_neg (fun h => hy h.2.1)]; rfl
    rw [if_pos hy, if_pos (by decide), category_eq a k (by omega), category_eq b k (by omega), category_eq c k (by omega)]
    simp only [Option.bind_some]
    rw [if_pos (by decide), if_pos (by decide)]
    by_cases ha : catI a < 0
    · rw [if_pos ha, if_neg (fun h => by have := h.2.2.1; omega)]; rfl
    rw [if_neg ha]
    by_cases hb : catI b < 0
    · rw [if_pos hb, if_neg (fun h => by have := h.2.2.2.1; omega)]; rfl
    rw [if_neg hb]
    by_cases hc : catI c < 0
    · rw [if_pos hc, if_neg (fun h => by have := h.2.2.2.2; omega)]; rfl
    rw [if_neg hc, if_pos ⟨hx, hy, by omega, by omega, by omega⟩]
    have := ranges_l1 out ps i ⟨catI a, catI b, catI c⟩ (by omega) out.length 0 k (by omega) (Nat.zero_le _) (by omega)
    rw [List.drop_zero] at this
    refine this.trans ?_
    simp only []
    split
    · rfl
    · rw [wrapI1 i (by omega), ih (i + 1) _ _ (by omega) (by omega) (by rw [List.length_append, List.length_singleton]; omega) (by omega)]
/-- The reference's rows of a text. -/
def rowsF (s : ByteArray) : List S52 × Int :=
  if 1024 < s.size then ([], 91)
  else match tokL s.data.toList with
    | none => ([], 90)
    | some ts => if ts = [] then ([], 0) else finS (refGo [] (splA sSem [] (ts.map mkS)))
theorem readRanges_eq (s : ByteArray) (k : Nat) (hk : 1400000 ≤ k) : quipuref09_readRanges.f k s = some (rowsF s) := by
  unfold quipuref09_readRanges.f rowsF
  by_cases hs : 1024 < s.size
  · rw [if_pos (by omega), if_pos hs]
  · rw [if_neg (by omega), if_neg hs, parts_eq s (by omega) k (by omega)]
    cases ht : tokL s.data.toList with
    | none => rfl
    | some ts =>
      have hlen : ts.length ≤ s.size := by
        have := toks_len (k := s.size + 1) (s := s) (ts := ts.map mkS) (by rw [toks_L, ht]; rfl)
        rwa [List.length_map] at this
      simp only [finP, List.nil_append, Option.bind_some, if_true, List.length_map]
      by_cases h0 : ts = []
      · subst h0; rfl
      · have hl0 : 0 < ts.length := List.length_pos_iff.2 h0
        rw [if_neg (by omega), if_neg h0]
        have hsp := split_eq (ts.map mkS) sSem (by rw [List.length_map]; omega) k (by rw [List.length_map]; omega)
        have e : (⟨#[59]⟩ : ByteArray) = sSem := rfl
        rw [e, hsp]
        simp only [Option.bind_some]
        have hpl := spl_len sSem (ts.map mkS) []
        rw [List.length_map] at hpl
        have := ranges_l0 (splA sSem [] (ts.map mkS)) (by omega) 1100 0 k [] (by omega) (Nat.zero_le _) (Nat.zero_le _) (by omega)
        rw [List.drop_zero] at this
        exact this
end Go.Proofs.YtnkggincckdoiaaDoor.Q
