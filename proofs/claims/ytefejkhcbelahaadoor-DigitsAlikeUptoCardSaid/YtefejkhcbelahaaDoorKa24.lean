import Derived.Test.YtefejkhcbelahaaDoorKa21
import Derived.Test.YtefejkhcbelahaaDoorKa23
namespace Go.Proofs.YtefejkhcbelahaaDoor.Q
open Go.RowKit Go.Proofs.YtefejkhcbelahaaDoorW.PrintWords Go.Proofs.YtefejkhcbelahaaDoorW.PrintLast Go.Proofs.YtefejkhcbelahaaDoorW.PrintMore
set_option linter.unusedVariables false
set_option linter.unusedSimpArgs false
def num2 (P : List S34) (f : Int) : Nat := (P.filter fun x => x.f1 == f).length
def All2 {α β : Type} (R : α → β → Prop) : List α → List β → Prop
  | [], [] => True
  | x :: xs, y :: ys => R x y ∧ All2 R xs ys
  | [], _ :: _ => False
  | _ :: _, [] => False
theorem All2.app {α β : Type} {R : α → β → Prop} : ∀ {l : List α} {m : List β} {l' : List α} {m' : List β}, All2 R l m → All2 R l' m' → All2 R (l ++ l') (m ++ m')
  | [], [], _, _, _, h => h
  | _ :: _, _ :: _, _, _, h, h' => ⟨h.1, All2.app h.2 h'⟩
  | [], _ :: _, _, _, h, _ => h.elim
  | _ :: _, [], _, _, h, _ => h.elim
theorem All2.rev {α β : Type} {R : α → β → Prop} : ∀ {l : List α} {m : List β}, All2 R l m → All2 R l.reverse m.reverse
  | [], [], _ => trivial
  | x :: xs, y :: ys, h => by
    rw [List.reverse_cons, List.reverse_cons]
    exact All2.app (All2.rev h.2) ⟨h.1, trivial⟩
  | [], _ :: _, h => h.elim
  | _ :: _, [], h => h.elim
theorem All2.len {α β : Type} {R : α → β → Prop} : ∀ {l : List α} {m : List β}, All2 R l m → l.length = m.length
  | [], [], _ => rfl
  | _ :: _, _ :: _, h => by rw [List.length_cons, List.length_cons, All2.len h.2]
  | [], _ :: _, h => h.elim
  | _ :: _, [], h => h.elim
theorem All2.get {α β : Type} {R : α → β → Prop} : ∀ {l : List α} {m : List β}, All2 R l m → ∀ (i : Nat) (h : i < l.length) (h' : i < m.length), R l[i] m[i]
  | [], [], _, i, h, _ => absurd h (by simp)
  | _ :: _, _ :: _, h, 0, _, _ => h.1
  | _ :: _, _ :: _, h, i + 1, h1, h2 => All2.get h.2 i (by simpa using h1) (by simpa using h2)
  | [], _ :: _, h, _, _, _ => h.elim
  | _ :: _, [], h, _, _, _ => h.elim
theorem All2.full {R : S34 → S34 → Prop} (hR : ∀ x y, R x y → (x.f0.size = 0 ↔ y.f0.size = 0)) : ∀ {l m : List S34}, All2 R l m → All2 R (fullL l) (fullL m)
  | [], [], _ => trivial
  | x :: xs, y :: ys, h => by
    have ih := All2.full hR h.2
    have hz := hR x y h.1
    rw [full_cons, full_cons]
    by_cases c : x.f0.size = 0
    · rw [if_pos c, if_pos (hz.1 c)]; exact ih
    · rw [if_neg c, if_neg (fun h2 => c (hz.2 h2))]; exact ⟨h.1, ih⟩
  | [], _ :: _, h => h.elim
  | _ :: _, [], h => h.elim
/-- The same digits, by two kinds of symbols. -/
def SameDig (D E : List ByteArray) (g h : List ByteArray) : Prop := ∃ s : List UInt8, digB s = true ∧ s.length ≤ 5000 ∧ g = writtenL D s ∧ h = writtenL E s
theorem same_part (D E : List ByteArray) (l : List UInt8) (hl : digB l = true) (hn : l.length ≤ 5000) (i j : Nat) : SameDig D E (((writtenL D l).take i).drop j) (((writtenL E l).take i).drop j) :=
  ⟨(l.take i).drop j, digB_sub hl j i, by rw [List.length_drop, List.length_take]; omega, by unfold writtenL; rw [List.map_drop, List.map_take], by unfold writtenL; rw [List.map_drop, List.map_take]⟩
theorem chunks2 (D E : List ByteArray) (l : List UInt8) (hl : digB l = true) (hn : l.length ≤ 5000) (f : Nat) : ∀ (k e : Nat), All2 (SameDig D E) (chunksL (writtenL D l) f k e) (chunksL (writtenL E l) f k e)
  | 0, _ => trivial
  | k + 1, e => by
    simp only [chunksL]
    by_cases c : e = 0
    · rw [if_pos c, if_pos c]; trivial
    · rw [if_neg c, if_neg c]
      exact ⟨same_part D E l hl hn e (e - f), chunks2 D E l hl hn f k (e - f)⟩
theorem grouped2 (D E : List ByteArray) (l : List UInt8) (hl : digB l = true) (hn : l.length ≤ 5000) (first further least : Int) : All2 (SameDig D E) (groupedL (writtenL D l) first further least) (groupedL (writtenL E l) first further least) := by
  have h1 : (writtenL D l).length = l.length := by unfold writtenL; rw [List.length_map]
  have h2 : (writtenL E l).length = l.length := by unfold writtenL; rw [List.length_map]
  unfold groupedL
  rw [h1, h2]
  by_cases c : first ≤ 0 ∨ (l.length : Int) - first < (if 1 < least then least else 1)
  · rw [if_pos c, if_pos c]
    exact ⟨⟨l, hl, hn, rfl, rfl⟩, trivial⟩
  · rw [if_neg c, if_neg c]
    refine All2.rev ⟨?_, chunks2 D E l hl hn _ _ _⟩
    have := same_part D E l hl hn l.length (l.length - first.toNat)
    rw [List.take_of_length_le (by omega), List.take_of_length_le (by omega)] at this
    exact this
/-- A piece and its counterpart. -/
def Alike (D : List ByteArray) (c : Int) (x y : S34) : Prop := x.f1 = y.f1 ∧ (x.f0.size = 0 ↔ y.f0.size = 0) ∧ (c = 0 → x.f1 = 2 ∨ x.f1 = 5 → ∃ s : List UInt8, digB s = true ∧ s.length ≤ 5000 ∧ y.f0 = mkS s ∧ x.f0 = flatS (writtenL D s))
theorem written_nil {D : List ByteArray} (hN : ∀ i, i < 10 → (D.getD i ⟨#[]⟩).size ≠ 0) (s : List UInt8) (hs : digB s = true) : (flatS (writtenL D s)).size = 0 ↔ s = [] := by
  constructor
  · intro h
    cases s with
    | nil => rfl
    | cons u s =>
      rw [digB_cons, Bool.and_eq_true, Bool.and_eq_true, decide_eq_true_eq, decide_eq_true_eq] at hs
      have hu := hN (u.toNat - 48) (by omega)
      have e : (flatS (writtenL D (u :: s))).size = (sym D u).data.toList.length + ((writtenL D s).flatMap (·.data.toList)).length := by
        unfold flatS
        rw [mkS_size]
        show ((sym D u).data.toList ++ (writtenL D s).flatMap (·.data.toList)).length = _
        rw [List.length_append]
      rw [e, slen] at h
      exact absurd (show (sym D u).size = 0 from by omega) hu
  · rintro rfl; rfl
theorem dig_alike {D : List ByteArray} (hN : ∀ i, i < 10 → (D.getD i ⟨#[]⟩).size ≠ 0) (c f : Int) (g h : List ByteArray) (hs : SameDig D (symsOf ⟨#[48]⟩ ⟨#[49]⟩ ⟨#[50]⟩ ⟨#[51]⟩ ⟨#[52]⟩ ⟨#[53]⟩ ⟨#[54]⟩ ⟨#[55]⟩ ⟨#[56]⟩ ⟨#[57]⟩) g h) : Alike D c ⟨flatS g, f⟩ ⟨flatS h, f⟩ := by
  obtain ⟨s, h1, h2, rfl, rfl⟩ := hs
  refine ⟨rfl, ?_, fun _ _ => ⟨s, h1, h2, flatS_latin s h1, rfl⟩⟩
  show (flatS (writtenL D s)).size = 0 ↔ (flatS (writtenL (symsOf ⟨#[48]⟩ ⟨#[49]⟩ ⟨#[50]⟩ ⟨#[51]⟩ ⟨#[52]⟩ ⟨#[53]⟩ ⟨#[54]⟩ ⟨#[55]⟩ ⟨#[56]⟩ ⟨#[57]⟩) s)).size = 0
  rw [written_nil hN s h1, flatS_latin s h1, mkS_size, List.length_eq_zero_iff]
theorem inter_alike {D : List ByteArray} (hN : ∀ i, i < 10 → (D.getD i ⟨#[]⟩).size ≠ 0) (c : Int) (G : ByteArray) (hG : G.size ≠ 0) : ∀ {gs hs : List (List ByteArray)}, All2 (SameDig D (symsOf ⟨#[48]⟩ ⟨#[49]⟩ ⟨#[50]⟩ ⟨#[51]⟩ ⟨#[52]⟩ ⟨#[53]⟩ ⟨#[54]⟩ ⟨#[55]⟩ ⟨#[56]⟩ ⟨#[57]⟩)) gs hs → All2 (Alike D c) (inter G gs) (inter ⟨#[44]⟩ hs) := by
  have e44 : (⟨#[44]⟩ : ByteArray).size = 1 := rfl
  have sep : Alike D c ⟨G, 3⟩ ⟨⟨#[44]⟩, 3⟩ := ⟨rfl, ⟨fun h => absurd h hG, fun h => absurd h (by show ¬ (1 : Nat) = 0; decide)⟩, fun _ h => by
    rcases h with h | h
    · exact absurd h (show ¬ ((3 : Int) = 2) by decide)
    · exact absurd h (show ¬ ((3 : Int) = 5) by decide)⟩
  have key : ∀ {gs hs : List (List ByteArray)}, All2 (SameDig D (symsOf ⟨#[48]⟩ ⟨#[49]⟩ ⟨#[50]⟩ ⟨#[51]⟩ ⟨#[52]⟩ ⟨#[53]⟩ ⟨#[54]⟩ ⟨#[55]⟩ ⟨#[56]⟩ ⟨#[57]⟩)) gs hs → All2 (Alike D c) (gs.flatMap fun h => [(⟨G, 3⟩ : S34), ⟨flatS h, 2⟩]) (hs.flatMap fun h => [(⟨⟨#[44]⟩, 3⟩ : S34), ⟨flatS h, 2⟩]) := by
    intro gs
    induction gs with
    | nil =>
      intro hs h
      cases hs with
      | nil => trivial
      | cons _ _ => exact h.elim
    | cons g gs ih =>
      intro hs h
      cases hs with
      | nil => exact h.elim
      | cons h' hs => exact ⟨sep, dig_alike hN c 2 g h' h.1, ih h.2⟩
  intro gs hs h
  cases gs with
  | nil =>
    cases hs with
    | nil => trivial
    | cons _ _ => exact h.elim
  | cons g gs =>
    cases hs with
    | nil => exact h.elim
    | cons h' hs => exact ⟨dig_alike hN c 2 g h' h.1, key h.2⟩
theorem end_alike {D : List ByteArray} (hN : ∀ i, i < 10 → (D.getD i ⟨#[]⟩).size ≠ 0) (c : Int) (dec : ByteArray) (hd : dec.size ≠ 0) (al : Bool) (b : ByteArray) (hb : b.size ≤ 5000) (hbd : digB b.data.toList = true) : All2 (Alike D c) (endL D dec al b) (endL (symsOf ⟨#[48]⟩ ⟨#[49]⟩ ⟨#[50]⟩ ⟨#[51]⟩ ⟨#[52]⟩ ⟨#[53]⟩ ⟨#[54]⟩ ⟨#[55]⟩ ⟨#[56]⟩ ⟨#[57]⟩) ⟨#[46]⟩ al b) := by
  have pt : Alike D c ⟨dec, 4⟩ ⟨⟨#[46]⟩, 4⟩ := ⟨rfl, ⟨fun h => absurd h hd, fun h => absurd h (by show ¬ (1 : Nat) = 0; decide)⟩, fun _ h => by
    rcases h with h | h
    · exact absurd h (show ¬ ((4 : Int) = 2) by decide)
    · exact absurd h (show ¬ ((4 : Int) = 5) by decide)⟩
  have fr : Alike D c ⟨flatS (writtenL D b.data.toList), 5⟩ ⟨flatS (writtenL (symsOf ⟨#[48]⟩ ⟨#[49]⟩ ⟨#[50]⟩ ⟨#[51]⟩ ⟨#[52]⟩ ⟨#[53]⟩ ⟨#[54]⟩ ⟨#[55]⟩ ⟨#[56]⟩ ⟨#[57]⟩) b.data.toList), 5⟩ := dig_alike hN c 5 _ _ ⟨b.data.toList, hbd, by rw [slen]; exact hb, rfl, rfl⟩
  unfold endL
  by_cases h : (al || !(b.size == 0)) = true
  · rw [if_pos h, if_pos h]; exact ⟨pt, fr, trivial⟩
  · rw [if_neg h, if_neg h]; exact ⟨fr, trivial⟩
theorem pieces_alike {D : List ByteArray} (hN : ∀ i, i < 10 → (D.getD i ⟨#[]⟩).size ≠ 0) (dec G inf nan : ByteArray) (h1 : dec.size ≠ 0) (h2 : G.size ≠ 0) (h3 : inf.size ≠ 0) (h4 : nan.size ≠ 0) (c : Int) (n : Bool) (a b : ByteArray) (e first further least : Int) (al : Bool) :
    All2 (Alike D c) (piecesL D dec G inf nan c n a b e first further least al) (piecesL (symsOf ⟨#[48]⟩ ⟨#[49]⟩ ⟨#[50]⟩ ⟨#[51]⟩ ⟨#[52]⟩ ⟨#[53]⟩ ⟨#[54]⟩ ⟨#[55]⟩ ⟨#[56]⟩ ⟨#[57]⟩) ⟨#[46]⟩ ⟨#[44]⟩ ⟨#[105, 110, 102]⟩ ⟨#[110, 97, 110]⟩ c n a b e first further least al) := by
  unfold piecesL
  by_cases hm : mayR c n a b e = false
  · rw [if_pos hm, if_pos hm]; trivial
  · rw [if_neg hm, if_neg hm]
    have hm' : mayR c n a b e = true := by simpa using hm
    have one : ∀ (x y : ByteArray), x.size ≠ 0 → y.size ≠ 0 → c ≠ 0 → All2 (Alike D c) [(⟨x, 2⟩ : S34)] [(⟨y, 2⟩ : S34)] := fun x y hx hy hc => ⟨⟨rfl, ⟨fun h => absurd h hx, fun h => absurd h hy⟩, fun h => absurd h hc⟩, trivial⟩
    by_cases c1 : c = 1
    · rw [if_pos c1, if_pos c1]
      exact All2.full (fun x y h => h.2.1) (one _ _ h3 (by show ¬ (3 : Nat) = 0; decide) (by omega))
    · rw [if_neg c1, if_neg c1]
      by_cases c2 : c = 2
      · rw [if_pos c2, if_pos c2]
        exact All2.full (fun x y h => h.2.1) (one _ _ h4 (by show ¬ (3 : Nat) = 0; decide) (by omega))
      · rw [if_neg c2, if_neg c2]
        obtain rfl : c = 0 := by have := may_c hm'; omega
        obtain ⟨z1, z2, _, _, z5, z6, _⟩ := may_size hm'
        refine All2.full (fun x y h => h.2.1) (All2.app (inter_alike hN 0 G h2 (grouped2 D (symsOf ⟨#[48]⟩ ⟨#[49]⟩ ⟨#[50]⟩ ⟨#[51]⟩ ⟨#[52]⟩ ⟨#[53]⟩ ⟨#[54]⟩ ⟨#[55]⟩ ⟨#[56]⟩ ⟨#[57]⟩) a.data.toList z5 (by rw [slen]; omega) first further least)) (end_alike hN 0 dec h1 al b (by omega) z6))
/-- Without groups there is one piece of whole digits at most; its pieces are few. -/
theorem full_num (l : List S34) (f : Int) : num2 (fullL l) f ≤ num2 l f := by
  unfold num2 fullL
  rw [List.filter_filter]
  refine List.Sublist.length_le ?_
  have : (l.filter fun a => (a.f1 == f && !emB a)) = (l.filter fun x => x.f1 == f).filter fun x => !emB x := by
    rw [List.filter_filter]
    congr 1
    funext x
    exact Bool.and_comm _ _
  rw [this]
  exact List.filter_sublist
theorem none_num (D : List ByteArray) (dec G inf nan : ByteArray) (c : Int) (n : Bool) (a b : ByteArray) (e further least : Int) (al : Bool) : num2 (piecesL D dec G inf nan c n a b e 0 further least al) 2 ≤ 1 ∧ (piecesL D dec G inf nan c n a b e 0 further least al).length ≤ 3 := by
  unfold piecesL
  by_cases hm : mayR c n a b e = false
  · rw [if_pos hm]; exact ⟨by decide, by decide⟩
  · rw [if_neg hm]
    have one : ∀ x : ByteArray, num2 (fullL [(⟨x, 2⟩ : S34)]) 2 ≤ 1 ∧ (fullL [(⟨x, 2⟩ : S34)]).length ≤ 3 := fun x => ⟨Nat.le_trans (full_num _ _) (show num2 [(⟨x, 2⟩ : S34)] 2 ≤ 1 from Nat.le_refl 1), Nat.le_trans (full_le _) (by show 1 ≤ 3; decide)⟩
    by_cases c1 : c = 1
    · rw [if_pos c1]; exact one _
    · rw [if_neg c1]
      by_cases c2 : c = 2
      · rw [if_pos c2]; exact one _
      · rw [if_neg c2]
        have eg : groupedL (writtenL D a.data.toList) 0 further least = [writtenL D a.data.toList] := by unfold groupedL; rw [if_pos (Or.inl (by decide))]
        rw [eg]
        have ei : inter G [writtenL D a.data.toList] = [(⟨flatS (writtenL D a.data.toList), 2⟩ : S34)] := rfl
        rw [ei]
        refine ⟨Nat.le_trans (full_num _ _) ?_, Nat.le_trans (full_le _) ?_⟩
        · unfold endL num2
          by_cases h : (al || !(b.size == 0)) = true
          · rw [if_pos h]; exact Nat.le_refl 1
          · rw [if_neg h]; exact Nat.le_refl 1
        · unfold endL
          by_cases h : (al || !(b.size == 0)) = true
          · rw [if_pos h]; exact Nat.le_refl 3
          · rw [if_neg h]; show 2 ≤ 3; decide
theorem of_n (P : List S34) (hP : P.length ≤ 10) (hs : ∀ x ∈ P, x.f0.size ≤ 10000000000000) (f : Int) : ∀ (d i k : Nat) (L : List Int) (c : Nat), P.length - i = d → i ≤ P.length → d < k → L.length ≤ i * 10000000000000 → c ≤ i →
    ∃ T, quipulaw16_of.l0 k P f L (c : Int) (i : Int) = some (T, ((c + num2 (P.drop i) f : Nat) : Int)) := by
  intro d
  induction d with
  | zero =>
    intro i k L c hd hi hk hL hc
    obtain ⟨k, rfl⟩ : ∃ m, k = m + 1 := ⟨k - 1, by omega⟩
    have e0 : P.drop i = [] := List.drop_of_length_le (by omega)
    have e2 : num2 [] f = 0 := rfl
    refine ⟨strOfNums L, ?_⟩
    simp only [quipulaw16_of.l0]
    rw [if_neg (by omega), e0, e2, Nat.add_zero]
  | succ d ih =>
    intro i k L c hd hi hk hL hc
    obtain ⟨k, rfl⟩ : ∃ m, k = m + 1 := ⟨k - 1, by omega⟩
    have hlt : i < P.length := by omega
    have ed : P.drop i = P[i] :: P.drop (i + 1) := List.drop_eq_getElem_cons hlt
    have hz := hs P[i] (List.getElem_mem hlt)
    have hb : (bytesOf P[i].f0).length = P[i].f0.size := by unfold bytesOf; rw [List.length_map, slen]
    have hmul : (i + 1) * 10000000000000 = i * 10000000000000 + 10000000000000 := Nat.succ_mul i _
    have hi9 : i * 10000000000000 ≤ 9 * 10000000000000 := Nat.mul_le_mul_right _ (by omega)
    simp only [quipulaw16_of.l0]
    rw [if_pos (by omega), if_pos (by omega), crd P i hlt, ed, wrapS i 10000000 (by omega) (by omega)]
    have en : num2 (P[i] :: P.drop (i + 1)) f = (if P[i].f1 = f then 1 else 0) + num2 (P.drop (i + 1)) f := by
      unfold num2
      rw [List.filter_cons]
      by_cases h : P[i].f1 = f
      · rw [if_pos (by simp [h]), if_pos h, List.length_cons]; omega
      · rw [if_neg (by simp [h]), if_neg h]; omega
    rw [en]
    by_cases h2 : P[i].f1 = f
    · obtain ⟨T, hT⟩ := ih (i + 1) k (L ++ bytesOf P[i].f0) (c + 1) (by omega) (by omega) (by omega) (by rw [List.length_append, hb, hmul]; omega) (by omega)
      refine ⟨T, ?_⟩
      rw [if_pos h2, if_pos h2, if_pos (by omega), wrapS c 10000000 (by omega) (by omega), hT, Nat.add_assoc]
    · obtain ⟨T, hT⟩ := ih (i + 1) k L c (by omega) (by omega) (by omega) (Nat.le_trans hL (Nat.mul_le_mul_right _ (by omega))) (by omega)
      refine ⟨T, ?_⟩
      rw [if_neg h2, if_neg h2, hT, Nat.zero_add]
theorem al_l1 (c : Int) (n : Bool) (a b : ByteArray) (e : Int) (p : Bool) (s0 s1 s2 s3 s4 s5 s6 s7 s8 s9 s10 s11 s12 s13 s14 s15 s16 s17 s18 s19 s20 : ByteArray) (PA PB : List S34) (hD : Small (symsOf s0 s1 s2 s3 s4 s5 s6 s7 s8 s9)) (hP : PA.length ≤ 10000) (hA : All2 (Alike (symsOf s0 s1 s2 s3 s4 s5 s6 s7 s8 s9) c) PA PB) : ∀ (d i : Nat), PA.length - i = d → i ≤ PA.length →
    Ev (fun k => quipulaw16_DigitsAlike.l1 k PA PB (i : Int) c n a b e p s0 s1 s2 s3 s4 s5 s6 s7 s8 s9 s10 s11 s12 s13 s14 s15 s16 s17 s18 s19 s20) true := by
  have hlen := All2.len hA
  intro d
  induction d with
  | zero =>
    intro i hd hi
    refine Ev.now 1 (fun k => ?_)
    simp only [quipulaw16_DigitsAlike.l1]
    rw [if_neg (by omega)]
  | succ d ih =>
    intro i hd hi
    have hlt : i < PA.length := by omega
    have hlt2 : i < PB.length := by omega
    have u1 : PA.length - (i + 1) = d := by omega
    have u2 : i + 1 ≤ PA.length := by omega
    have u3 : (i : Int) < (PA.length : Int) := by omega
    have u4 : (0 : Int) ≤ (i : Int) := by omega
    have u5 : (i : Int) < (PB.length : Int) := by omega
    have u6 : wrap64 ((i : Int) + 1) = ((i + 1 : Nat) : Int) := wrapS i 10000000 (by omega) (by omega)
    obtain ⟨q1, q2, q3⟩ := All2.get hA i hlt hlt2
    refine Ev.step (ih (i + 1) u1 u2) 1 (fun k => ?_)
    simp only [quipulaw16_DigitsAlike.l1]
    rw [if_pos u3, if_pos u4, if_pos u5, crd PA i hlt, crd PB i hlt2, if_pos q1, u6]
    have hW : c = 0 → (PA[i].f1 = 2 ∨ PA[i].f1 = 5) → ∃ t, quipuref16_Write.f PB[i].f0 s0 s1 s2 s3 s4 s5 s6 s7 s8 s9 s10 s11 s12 s13 s14 s15 s16 s17 s18 s19 s20 = some t ∧ PA[i].f0.toList = t.toList := by
      intro hc hf
      obtain ⟨s, w1, w2, w3, w4⟩ := q3 hc hf
      have := Write_all 0 false (mkS s) ⟨#[]⟩ 0 false s0 s1 s2 s3 s4 s5 s6 s7 s8 s9 s10 s11 s12 s13 s14 s15 s16 s17 s18 s19 s20 hD (by rw [mkS_size]; omega) (by rw [mkS_data]; exact w1)
      rw [mkS_data] at this
      exact ⟨_, by rw [w3]; exact this, by rw [w4]⟩
    by_cases hc : c = 0
    · rw [if_pos hc]
      by_cases h2 : PA[i].f1 = 2
      · obtain ⟨t, ht, he⟩ := hW hc (Or.inl h2)
        rw [if_pos h2, ht, Option.bind_some, if_pos he]
      · rw [if_neg h2]
        by_cases h5 : PA[i].f1 = 5
        · obtain ⟨t, ht, he⟩ := hW hc (Or.inr h5)
          rw [if_pos h5, ht, Option.bind_some, if_pos he]
        · rw [if_neg h5]
    · rw [if_neg hc]
theorem al_l0 (c : Int) (n : Bool) (a b : ByteArray) (e : Int) (p : Bool) (s0 s1 s2 s3 s4 s5 s6 s7 s8 s9 s10 s11 s12 s13 s14 s15 s16 s17 s18 s19 s20 : ByteArray) (PA PB : List S34) (hT : (∀ i, i < 10 → ((symsOf s0 s1 s2 s3 s4 s5 s6 s7 s8 s9).getD i ⟨#[]⟩).size ≠ 0) → s10.size ≠ 0 → s11.size ≠ 0 → s17.size ≠ 0 → s18.size ≠ 0 → Ev (fun k => quipulaw16_DigitsAlike.j2 k PA PB false c n a b e p s0 s1 s2 s3 s4 s5 s6 s7 s8 s9 s10 s11 s12 s13 s14 s15 s16 s17 s18 s19 s20) true) :
    ∀ (d i : Nat), 10 - i = d → i ≤ 10 → (∀ j, j < i → ((symsOf s0 s1 s2 s3 s4 s5 s6 s7 s8 s9).getD j ⟨#[]⟩).size ≠ 0) → Ev (fun k => quipulaw16_DigitsAlike.l0 k PA PB (i : Int) c n a b e p s0 s1 s2 s3 s4 s5 s6 s7 s8 s9 s10 s11 s12 s13 s14 s15 s16 s17 s18 s19 s20) true := by
  have hj : Ev (fun k => quipulaw16_DigitsAlike.j2 k PA PB true c n a b e p s0 s1 s2 s3 s4 s5 s6 s7 s8 s9 s10 s11 s12 s13 s14 s15 s16 s17 s18 s19 s20) true := by
    refine Ev.now 1 (fun k => ?_)
    simp only [quipulaw16_DigitsAlike.j2]
    rw [if_pos trivial]
  intro d
  induction d with
  | zero =>
    intro i hd hi hpre
    have h10 : i = 10 := by omega
    subst h10
    by_cases z0 : s10.size = 0
    · refine Ev.step hj 1 (fun k => ?_)
      simp only [quipulaw16_DigitsAlike.l0]
      rw [if_neg (by omega), if_pos ((nil_size _).2 z0)]
    · by_cases z1 : s11.size = 0
      · refine Ev.step hj 1 (fun k => ?_)
        simp only [quipulaw16_DigitsAlike.l0]
        rw [if_neg (by omega), if_neg (fun h => z0 ((nil_size _).1 h)), if_pos ((nil_size _).2 z1)]
      · by_cases z2 : s17.size = 0
        · refine Ev.step hj 1 (fun k => ?_)
          simp only [quipulaw16_DigitsAlike.l0]
          rw [if_neg (by omega), if_neg (fun h => z0 ((nil_size _).1 h)), if_neg (fun h => z1 ((nil_size _).1 h)), if_pos ((nil_size _).2 z2)]
        · by_cases z3 : s18.size = 0
          · refine Ev.step hj 1 (fun k => ?_)
            simp only [quipulaw16_DigitsAlike.l0]
            rw [if_neg (by omega), if_neg (fun h => z0 ((nil_size _).1 h)), if_neg (fun h => z1 ((nil_size _).1 h)), if_neg (fun h => z2 ((nil_size _).1 h)), (nil_size _).2 z3]
            rfl
          · refine Ev.step (hT hpre z0 z1 z2 z3) 1 (fun k => ?_)
            have hne : ¬ s18.toList = [] := fun h => z3 ((nil_size _).1 h)
            simp only [quipulaw16_DigitsAlike.l0]
            rw [if_neg (by omega), if_neg (fun h => z0 ((nil_size _).1 h)), if_neg (fun h => z1 ((nil_size _).1 h)), if_neg (fun h => z2 ((nil_size _).1 h)), beq_eq_false_iff_ne.2 hne]
  | succ d ih =>
    intro i hd hi hpre
    have ep : pickA10 s0 s1 s2 s3 s4 s5 s6 s7 s8 s9 (i : Int) = (symsOf s0 s1 s2 s3 s4 s5 s6 s7 s8 s9).getD i ⟨#[]⟩ := by unfold pickA10; rw [Int.toNat_natCast]
    by_cases z : ((symsOf s0 s1 s2 s3 s4 s5 s6 s7 s8 s9).getD i ⟨#[]⟩).size = 0
    · refine Ev.now 1 (fun k => ?_)
      simp only [quipulaw16_DigitsAlike.l0]
      rw [if_pos (by omega), if_pos (by omega), ep, if_pos ((nil_size _).2 z)]
    · refine Ev.step (ih (i + 1) (by omega) (by omega) (fun j hj2 => ?_)) 1 (fun k => ?_)
      · by_cases hji : j = i
        · subst hji; exact z
        · exact hpre j (by omega)
      · simp only [quipulaw16_DigitsAlike.l0]
        rw [if_pos (by omega), if_pos (by omega), ep, if_neg (fun h => z ((nil_size _).1 h)), wrapS i 10000 (by omega) (by omega)]
theorem pieces_size {D : List ByteArray} (hD : Small D) (dec G inf nan : ByteArray) (h1 : dec.size ≤ 1048576) (h2 : G.size ≤ 1048576) (h3 : inf.size ≤ 1048576) (h4 : nan.size ≤ 1048576) (c : Int) (n : Bool) (a b : ByteArray) (e further least : Int) (al : Bool) :
    ∀ x ∈ piecesL D dec G inf nan c n a b e 0 further least al, x.f0.size ≤ 10000000000000 := by
  intro x hx
  unfold piecesL at hx
  by_cases hm : mayR c n a b e = false
  · rw [if_pos hm] at hx; simp at hx
  · rw [if_neg hm] at hx
    have hm' : mayR c n a b e = true := by simpa using hm
    by_cases c1 : c = 1
    · rw [if_pos c1] at hx
      rw [List.mem_singleton.1 (List.mem_filter.1 hx).1]
      exact Nat.le_trans h3 (by decide)
    · rw [if_neg c1] at hx
      by_cases c2 : c = 2
      · rw [if_pos c2] at hx
        rw [List.mem_singleton.1 (List.mem_filter.1 hx).1]
        exact Nat.le_trans h4 (by decide)
      · rw [if_neg c2] at hx
        obtain rfl : c = 0 := by have := may_c hm'; omega
        obtain ⟨z1, z2, _, _, z5, z6, _⟩ := may_size hm'
        have fl : ∀ s : ByteArray, s.size ≤ 4096 → (flatS (writtenL D s.data.toList)).size ≤ 10000000000000 := by
          intro s hs
          have h := flat_le (written_small hD s.data.toList)
          have hl : (writtenL D s.data.toList).length = s.size := by unfold writtenL; rw [List.length_map, slen]
          unfold flatS
          rw [mkS_size]
          rw [hl] at h
          exact Nat.le_trans h (Nat.le_trans (Nat.mul_le_mul_right _ hs) (by decide))
        have eg : groupedL (writtenL D a.data.toList) 0 further least = [writtenL D a.data.toList] := by unfold groupedL; rw [if_pos (Or.inl (by decide))]
        have ei : inter G [writtenL D a.data.toList] = [(⟨flatS (writtenL D a.data.toList), 2⟩ : S34)] := rfl
        rw [eg, ei] at hx
        have hx2 := (List.mem_filter.1 hx).1
        rcases List.mem_append.1 hx2 with hx3 | hx3
        · rw [List.mem_singleton.1 hx3]; exact fl a z1
        · unfold endL at hx3
          rcases List.mem_append.1 hx3 with hx4 | hx4
          · split at hx4
            · rw [List.mem_singleton.1 hx4]; exact Nat.le_trans h1 (by decide)
            · simp at hx4
          · rw [List.mem_singleton.1 hx4]; exact fl b z2
theorem lawAlike (c : Int) (n : Bool) (a b : ByteArray) (e : Int) (p : Bool) (s0 s1 s2 s3 s4 s5 s6 s7 s8 s9 s10 s11 s12 s13 s14 s15 s16 s17 s18 s19 s20 : ByteArray) (first further least : Int) (al : Bool) (hD : Small (symsOf s0 s1 s2 s3 s4 s5 s6 s7 s8 s9)) (g1 : s10.size ≤ 1048576) (g2 : s11.size ≤ 1048576) (g3 : s17.size ≤ 1048576) (g4 : s18.size ≤ 1048576) (ha : a.size ≤ 140737488355328) (hb : b.size ≤ 140737488355328) (he : -9223372036854775808 ≤ e ∧ e ≤ 9223372036854775807) (h1 : inI first = true) (h2 : inI further = true) (h3 : inI least = true) :
    Ev (fun k => quipulaw16_DigitsAlike.f k c n a b e p s0 s1 s2 s3 s4 s5 s6 s7 s8 s9 s10 s11 s12 s13 s14 s15 s16 s17 s18 s19 s20 first further least al) true := by
  have hPA := pieces_f c n a b e p s0 s1 s2 s3 s4 s5 s6 s7 s8 s9 s10 s11 s12 s13 s14 s15 s16 s17 s18 s19 s20 first further least al hD ha hb he h1 h2 h3
  have hPB := pieces_f c n a b e p (⟨#[48]⟩ : ByteArray) (⟨#[49]⟩ : ByteArray) (⟨#[50]⟩ : ByteArray) (⟨#[51]⟩ : ByteArray) (⟨#[52]⟩ : ByteArray) (⟨#[53]⟩ : ByteArray) (⟨#[54]⟩ : ByteArray) (⟨#[55]⟩ : ByteArray) (⟨#[56]⟩ : ByteArray) (⟨#[57]⟩ : ByteArray) (⟨#[46]⟩ : ByteArray) (⟨#[44]⟩ : ByteArray) (⟨#[45]⟩ : ByteArray) (⟨#[43]⟩ : ByteArray) (⟨#[]⟩ : ByteArray) (⟨#[]⟩ : ByteArray) (⟨#[69]⟩ : ByteArray) (⟨#[105, 110, 102]⟩ : ByteArray) (⟨#[110, 97, 110]⟩ : ByteArray) (⟨#[]⟩ : ByteArray) (⟨#[]⟩ : ByteArray) first further least al latin_small ha hb he h1 h2 h3
  have hPC := pieces_f c n a b e p s0 s1 s2 s3 s4 s5 s6 s7 s8 s9 s10 s11 s12 s13 s14 s15 s16 s17 s18 s19 s20 0 further least al hD ha hb he (by decide) h2 h3
  obtain ⟨n1, n2⟩ := none_num (symsOf s0 s1 s2 s3 s4 s5 s6 s7 s8 s9) s10 s11 s17 s18 c n a b e further least al
  have n3 := pieces_size hD s10 s11 s17 s18 g1 g2 g3 g4 c n a b e further least al
  have hlen := pieces_len (symsOf s0 s1 s2 s3 s4 s5 s6 s7 s8 s9) s10 s11 s17 s18 c n a b e first further least al
  have hal := fun hN z0 z1 z2 z3 => pieces_alike (D := (symsOf s0 s1 s2 s3 s4 s5 s6 s7 s8 s9)) hN s10 s11 s17 s18 z0 z1 z2 z3 c n a b e first further least al
  generalize piecesL (symsOf s0 s1 s2 s3 s4 s5 s6 s7 s8 s9) s10 s11 s17 s18 c n a b e 0 further least al = PC at hPC n1 n2 n3
  generalize piecesL (symsOf s0 s1 s2 s3 s4 s5 s6 s7 s8 s9) s10 s11 s17 s18 c n a b e first further least al = PA at hPA hlen hal
  generalize piecesL (symsOf ⟨#[48]⟩ ⟨#[49]⟩ ⟨#[50]⟩ ⟨#[51]⟩ ⟨#[52]⟩ ⟨#[53]⟩ ⟨#[54]⟩ ⟨#[55]⟩ ⟨#[56]⟩ ⟨#[57]⟩) ⟨#[46]⟩ ⟨#[44]⟩ ⟨#[105, 110, 102]⟩ ⟨#[110, 97, 110]⟩ c n a b e first further least al = PB at hPB hal
  obtain ⟨K, hK⟩ := al_l0 c n a b e p s0 s1 s2 s3 s4 s5 s6 s7 s8 s9 s10 s11 s12 s13 s14 s15 s16 s17 s18 s19 s20 PA PB (fun hN z0 z1 z2 z3 => by
    have hA := hal hN z0 z1 z2 z3
    have hl := All2.len hA
    refine Ev.step (al_l1 c n a b e p s0 s1 s2 s3 s4 s5 s6 s7 s8 s9 s10 s11 s12 s13 s14 s15 s16 s17 s18 s19 s20 PA PB hD hlen hA _ 0 rfl (Nat.zero_le _)) 1 (fun k => ?_)
    simp only [quipulaw16_DigitsAlike.j2]
    rw [if_neg (by simp), if_pos (by rw [hl])]
    rfl) 10 0 rfl (by omega) (fun j hj => absurd hj (by omega))
  refine ⟨K + 20, fun k hk => ?_⟩
  obtain ⟨k, rfl⟩ : ∃ q, k = q + 1 := ⟨k - 1, by omega⟩
  obtain ⟨T, hT⟩ := of_n PC (by omega) n3 2 _ 0 (k + 1) [] 0 rfl (Nat.zero_le _) (by omega) (Nat.zero_le _) (Nat.le_refl _)
  have hT' : quipulaw16_of.f (k + 1) PC 2 = some (T, ((num2 PC 2 : Nat) : Int)) := by
    unfold quipulaw16_of.f
    rw [List.drop_zero, Nat.zero_add] at hT
    exact hT
  have e0 : quipulaw16_DigitsAlike.l0 k PA PB 0 c n a b e p s0 s1 s2 s3 s4 s5 s6 s7 s8 s9 s10 s11 s12 s13 s14 s15 s16 s17 s18 s19 s20 = some true := hK k (by omega)
  show quipulaw16_DigitsAlike.f (k + 1) c n a b e p s0 s1 s2 s3 s4 s5 s6 s7 s8 s9 s10 s11 s12 s13 s14 s15 s16 s17 s18 s19 s20 first further least al = some true
  simp only [quipulaw16_DigitsAlike.f, quipulaw16_latin.f, Option.bind_some]
  rw [hPA, Option.bind_some, hPB, Option.bind_some, hPC, Option.bind_some, hT', Option.bind_some, awake_p, Option.bind_some, if_pos rfl]
  simp only [quipulaw16_DigitsAlike.j0]
  rw [if_neg (by simp only [decide_eq_true_eq]; omega), e0]
end Go.Proofs.YtefejkhcbelahaaDoor.Q
