import Derived.Test.YtefejkhcbelahaaDoorKw23
import Derived.Test.YtefejkhcbelahaaDoorKw25
namespace Go.Proofs.YtefejkhcbelahaaDoor.Q
open Go.RowKit Go.Proofs.YtefejkhcbelahaaDoorW.PrintWords Go.Proofs.YtefejkhcbelahaaDoorW.PrintLast Go.Proofs.YtefejkhcbelahaaDoorW.PrintMore
set_option linter.unusedVariables false
set_option linter.unusedSimpArgs false
def txt (P : List S34) (f : Int) : List UInt8 := (P.filter fun x => x.f1 == f).flatMap (·.f0.data.toList)
def num (P : List S34) (f : Int) : Nat := (P.filter fun x => x.f1 == f).length
theorem txt_cons (x : S34) (P : List S34) (f : Int) : txt (x :: P) f = (if x.f1 = f then x.f0.data.toList else []) ++ txt P f := by
  unfold txt
  rw [List.filter_cons]
  by_cases h : x.f1 = f
  · rw [if_pos (by simp [h]), if_pos h]; rfl
  · rw [if_neg (by simp [h]), if_neg h]; rfl
theorem num_cons (x : S34) (P : List S34) (f : Int) : num (x :: P) f = (if x.f1 = f then 1 else 0) + num P f := by
  unfold num
  rw [List.filter_cons]
  by_cases h : x.f1 = f
  · rw [if_pos (by simp [h]), if_pos h, List.length_cons]; omega
  · rw [if_neg (by simp [h]), if_neg h]; omega
theorem txt_app (P Q : List S34) (f : Int) : txt (P ++ Q) f = txt P f ++ txt Q f := by unfold txt; rw [List.filter_append, List.flatMap_append]
theorem num_app (P Q : List S34) (f : Int) : num (P ++ Q) f = num P f + num Q f := by unfold num; rw [List.filter_append, List.length_append]
theorem of_l0 (P : List S34) (hP : P.length ≤ 100000) (hs : ∀ x ∈ P, x.f0.size ≤ 1000000) (f : Int) : ∀ (d i k : Nat) (L : List UInt8) (c : Nat), P.length - i = d → i ≤ P.length → d < k → L.length ≤ i * 1000000 → c ≤ i →
    quipulaw16_of.l0 k P f (L.map fun b => (b.toNat : Int)) (c : Int) (i : Int) = some (mkS (L ++ txt (P.drop i) f), ((c + num (P.drop i) f : Nat) : Int)) := by
  intro d
  induction d with
  | zero =>
    intro i k L c hd hi hk hL hc
    obtain ⟨k, rfl⟩ : ∃ m, k = m + 1 := ⟨k - 1, by omega⟩
    have e0 : P.drop i = [] := List.drop_of_length_le (by omega)
    have e1 : txt [] f = [] := rfl
    have e2 : num [] f = 0 := rfl
    simp only [quipulaw16_of.l0]
    rw [if_neg (by omega), e0, e1, e2, List.append_nil, Nat.add_zero]
    unfold strOfNums mkS
    rw [bytes_back]
  | succ d ih =>
    intro i k L c hd hi hk hL hc
    obtain ⟨k, rfl⟩ : ∃ m, k = m + 1 := ⟨k - 1, by omega⟩
    have hlt : i < P.length := by omega
    have ed : P.drop i = P[i] :: P.drop (i + 1) := List.drop_eq_getElem_cons hlt
    have hz := hs P[i] (List.getElem_mem hlt)
    have eb : (L.map fun b => (b.toNat : Int)) ++ bytesOf P[i].f0 = (L ++ P[i].f0.data.toList).map fun b => (b.toNat : Int) := by rw [List.map_append]; rfl
    simp only [quipulaw16_of.l0]
    rw [if_pos (by omega), if_pos (by omega), crd P i hlt, ed, txt_cons, num_cons, wrapS i 10000000 (by omega) (by omega)]
    by_cases h2 : P[i].f1 = f
    · rw [if_pos h2, if_pos h2, if_pos h2, if_pos (by rw [List.length_map]; omega), eb, wrapS c 10000000 (by omega) (by omega), ih (i + 1) k _ (c + 1) (by omega) (by omega) (by omega) (by rw [List.length_append, slen]; omega) (by omega), List.append_assoc, Nat.add_assoc]
    · rw [if_neg h2, if_neg h2, if_neg h2, ih (i + 1) k L c (by omega) (by omega) (by omega) (Nat.le_trans hL (Nat.mul_le_mul_right _ (by omega))) (by omega), List.nil_append, Nat.zero_add]
theorem of_p (P : List S34) (hP : P.length ≤ 100000) (hs : ∀ x ∈ P, x.f0.size ≤ 1000000) (f : Int) (k : Nat) (hk : P.length < k) : quipulaw16_of.f k P f = some (mkS (txt P f), (num P f : Int)) := by
  have := of_l0 P hP hs f P.length 0 k [] 0 (by omega) (Nat.zero_le _) hk (by rw [Nat.zero_mul]; exact Nat.le_refl 0) (Nat.zero_le _)
  simp only [List.drop_zero, List.nil_append, Nat.zero_add] at this
  exact this
/-- The groups are all the digits. -/
theorem chunks_flat (l : List ByteArray) (f : Nat) (hf : 0 < f) : ∀ (k e : Nat), e ≤ k → (chunksL l f k e).reverse.flatten = l.take e
  | 0, e, h => by
    obtain rfl : e = 0 := by omega
    simp [chunksL]
  | k + 1, e, h => by
    simp only [chunksL]
    by_cases c : e = 0
    · subst c; rw [if_pos rfl]; simp
    · rw [if_neg c, List.reverse_cons, List.flatten_append, chunks_flat l f hf k (e - f) (by omega)]
      have : l.take (e - f) = (l.take e).take (e - f) := by rw [List.take_take, Nat.min_eq_left (by omega)]
      rw [this, List.flatten_cons, List.flatten_nil, List.append_nil, List.take_append_drop]
theorem grouped_flat (l : List ByteArray) (first further least : Int) : (groupedL l first further least).flatten = l := by
  unfold groupedL
  by_cases c : first ≤ 0 ∨ (l.length : Int) - first < (if 1 < least then least else 1)
  · rw [if_pos c]; simp
  · have hf : 0 < (if further ≤ 0 then first else further).toNat := by split <;> omega
    rw [if_neg c, List.reverse_cons, List.flatten_append, chunks_flat l _ hf _ _ (Nat.le_refl _), List.flatten_cons, List.flatten_nil, List.append_nil, List.take_append_drop]
theorem grouped_ne (l : List ByteArray) (first further least : Int) (hl : l ≠ []) : ∀ g ∈ groupedL l first further least, g ≠ [] := by
  intro g hg
  unfold groupedL at hg
  by_cases c : first ≤ 0 ∨ (l.length : Int) - first < (if 1 < least then least else 1)
  · rw [if_pos c] at hg
    rw [List.mem_singleton.1 hg]; exact hl
  · have hq : (1 : Int) ≤ (if 1 < least then least else 1) := by split <;> omega
    have hf : 0 < (if further ≤ 0 then first else further).toNat := by split <;> omega
    rw [if_neg c, List.mem_reverse] at hg
    rcases List.mem_cons.1 hg with rfl | hg
    · intro h
      have := congrArg List.length h
      rw [List.length_drop] at this
      simp at this
      omega
    · obtain ⟨_, k2, _⟩ := chunk_lens l _ hf (l.length - first.toNat) (l.length - first.toNat) (Nat.le_refl _) (by omega)
      have := k2 g hg
      intro h
      rw [h] at this; simp at this
theorem grouped_some (l : List ByteArray) (first further least : Int) : groupedL l first further least ≠ [] := by
  unfold groupedL
  by_cases c : first ≤ 0 ∨ (l.length : Int) - first < (if 1 < least then least else 1)
  · rw [if_pos c]; simp
  · rw [if_neg c]; simp
/-- The pieces behind the first group. -/
def tailI (gs : List (List ByteArray)) : List S34 := gs.flatMap fun h => [(⟨⟨#[44]⟩, 3⟩ : S34), ⟨flatS h, 2⟩]
theorem tailI_cons (g : List ByteArray) (gs : List (List ByteArray)) : tailI (g :: gs) = (⟨⟨#[44]⟩, 3⟩ : S34) :: ⟨flatS g, 2⟩ :: tailI gs := rfl
theorem tailI_full : ∀ (gs : List (List ByteArray)), (∀ g ∈ gs, (flatS g).size ≠ 0) → fullL (tailI gs) = tailI gs
  | [], _ => rfl
  | g :: gs, h => by
    have e44 : (⟨#[44]⟩ : ByteArray).size = 1 := rfl
    rw [tailI_cons, full_cons, full_cons, if_neg (by rw [e44]; omega), if_neg (h g (by simp)), tailI_full gs (fun x hx => h x (by simp [hx]))]
    rfl
theorem tailI_facts : ∀ (gs : List (List ByteArray)), (tailI gs).length = 2 * gs.length ∧ num (tailI gs) 2 = gs.length ∧ num (tailI gs) 3 = gs.length ∧ num (tailI gs) 4 = 0 ∧ num (tailI gs) 5 = 0 ∧ (txt (tailI gs) 3).length = gs.length ∧ txt (tailI gs) 5 = [] ∧ txt (tailI gs) 2 = gs.flatten.flatMap (·.data.toList) ∧ ∀ (i : Nat) (h : i < (tailI gs).length), (tailI gs)[i].f1 = if i % 2 = 1 then 2 else 3
  | [] => ⟨rfl, rfl, rfl, rfl, rfl, rfl, rfl, rfl, fun i h => by simp [tailI] at h⟩
  | g :: gs => by
    obtain ⟨h1, h2, h3, h4, h5, h6, h7, h8, h9⟩ := tailI_facts gs
    have eg : (flatS g).data.toList = g.flatMap (·.data.toList) := by unfold flatS; rw [mkS_data]
    have e44 : ([44] : List UInt8) = (⟨#[44]⟩ : ByteArray).data.toList := rfl
    simp only [tailI_cons, num_cons, txt_cons, List.length_cons]
    refine ⟨by omega, ?_, ?_, ?_, ?_, ?_, ?_, ?_, ?_⟩
    · rw [if_neg (by decide), if_pos trivial, h2]; omega
    · rw [if_pos trivial, if_neg (by decide), h3]; omega
    · rw [if_neg (by decide), if_neg (by decide), h4]
    · rw [if_neg (by decide), if_neg (by decide), h5]
    · rw [if_pos trivial, if_neg (by decide), List.length_append, List.length_append, h6]; show 1 + (0 + gs.length) = _; omega
    · rw [if_neg (by decide), if_neg (by decide), h7]; rfl
    · rw [if_neg (by decide), if_pos trivial, h8, eg, List.flatten_cons, List.flatMap_append]; rfl
    · intro i h
      match i, h with
      | 0, _ => rfl
      | 1, _ => rfl
      | i + 2, h =>
        rw [List.getElem_cons_succ, List.getElem_cons_succ, h9 i (by omega)]
        have : (i + 2) % 2 = i % 2 := by omega
        rw [this]
/-- Where each field stands. -/
def Lies (P : List S34) (n k q : Nat) : Prop := ∀ (i : Nat) (h : i < P.length), P[i].f1 = if n + k + q ≤ i then 5 else if n + k ≤ i then 4 else if i % 2 = 1 then 3 else 2
structure WholeOk (a b : ByteArray) (al : Bool) (P : List S34) : Prop where
  len : P.length ≤ 10000
  small : ∀ x ∈ P, x.f0.size ≤ 1000000
  int : txt P 2 = a.data.toList
  frac : txt P 5 = b.data.toList
  points : num P 4 = if al = true ∨ b.size ≠ 0 then 1 else 0
  commas : (txt P 3).length = num P 3
  all : P.length = num P 2 + num P 5 + num P 3 + num P 4
  none : num P 2 = 0 ↔ a.size = 0
  more : 0 < num P 2 → num P 2 = num P 3 + 1
  lies : Lies P (num P 2) (num P 3) (num P 4)
theorem end_latin (b : ByteArray) (al : Bool) (hbd : digB b.data.toList = true) : fullL (endL (symsOf ⟨#[48]⟩ ⟨#[49]⟩ ⟨#[50]⟩ ⟨#[51]⟩ ⟨#[52]⟩ ⟨#[53]⟩ ⟨#[54]⟩ ⟨#[55]⟩ ⟨#[56]⟩ ⟨#[57]⟩) ⟨#[46]⟩ al b) = (if al = true ∨ b.size ≠ 0 then [(⟨⟨#[46]⟩, 4⟩ : S34)] else []) ++ (if b.size = 0 then [] else [(⟨mkS b.data.toList, 5⟩ : S34)]) := by
  have e46 : (⟨#[46]⟩ : ByteArray).size = 1 := rfl
  unfold endL
  rw [flatS_latin _ hbd, full_app]
  have e1 : fullL [(⟨mkS b.data.toList, 5⟩ : S34)] = (if b.size = 0 then [] else [(⟨mkS b.data.toList, 5⟩ : S34)]) := by
    rw [full_cons]
    have : (mkS b.data.toList).size = b.size := by rw [mkS_size, slen]
    rw [this]
    by_cases h : b.size = 0
    · rw [if_pos h]; rfl
    · rw [if_neg h]; rfl
  rw [e1]
  congr 1
  by_cases h : b.size = 0
  · cases al with
    | true => rw [h, if_pos (by rfl), if_pos (Or.inl rfl), full_cons, if_neg (by rw [e46]; omega)]; rfl
    | false => rw [h, if_neg (by simp), if_neg (by simp)]; rfl
  · rw [if_pos (by rw [beq_eq_false_iff_ne.2 h]; simp), if_pos (Or.inr h), full_cons, if_neg (by rw [e46]; omega)]; rfl
theorem whole_ok (n : Bool) (a b : ByteArray) (e first further least : Int) (al : Bool) (hm : mayR 0 n a b e = true) : WholeOk a b al (piecesL (symsOf ⟨#[48]⟩ ⟨#[49]⟩ ⟨#[50]⟩ ⟨#[51]⟩ ⟨#[52]⟩ ⟨#[53]⟩ ⟨#[54]⟩ ⟨#[55]⟩ ⟨#[56]⟩ ⟨#[57]⟩) ⟨#[46]⟩ ⟨#[44]⟩ ⟨#[105, 110, 102]⟩ ⟨#[110, 97, 110]⟩ 0 n a b e first further least al) := by
  obtain ⟨z1, z2, _, _, z5, z6, _⟩ := may_size hm
  have hplen := pieces_len (symsOf ⟨#[48]⟩ ⟨#[49]⟩ ⟨#[50]⟩ ⟨#[51]⟩ ⟨#[52]⟩ ⟨#[53]⟩ ⟨#[54]⟩ ⟨#[55]⟩ ⟨#[56]⟩ ⟨#[57]⟩) ⟨#[46]⟩ ⟨#[44]⟩ ⟨#[105, 110, 102]⟩ ⟨#[110, 97, 110]⟩ 0 n a b e first further least al
  have hl : (writtenL (symsOf ⟨#[48]⟩ ⟨#[49]⟩ ⟨#[50]⟩ ⟨#[51]⟩ ⟨#[52]⟩ ⟨#[53]⟩ ⟨#[54]⟩ ⟨#[55]⟩ ⟨#[56]⟩ ⟨#[57]⟩) a.data.toList).length = a.size := by unfold writtenL; rw [List.length_map, slen]
  have hfl := flat_latin a.data.toList z5
  have hgf := grouped_flat (writtenL (symsOf ⟨#[48]⟩ ⟨#[49]⟩ ⟨#[50]⟩ ⟨#[51]⟩ ⟨#[52]⟩ ⟨#[53]⟩ ⟨#[54]⟩ ⟨#[55]⟩ ⟨#[56]⟩ ⟨#[57]⟩) a.data.toList) first further least
  have hgs := group_size a.data.toList z5 first further least
  have hgm := grouped_mem (writtenL (symsOf ⟨#[48]⟩ ⟨#[49]⟩ ⟨#[50]⟩ ⟨#[51]⟩ ⟨#[52]⟩ ⟨#[53]⟩ ⟨#[54]⟩ ⟨#[55]⟩ ⟨#[56]⟩ ⟨#[57]⟩) a.data.toList) first further least
  have hgn := grouped_ne (writtenL (symsOf ⟨#[48]⟩ ⟨#[49]⟩ ⟨#[50]⟩ ⟨#[51]⟩ ⟨#[52]⟩ ⟨#[53]⟩ ⟨#[54]⟩ ⟨#[55]⟩ ⟨#[56]⟩ ⟨#[57]⟩) a.data.toList) first further least
  have hgo := grouped_some (writtenL (symsOf ⟨#[48]⟩ ⟨#[49]⟩ ⟨#[50]⟩ ⟨#[51]⟩ ⟨#[52]⟩ ⟨#[53]⟩ ⟨#[54]⟩ ⟨#[55]⟩ ⟨#[56]⟩ ⟨#[57]⟩) a.data.toList) first further least
  have hP : piecesL (symsOf ⟨#[48]⟩ ⟨#[49]⟩ ⟨#[50]⟩ ⟨#[51]⟩ ⟨#[52]⟩ ⟨#[53]⟩ ⟨#[54]⟩ ⟨#[55]⟩ ⟨#[56]⟩ ⟨#[57]⟩) ⟨#[46]⟩ ⟨#[44]⟩ ⟨#[105, 110, 102]⟩ ⟨#[110, 97, 110]⟩ 0 n a b e first further least al = fullL (inter ⟨#[44]⟩ (groupedL (writtenL (symsOf ⟨#[48]⟩ ⟨#[49]⟩ ⟨#[50]⟩ ⟨#[51]⟩ ⟨#[52]⟩ ⟨#[53]⟩ ⟨#[54]⟩ ⟨#[55]⟩ ⟨#[56]⟩ ⟨#[57]⟩) a.data.toList) first further least)) ++ fullL (endL (symsOf ⟨#[48]⟩ ⟨#[49]⟩ ⟨#[50]⟩ ⟨#[51]⟩ ⟨#[52]⟩ ⟨#[53]⟩ ⟨#[54]⟩ ⟨#[55]⟩ ⟨#[56]⟩ ⟨#[57]⟩) ⟨#[46]⟩ al b) := by
    unfold piecesL
    rw [if_neg (by rw [hm]; simp), if_neg (by decide), if_neg (by decide), full_app]
  rw [hP] at hplen ⊢
  rw [end_latin b al z6] at hplen ⊢
  -- what stands behind
  obtain ⟨E, hE⟩ : ∃ E, E = (if al = true ∨ b.size ≠ 0 then [(⟨⟨#[46]⟩, 4⟩ : S34)] else []) ++ (if b.size = 0 then [] else [(⟨mkS b.data.toList, 5⟩ : S34)]) := ⟨_, rfl⟩
  have hEf : num E 2 = 0 ∧ num E 3 = 0 ∧ txt E 2 = [] ∧ txt E 3 = [] ∧ txt E 5 = b.data.toList ∧ num E 4 = (if al = true ∨ b.size ≠ 0 then 1 else 0) ∧ E.length = num E 5 + num E 4 ∧ (∀ x ∈ E, x.f0.size ≤ 1000000) ∧ ∀ (i : Nat) (h : i < E.length), E[i].f1 = if num E 4 ≤ i then 5 else 4 := by
    have hb5 : (mkS b.data.toList).size ≤ 1000000 := by rw [mkS_size, slen]; omega
    have hd : (mkS b.data.toList).data.toList = b.data.toList := mkS_data _
    by_cases c1 : b.size = 0
    · have hb0 : b.data.toList = [] := List.length_eq_zero_iff.1 (by rw [slen]; exact c1)
      rw [hb0]
      by_cases c2 : al = true
      · have e : E = [(⟨⟨#[46]⟩, 4⟩ : S34)] := by rw [hE, if_pos (Or.inl c2), if_pos c1]; rfl
        subst e
        refine ⟨rfl, rfl, rfl, rfl, rfl, by rw [if_pos (Or.inl c2)]; rfl, rfl, fun x hx => ?_, fun i h => ?_⟩
        · rw [List.mem_singleton.1 hx]; decide
        · match i, h with
          | 0, _ => rfl
      · have e : E = [] := by rw [hE, if_neg (by rintro (h | h); exact c2 h; exact h c1), if_pos c1]; rfl
        subst e
        exact ⟨rfl, rfl, rfl, rfl, rfl, by rw [if_neg (by rintro (h | h); exact c2 h; exact h c1)]; rfl, rfl, fun x hx => by simp at hx, fun i h => by simp at h⟩
    · have e : E = [(⟨⟨#[46]⟩, 4⟩ : S34), ⟨mkS b.data.toList, 5⟩] := by rw [hE, if_pos (Or.inr c1), if_neg c1]; rfl
      subst e
      refine ⟨rfl, rfl, rfl, rfl, ?_, by rw [if_pos (Or.inr c1)]; rfl, rfl, fun x hx => ?_, fun i h => ?_⟩
      · rw [txt_cons, txt_cons, if_neg (by decide), if_pos rfl, hd]; simp [txt]
      · simp only [List.mem_cons, List.not_mem_nil, or_false] at hx
        rcases hx with rfl | rfl
        · decide
        · exact hb5
      · match i, h with
        | 0, _ => rfl
        | 1, _ => rfl
  rw [← hE] at hplen ⊢
  clear hE
  obtain ⟨E2, E3, T2, T3, T5, E4, EL, ES, EI⟩ := hEf
  by_cases h0 : a.size = 0
  · -- no whole digits
    have hL0 : writtenL (symsOf ⟨#[48]⟩ ⟨#[49]⟩ ⟨#[50]⟩ ⟨#[51]⟩ ⟨#[52]⟩ ⟨#[53]⟩ ⟨#[54]⟩ ⟨#[55]⟩ ⟨#[56]⟩ ⟨#[57]⟩) a.data.toList = [] := List.length_eq_zero_iff.1 (hl.trans h0)
    have ha0 : a.data.toList = [] := List.length_eq_zero_iff.1 (by rw [slen]; exact h0)
    have hW : fullL (inter ⟨#[44]⟩ (groupedL (writtenL (symsOf ⟨#[48]⟩ ⟨#[49]⟩ ⟨#[50]⟩ ⟨#[51]⟩ ⟨#[52]⟩ ⟨#[53]⟩ ⟨#[54]⟩ ⟨#[55]⟩ ⟨#[56]⟩ ⟨#[57]⟩) a.data.toList) first further least)) = [] := by
      have : groupedL (writtenL (symsOf ⟨#[48]⟩ ⟨#[49]⟩ ⟨#[50]⟩ ⟨#[51]⟩ ⟨#[52]⟩ ⟨#[53]⟩ ⟨#[54]⟩ ⟨#[55]⟩ ⟨#[56]⟩ ⟨#[57]⟩) a.data.toList) first further least = [[]] := by
        rw [hL0]
        unfold groupedL
        rw [if_pos (by
          by_cases hf : first ≤ 0
          · exact Or.inl hf
          · right; simp; split <;> omega)]
      rw [this]
      exact full_one (flatS []) 2 rfl
    rw [hW, List.nil_append] at hplen ⊢
    exact ⟨hplen, ES, by rw [T2, ha0], T5, E4, by rw [T3, E3]; rfl, by omega, by omega, by omega, fun i h => by
      rw [EI i h, E2, E3]
      by_cases c : num E 4 ≤ i
      · rw [if_pos c, if_pos (by omega)]
      · rw [if_neg c, if_neg (by omega), if_pos (by omega)]⟩
  · have hLne : writtenL (symsOf ⟨#[48]⟩ ⟨#[49]⟩ ⟨#[50]⟩ ⟨#[51]⟩ ⟨#[52]⟩ ⟨#[53]⟩ ⟨#[54]⟩ ⟨#[55]⟩ ⟨#[56]⟩ ⟨#[57]⟩) a.data.toList ≠ [] := fun h => h0 (by rw [← hl, h]; rfl)
    have hsz : ∀ g ∈ groupedL (writtenL (symsOf ⟨#[48]⟩ ⟨#[49]⟩ ⟨#[50]⟩ ⟨#[51]⟩ ⟨#[52]⟩ ⟨#[53]⟩ ⟨#[54]⟩ ⟨#[55]⟩ ⟨#[56]⟩ ⟨#[57]⟩) a.data.toList) first further least, (flatS g).size ≠ 0 := fun g hg => by
      rw [hgs g hg]
      exact fun h => hgn hLne g hg (List.length_eq_zero_iff.1 h)
    have hsz2 : ∀ g ∈ groupedL (writtenL (symsOf ⟨#[48]⟩ ⟨#[49]⟩ ⟨#[50]⟩ ⟨#[51]⟩ ⟨#[52]⟩ ⟨#[53]⟩ ⟨#[54]⟩ ⟨#[55]⟩ ⟨#[56]⟩ ⟨#[57]⟩) a.data.toList) first further least, (flatS g).size ≤ 5000 := fun g hg => by
      rw [hgs g hg]
      obtain ⟨i, j, rfl⟩ := hgm g hg
      rw [List.length_drop, List.length_take]; omega
    generalize groupedL (writtenL (symsOf ⟨#[48]⟩ ⟨#[49]⟩ ⟨#[50]⟩ ⟨#[51]⟩ ⟨#[52]⟩ ⟨#[53]⟩ ⟨#[54]⟩ ⟨#[55]⟩ ⟨#[56]⟩ ⟨#[57]⟩) a.data.toList) first further least = G at hgf hgo hsz hsz2 hplen ⊢
    match G, hgo with
    | g :: gs, _ =>
      have hI : inter ⟨#[44]⟩ (g :: gs) = (⟨flatS g, 2⟩ : S34) :: tailI gs := rfl
      have hF : fullL (inter ⟨#[44]⟩ (g :: gs)) = (⟨flatS g, 2⟩ : S34) :: tailI gs := by
        rw [hI, full_cons, if_neg (hsz g (by simp)), tailI_full gs (fun x hx => hsz x (by simp [hx]))]; rfl
      rw [hF] at hplen ⊢
      obtain ⟨k1, k2, k3, k4, k5, k6, k7, k8, k9⟩ := tailI_facts gs
      have eg : (flatS g).data.toList = g.flatMap (·.data.toList) := by unfold flatS; rw [mkS_data]
      have q1 : ((⟨flatS g, 2⟩ : S34) :: tailI gs).length = 2 * gs.length + 1 := by rw [List.length_cons, k1]
      have q2 : num ((⟨flatS g, 2⟩ : S34) :: tailI gs) 2 = gs.length + 1 := by rw [num_cons, if_pos rfl, k2]; omega
      have q3 : num ((⟨flatS g, 2⟩ : S34) :: tailI gs) 3 = gs.length := by rw [num_cons, if_neg (show ¬ ((2 : Int) = 3) by decide), k3]; omega
      have q4 : num ((⟨flatS g, 2⟩ : S34) :: tailI gs) 4 = 0 := by rw [num_cons, if_neg (show ¬ ((2 : Int) = 4) by decide), k4]
      have q5 : num ((⟨flatS g, 2⟩ : S34) :: tailI gs) 5 = 0 := by rw [num_cons, if_neg (show ¬ ((2 : Int) = 5) by decide), k5]
      have q6 : (txt ((⟨flatS g, 2⟩ : S34) :: tailI gs) 3).length = gs.length := by rw [txt_cons, if_neg (show ¬ ((2 : Int) = 3) by decide), List.nil_append, k6]
      have q7 : txt ((⟨flatS g, 2⟩ : S34) :: tailI gs) 5 = [] := by rw [txt_cons, if_neg (show ¬ ((2 : Int) = 5) by decide), k7]; rfl
      have q8 : txt ((⟨flatS g, 2⟩ : S34) :: tailI gs) 2 = a.data.toList := by
        rw [txt_cons, if_pos rfl, k8, eg, ← hfl, ← hgf, List.flatten_cons, List.flatMap_append]
      have q9 : ∀ (i : Nat) (h : i < ((⟨flatS g, 2⟩ : S34) :: tailI gs).length), ((⟨flatS g, 2⟩ : S34) :: tailI gs)[i].f1 = if i % 2 = 1 then 3 else 2 := by
        intro i h
        cases i with
        | zero => rfl
        | succ i =>
          rw [List.getElem_cons_succ, k9 i (by simp at h; omega)]
          by_cases c : i % 2 = 1
          · rw [if_pos c, if_neg (by omega)]
          · rw [if_neg c, if_pos (by omega)]
      have q10 : ∀ x ∈ ((⟨flatS g, 2⟩ : S34) :: tailI gs), x.f0.size ≤ 1000000 := by
        intro x hx
        rcases List.mem_cons.1 hx with rfl | hx
        · have := hsz2 g (by simp)
          show (flatS g).size ≤ 1000000
          omega
        · unfold tailI at hx
          obtain ⟨h, hh, hx⟩ := List.mem_flatMap.1 hx
          simp only [List.mem_cons, List.not_mem_nil, or_false] at hx
          rcases hx with rfl | rfl
          · decide
          · have := hsz2 h (by simp [hh])
            show (flatS h).size ≤ 1000000
            omega
      generalize (⟨flatS g, 2⟩ : S34) :: tailI gs = W at q1 q2 q3 q4 q5 q6 q7 q8 q9 q10 hplen ⊢
      have r2 : num (W ++ E) 2 = gs.length + 1 := by rw [num_app, q2, E2]
      have r3 : num (W ++ E) 3 = gs.length := by rw [num_app, q3, E3]; rfl
      have r4 : num (W ++ E) 4 = num E 4 := by rw [num_app, q4]; omega
      have r5 : num (W ++ E) 5 = num E 5 := by rw [num_app, q5]; omega
      refine ⟨hplen, fun x hx => ?_, by rw [txt_app, q8, T2, List.append_nil], by rw [txt_app, q7, T5]; rfl, by rw [r4, E4], by rw [txt_app, T3, List.append_nil, q6, r3], by rw [List.length_append, q1, EL, r2, r3, r4, r5]; omega, by omega, by omega, fun i h => ?_⟩
      · rcases List.mem_append.1 hx with hx | hx
        · exact q10 x hx
        · exact ES x hx
      · rw [r2, r3, r4]
        by_cases c : i < W.length
        · rw [List.getElem_append_left c, q9 i c, if_neg (show ¬ gs.length + 1 + gs.length + num E 4 ≤ i from by omega), if_neg (show ¬ gs.length + 1 + gs.length ≤ i from by omega)]
        · rw [List.getElem_append_right (by omega), EI _ (by rw [List.length_append] at h; omega), q1]
          by_cases c2 : num E 4 ≤ i - (2 * gs.length + 1)
          · rw [if_pos c2, if_pos (by omega)]
          · rw [if_neg c2, if_neg (by omega), if_pos (by omega)]
theorem wh_l0 (P : List S34) (n k0 q : Nat) (hP : P.length ≤ 100000) (hn : n ≤ 100000) (hk0 : k0 ≤ 100000) (hq : q ≤ 1) (hl : Lies P n k0 q) : ∀ (d i : Nat), P.length - i = d → i ≤ P.length → Ev (fun k => quipulaw16_DigitsWhole.l0 k P (n : Int) (k0 : Int) (q : Int) (i : Int)) true := by
  have w1 : wrap64 ((n : Int) + (k0 : Int)) = ((n + k0 : Nat) : Int) := by unfold wrap64; omega
  have w2 : wrap64 (((n + k0 : Nat) : Int) + (q : Int)) = ((n + k0 + q : Nat) : Int) := by unfold wrap64; omega
  intro d
  induction d with
  | zero =>
    intro i hd hi
    refine Ev.now 1 (fun k => ?_)
    simp only [quipulaw16_DigitsWhole.l0]
    rw [if_neg (by omega)]
  | succ d ih =>
    intro i hd hi
    have hlt : i < P.length := by omega
    have hli := hl i hlt
    have em : Int.tmod (i : Int) 2 = ((i % 2 : Nat) : Int) := by rw [Int.tmod_eq_emod_of_nonneg (by omega)]; omega
    refine Ev.step (ih (i + 1) (by omega) (by omega)) 3 (fun k => ?_)
    have j6 : ∀ z : Int, (¬ n + k0 + q ≤ i → P[i].f1 = z) → quipulaw16_DigitsWhole.j6 (k + 1) P (n : Int) (k0 : Int) (q : Int) (i : Int) z = quipulaw16_DigitsWhole.l0 k P (n : Int) (k0 : Int) (q : Int) ((i + 1 : Nat) : Int) := by
      intro z hz
      simp only [quipulaw16_DigitsWhole.j6]
      rw [w1, w2, wrapS i 10000000 (by omega) (by omega), crd P i hlt]
      by_cases c : n + k0 + q ≤ i
      · rw [if_pos c] at hli
        rw [if_pos (by omega), if_pos (by omega), if_pos (by omega), if_pos hli]
      · rw [if_neg (by omega), if_pos (by omega), if_pos (by omega), if_pos (hz c)]
    have j5 : ∀ z : Int, (¬ n + k0 ≤ i → P[i].f1 = z) → quipulaw16_DigitsWhole.j5 (k + 2) P (n : Int) (k0 : Int) (q : Int) (i : Int) z = quipulaw16_DigitsWhole.l0 k P (n : Int) (k0 : Int) (q : Int) ((i + 1 : Nat) : Int) := by
      intro z hz
      simp only [quipulaw16_DigitsWhole.j5]
      rw [w1]
      by_cases c : n + k0 ≤ i
      · rw [if_pos (by omega), j6 4 (fun c2 => by rw [if_neg c2, if_pos c] at hli; exact hli)]
      · rw [if_neg (by omega), j6 z (fun _ => hz c)]
    simp only [quipulaw16_DigitsWhole.l0]
    rw [if_pos (by omega), em]
    by_cases c : i % 2 = 1
    · rw [if_pos (by omega), j5 3 (fun c2 => by rw [if_neg (by omega), if_neg c2, if_pos c] at hli; exact hli)]
    · rw [if_neg (by omega), j5 2 (fun c2 => by rw [if_neg (by omega), if_neg c2, if_neg c] at hli; exact hli)]
theorem four_le {L a b c d : Nat} (h : L = a + b + c + d) (h2 : L ≤ 10000) : a ≤ 10000 ∧ b ≤ 10000 ∧ c ≤ 10000 ∧ d ≤ 10000 := by omega
theorem wrap_add (x y : Nat) (h : x ≤ 1000000) (h2 : y ≤ 1000000) : wrap64 ((x : Int) + (y : Int)) = ((x + y : Nat) : Int) := by unfold wrap64; omega
theorem wh_main (n : Bool) (a b : ByteArray) (e : Int) (p : Bool) (first further least : Int) (al : Bool) (P : List S34) (ok : WholeOk a b al P) : Ev (fun k => quipulaw16_DigitsWhole.j0 k P false 0 n a b e p first further least al) true := by
  obtain ⟨o1, o2, o3, o4, o5, o6, o7, o8, o9, o10⟩ := ok
  have hp1 : (al = true ∨ b.size ≠ 0) → num P 4 = 1 := fun h => by rw [o5, if_pos h]
  have hp0 : ¬ (al = true ∨ b.size ≠ 0) → num P 4 = 0 := fun h => by rw [o5, if_neg h]
  have hq : num P 4 ≤ 1 := by rw [o5]; split <;> decide
  have o8a := o8.1
  have o8b := o8.2
  clear o5 o8
  obtain ⟨b2, b5, b3, b4⟩ := four_le o7 o1
  obtain ⟨K, hK⟩ := wh_l0 P (num P 2) (num P 3) (num P 4) (Nat.le_trans o1 (by decide)) (Nat.le_trans b2 (by decide)) (Nat.le_trans b3 (by decide)) hq o10 _ 0 rfl (Nat.zero_le _)
  refine ⟨K + P.length + 10, fun k hk => ?_⟩
  obtain ⟨k, rfl⟩ : ∃ m, k = m + 4 := ⟨k - 4, by clear o7 o9 b2 b3 b4 b5; omega⟩
  have hkK : K ≤ k := by clear o7 o9 b2 b3 b4 b5 o6; omega
  have hkP : P.length < k + 3 := by clear o7 o9 b2 b3 b4 b5 o6; omega
  have hP1 : P.length ≤ 100000 := Nat.le_trans o1 (by decide)
  have e0 : quipulaw16_DigitsWhole.l0 k P (num P 2 : Int) (num P 3 : Int) (num P 4 : Int) 0 = some true := hK k hkK
  have e1 : (mkS (txt P 2)).toList = a.toList := by rw [toList_data, toList_data, mkS_data, o3]
  have e2 : (mkS (txt P 5)).toList = b.toList := by rw [toList_data, toList_data, mkS_data, o4]
  have e3 : ((mkS (txt P 3)).size : Int) = (num P 3 : Int) := by rw [mkS_size, o6]
  have w1 : wrap64 ((num P 2 : Int) + (num P 5 : Int)) = ((num P 2 + num P 5 : Nat) : Int) := wrap_add _ _ (Nat.le_trans b2 (by decide)) (Nat.le_trans b5 (by decide))
  have w2 : wrap64 (((num P 2 + num P 5 : Nat) : Int) + (num P 3 : Int)) = ((num P 2 + num P 5 + num P 3 : Nat) : Int) := wrap_add _ _ (Nat.le_trans (Nat.add_le_add b2 b5) (by decide)) (Nat.le_trans b3 (by decide))
  have w3 : wrap64 (((num P 2 + num P 5 + num P 3 : Nat) : Int) + (num P 4 : Int)) = ((num P 2 + num P 5 + num P 3 + num P 4 : Nat) : Int) := wrap_add _ _ (Nat.le_trans (Nat.add_le_add (Nat.add_le_add b2 b5) b3) (by decide)) (Nat.le_trans b4 (by decide))
  have e5 : ((((num P 2 : Nat) : Int) == 0) != (a.toList == ([] : List UInt8))) = false := by
    by_cases h : a.size = 0
    · rw [(nil_size a).2 h, o8b h]; rfl
    · have h1 : ¬ a.toList = [] := fun h2 => h ((nil_size a).1 h2)
      have h2 : ¬ num P 2 = 0 := fun h2 => h (o8a h2)
      rw [beq_eq_false_iff_ne.2 h1, beq_eq_false_iff_ne.2 (show ((num P 2 : Nat) : Int) ≠ 0 from fun h3 => h2 (by exact_mod_cast h3))]; rfl
  have j3 : quipulaw16_DigitsWhole.j3 (k + 1) P (num P 2 : Int) (num P 3 : Int) (num P 4 : Int) false = some true := by
    simp only [quipulaw16_DigitsWhole.j3]
    rw [if_neg (by simp), e0]
  have j2 : ∀ z : Int, (num P 4 : Int) = z → quipulaw16_DigitsWhole.j2 (k + 2) P (mkS (txt P 2)) (num P 2 : Int) (mkS (txt P 5)) (num P 5 : Int) (mkS (txt P 3)) (num P 3 : Int) (num P 4 : Int) z 0 n a b e p = some true := by
    intro z hz
    simp only [quipulaw16_DigitsWhole.j2]
    rw [if_pos e1, if_pos e2, if_pos hz, if_pos e3, w1, w2, w3, if_pos (by rw [o7]), if_neg (by rw [e5]; simp)]
    by_cases h : ((num P 2 : Nat) : Int) > 0
    · have w : wrap64 ((num P 3 : Int) + 1) = (num P 2 : Int) := by
        rw [o9 (by exact_mod_cast h)]
        exact wrapS _ 20000 (Nat.lt_of_le_of_lt b3 (by decide)) (by decide)
      rw [if_pos h, w, bne_self_eq_false, j3]
    · rw [if_neg h, j3]
  have j1t : num P 4 = 1 → quipulaw16_DigitsWhole.j1 (k + 3) P (mkS (txt P 2)) (num P 2 : Int) (mkS (txt P 5)) (num P 5 : Int) (mkS (txt P 3)) (num P 3 : Int) (num P 4 : Int) 0 true 0 n a b e p = some true := by
    intro h
    have j2' := j2 1 (by rw [h]; rfl)
    simp only [quipulaw16_DigitsWhole.j1]
    rw [if_pos trivial, j2']
  have j1f : num P 4 = 0 → quipulaw16_DigitsWhole.j1 (k + 3) P (mkS (txt P 2)) (num P 2 : Int) (mkS (txt P 5)) (num P 5 : Int) (mkS (txt P 3)) (num P 3 : Int) (num P 4 : Int) 0 false 0 n a b e p = some true := by
    intro h
    have j2' := j2 0 (by rw [h]; rfl)
    simp only [quipulaw16_DigitsWhole.j1]
    rw [if_neg (by simp), j2']
  show quipulaw16_DigitsWhole.j0 (k + 4) P false 0 n a b e p first further least al = some true
  simp only [quipulaw16_DigitsWhole.j0]
  rw [if_neg (by simp), of_p P hP1 o2 2 (k + 3) hkP, Option.bind_some, of_p P hP1 o2 5 (k + 3) hkP, Option.bind_some, of_p P hP1 o2 3 (k + 3) hkP, Option.bind_some, of_p P hP1 o2 4 (k + 3) hkP, Option.bind_some]
  by_cases h : b.size = 0
  · rw [if_pos ((nil_size b).2 h)]
    cases al with
    | true => exact j1t (hp1 (Or.inl rfl))
    | false => exact j1f (hp0 (by rintro (h2 | h2); cases h2; exact h2 h))
  · rw [if_neg (fun h2 => h ((nil_size b).1 h2))]
    exact j1t (hp1 (Or.inr h))
theorem lawWhole (c : Int) (n : Bool) (a b : ByteArray) (e : Int) (p : Bool) (first further least : Int) (al : Bool) (ha : a.size ≤ 140737488355328) (hb : b.size ≤ 140737488355328) (he : -9223372036854775808 ≤ e ∧ e ≤ 9223372036854775807) (h1 : inI first = true) (h2 : inI further = true) (h3 : inI least = true) :
    Ev (fun k => quipulaw16_DigitsWhole.f k c n a b e p first further least al) true := by
  obtain ⟨K, hK⟩ := May_p c n a b e p ha hb
  have hP := pieces_f c n a b e p (⟨#[48]⟩ : ByteArray) (⟨#[49]⟩ : ByteArray) (⟨#[50]⟩ : ByteArray) (⟨#[51]⟩ : ByteArray) (⟨#[52]⟩ : ByteArray) (⟨#[53]⟩ : ByteArray) (⟨#[54]⟩ : ByteArray) (⟨#[55]⟩ : ByteArray) (⟨#[56]⟩ : ByteArray) (⟨#[57]⟩ : ByteArray) (⟨#[46]⟩ : ByteArray) (⟨#[44]⟩ : ByteArray) (⟨#[45]⟩ : ByteArray) (⟨#[43]⟩ : ByteArray) (⟨#[]⟩ : ByteArray) (⟨#[]⟩ : ByteArray) (⟨#[69]⟩ : ByteArray) (⟨#[105, 110, 102]⟩ : ByteArray) (⟨#[110, 97, 110]⟩ : ByteArray) (⟨#[]⟩ : ByteArray) (⟨#[]⟩ : ByteArray) first further least al latin_small ha hb he h1 h2 h3
  by_cases hm : mayR c n a b e = true ∧ c = 0
  · obtain ⟨hm, rfl⟩ := hm
    have ok := whole_ok n a b e first further least al hm
    generalize piecesL (symsOf ⟨#[48]⟩ ⟨#[49]⟩ ⟨#[50]⟩ ⟨#[51]⟩ ⟨#[52]⟩ ⟨#[53]⟩ ⟨#[54]⟩ ⟨#[55]⟩ ⟨#[56]⟩ ⟨#[57]⟩) ⟨#[46]⟩ ⟨#[44]⟩ ⟨#[105, 110, 102]⟩ ⟨#[110, 97, 110]⟩ 0 n a b e first further least al = P at hP ok
    obtain ⟨K2, hK2⟩ := wh_main n a b e p first further least al P ok
    refine ⟨K + K2 + 2, fun k hk => ?_⟩
    obtain ⟨k, rfl⟩ : ∃ q, k = q + 1 := ⟨k - 1, by omega⟩
    have e1 : quipulaw16_DigitsWhole.j0 (k + 1) P false 0 n a b e p first further least al = some true := hK2 (k + 1) (by omega)
    show quipulaw16_DigitsWhole.f (k + 1) 0 n a b e p first further least al = some true
    simp only [quipulaw16_DigitsWhole.f, quipulaw16_latin.f, Option.bind_some]
    rw [hP, Option.bind_some, awake_p, Option.bind_some, if_pos rfl, hK (k + 1) (by omega), Option.bind_some, hm, if_pos rfl]
    exact e1
  · have hend : (mayR c n a b e == (((piecesL (symsOf ⟨#[48]⟩ ⟨#[49]⟩ ⟨#[50]⟩ ⟨#[51]⟩ ⟨#[52]⟩ ⟨#[53]⟩ ⟨#[54]⟩ ⟨#[55]⟩ ⟨#[56]⟩ ⟨#[57]⟩) ⟨#[46]⟩ ⟨#[44]⟩ ⟨#[105, 110, 102]⟩ ⟨#[110, 97, 110]⟩ c n a b e first further least al).length : Int) == 1)) = true := by
      unfold piecesL
      by_cases h4 : mayR c n a b e = true
      · have hc : c ≠ 0 := fun h => hm ⟨h4, h⟩
        have hc2 := may_c h4
        rw [if_neg (by rw [h4]; simp), h4]
        by_cases c1 : c = 1
        · rw [if_pos c1, full_cons]; rfl
        · rw [if_neg c1, if_pos (by omega), full_cons]; rfl
      · have h5 : mayR c n a b e = false := by simpa using h4
        rw [if_pos h5, h5]; rfl
    generalize piecesL (symsOf ⟨#[48]⟩ ⟨#[49]⟩ ⟨#[50]⟩ ⟨#[51]⟩ ⟨#[52]⟩ ⟨#[53]⟩ ⟨#[54]⟩ ⟨#[55]⟩ ⟨#[56]⟩ ⟨#[57]⟩) ⟨#[46]⟩ ⟨#[44]⟩ ⟨#[105, 110, 102]⟩ ⟨#[110, 97, 110]⟩ c n a b e first further least al = P at hP hend
    have hj : ∀ k, K ≤ k → quipulaw16_DigitsWhole.j0 (k + 1) P true c n a b e p first further least al = some true := by
      intro k hk
      simp only [quipulaw16_DigitsWhole.j0]
      rw [if_pos trivial, hK k hk, Option.bind_some, hend]
    refine ⟨K + 2, fun k hk => ?_⟩
    obtain ⟨k, rfl⟩ : ∃ q, k = q + 1 := ⟨k - 1, by omega⟩
    show quipulaw16_DigitsWhole.f (k + 1) c n a b e p first further least al = some true
    simp only [quipulaw16_DigitsWhole.f, quipulaw16_latin.f, Option.bind_some]
    rw [hP, Option.bind_some, awake_p, Option.bind_some, if_pos rfl, hK (k + 1) (by omega), Option.bind_some]
    by_cases h4 : mayR c n a b e = true
    · have hc : c ≠ 0 := fun h => hm ⟨h4, h⟩
      rw [if_pos h4, bne_iff_ne.2 hc]
      exact hj k (by omega)
    · rw [if_neg h4]
      exact hj k (by omega)
end Go.Proofs.YtefejkhcbelahaaDoor.Q
