import Derived.Test.YtefejkhcbelahaaDoorKs23
import Derived.Test.YtefejkhcbelahaaDoorKs24
namespace Go.Proofs.YtefejkhcbelahaaDoor.Q
open Go.RowKit Go.Proofs.YtefejkhcbelahaaDoorW.PrintWords Go.Proofs.YtefejkhcbelahaaDoorW.PrintLast Go.Proofs.YtefejkhcbelahaaDoorW.PrintMore
set_option linter.unusedVariables false
set_option linter.unusedSimpArgs false
theorem sym_latin (u : UInt8) (h1 : 48 ≤ u.toNat) (h2 : u.toNat ≤ 57) : (sym (symsOf ⟨#[48]⟩ ⟨#[49]⟩ ⟨#[50]⟩ ⟨#[51]⟩ ⟨#[52]⟩ ⟨#[53]⟩ ⟨#[54]⟩ ⟨#[55]⟩ ⟨#[56]⟩ ⟨#[57]⟩) u).data.toList = [u] := by
  have key : ∀ j : Fin 10, (sym (symsOf ⟨#[48]⟩ ⟨#[49]⟩ ⟨#[50]⟩ ⟨#[51]⟩ ⟨#[52]⟩ ⟨#[53]⟩ ⟨#[54]⟩ ⟨#[55]⟩ ⟨#[56]⟩ ⟨#[57]⟩) (UInt8.ofNat (48 + j.val))).data.toList = [UInt8.ofNat (48 + j.val)] := by decide +kernel
  have h := key ⟨u.toNat - 48, by omega⟩
  have e : UInt8.ofNat (48 + (u.toNat - 48)) = u := by rw [show 48 + (u.toNat - 48) = u.toNat from by omega, UInt8.ofNat_toNat]
  simp only [e] at h
  exact h
theorem flat_latin : ∀ (l : List UInt8), digB l = true → (writtenL (symsOf ⟨#[48]⟩ ⟨#[49]⟩ ⟨#[50]⟩ ⟨#[51]⟩ ⟨#[52]⟩ ⟨#[53]⟩ ⟨#[54]⟩ ⟨#[55]⟩ ⟨#[56]⟩ ⟨#[57]⟩) l).flatMap (·.data.toList) = l
  | [], _ => rfl
  | u :: l, h => by
    rw [digB_cons, Bool.and_eq_true, Bool.and_eq_true, decide_eq_true_eq, decide_eq_true_eq] at h
    have ih := flat_latin l h.2
    show (sym (symsOf ⟨#[48]⟩ ⟨#[49]⟩ ⟨#[50]⟩ ⟨#[51]⟩ ⟨#[52]⟩ ⟨#[53]⟩ ⟨#[54]⟩ ⟨#[55]⟩ ⟨#[56]⟩ ⟨#[57]⟩) u).data.toList ++ (writtenL (symsOf ⟨#[48]⟩ ⟨#[49]⟩ ⟨#[50]⟩ ⟨#[51]⟩ ⟨#[52]⟩ ⟨#[53]⟩ ⟨#[54]⟩ ⟨#[55]⟩ ⟨#[56]⟩ ⟨#[57]⟩) l).flatMap (·.data.toList) = u :: l
    rw [ih, sym_latin u h.1.1 h.1.2]; rfl
theorem flatS_latin (l : List UInt8) (h : digB l = true) : flatS (writtenL (symsOf ⟨#[48]⟩ ⟨#[49]⟩ ⟨#[50]⟩ ⟨#[51]⟩ ⟨#[52]⟩ ⟨#[53]⟩ ⟨#[54]⟩ ⟨#[55]⟩ ⟨#[56]⟩ ⟨#[57]⟩) l) = mkS l := by unfold flatS; rw [flat_latin l h]
theorem part_latin (l : List UInt8) (h : digB l = true) (i j : Nat) : flatS (((writtenL (symsOf ⟨#[48]⟩ ⟨#[49]⟩ ⟨#[50]⟩ ⟨#[51]⟩ ⟨#[52]⟩ ⟨#[53]⟩ ⟨#[54]⟩ ⟨#[55]⟩ ⟨#[56]⟩ ⟨#[57]⟩) l).take i).drop j) = mkS ((l.take i).drop j) := by
  have := flatS_latin ((l.take i).drop j) (digB_sub h j i)
  rw [← this]
  unfold writtenL
  rw [List.map_drop, List.map_take]
theorem part_size (l : List UInt8) (h : digB l = true) (i j : Nat) : (flatS (((writtenL (symsOf ⟨#[48]⟩ ⟨#[49]⟩ ⟨#[50]⟩ ⟨#[51]⟩ ⟨#[52]⟩ ⟨#[53]⟩ ⟨#[54]⟩ ⟨#[55]⟩ ⟨#[56]⟩ ⟨#[57]⟩) l).take i).drop j)).size = (((writtenL (symsOf ⟨#[48]⟩ ⟨#[49]⟩ ⟨#[50]⟩ ⟨#[51]⟩ ⟨#[52]⟩ ⟨#[53]⟩ ⟨#[54]⟩ ⟨#[55]⟩ ⟨#[56]⟩ ⟨#[57]⟩) l).take i).drop j).length := by
  rw [part_latin l h, mkS_size]
  unfold writtenL
  rw [List.length_drop, List.length_take, List.length_drop, List.length_take, List.length_map]
theorem group_size (l : List UInt8) (h : digB l = true) (first further least : Int) (g : List ByteArray) (hg : g ∈ groupedL (writtenL (symsOf ⟨#[48]⟩ ⟨#[49]⟩ ⟨#[50]⟩ ⟨#[51]⟩ ⟨#[52]⟩ ⟨#[53]⟩ ⟨#[54]⟩ ⟨#[55]⟩ ⟨#[56]⟩ ⟨#[57]⟩) l) first further least) : (flatS g).size = g.length := by
  obtain ⟨i, j, rfl⟩ := grouped_mem _ _ _ _ _ hg
  exact part_size l h i j
/-- The sizes of the pieces of whole digits. -/
def szs (P : List S34) : List Int := (P.filter fun x => x.f1 == 2).map fun x => (x.f0.size : Int)
theorem szs_app (l m : List S34) : szs (l ++ m) = szs l ++ szs m := by unfold szs; rw [List.filter_append, List.map_append]
theorem szs_cons (x : S34) (l : List S34) : szs (x :: l) = (if x.f1 = 2 then [(x.f0.size : Int)] else []) ++ szs l := by
  unfold szs
  rw [List.filter_cons]
  by_cases h : x.f1 = 2
  · rw [if_pos (by simp [h]), if_pos h]; rfl
  · rw [if_neg (by simp [h]), if_neg h]; rfl
theorem full_cons (x : S34) (l : List S34) : fullL (x :: l) = (if x.f0.size = 0 then [] else [x]) ++ fullL l := by
  unfold fullL
  rw [List.filter_cons]
  by_cases h : x.f0.size = 0
  · have e : emB x = true := by unfold emB; rw [(nil_size _).2 h]; rfl
    rw [e, if_pos h]; rfl
  · have e : emB x = false := by
      unfold emB
      cases hh : x.f0.toList with
      | nil => exact absurd ((nil_size _).1 hh) h
      | cons _ _ => rfl
    rw [e, if_neg h]; rfl
theorem szs_full_inter (gs : List (List ByteArray)) (h : ∀ g ∈ gs, (flatS g).size = g.length) : szs (fullL (inter ⟨#[44]⟩ gs)) = ((gs.map fun g => (g.length : Int)).filter fun n => n != 0) := by
  have key : ∀ gs : List (List ByteArray), (∀ g ∈ gs, (flatS g).size = g.length) → szs (fullL (gs.flatMap fun h => [(⟨⟨#[44]⟩, 3⟩ : S34), ⟨flatS h, 2⟩])) = ((gs.map fun g => (g.length : Int)).filter fun n => n != 0) := by
    intro gs
    induction gs with
    | nil => intro _; rfl
    | cons x xs ih =>
      intro h
      have hx := h x (by simp)
      have e44 : (⟨#[44]⟩ : ByteArray).size = 1 := rfl
      have e3 : szs [(⟨⟨#[44]⟩, 3⟩ : S34)] = [] := rfl
      rw [List.flatMap_cons, List.cons_append, List.cons_append, List.nil_append, full_cons, full_cons, if_neg (by rw [e44]; omega), szs_app, szs_app, e3, ih (fun g hg => h g (by simp [hg])), List.map_cons, List.filter_cons, hx]
      by_cases h0 : x.length = 0
      · rw [if_pos h0, if_neg (by simp [h0])]; rfl
      · rw [if_neg h0, if_pos (bne_iff_ne.2 (by omega)), szs_cons, if_pos rfl, hx]; rfl
  cases gs with
  | nil => rfl
  | cons x xs =>
    have hx := h x (by simp)
    simp only [inter]
    rw [full_cons, szs_app, key xs (fun g hg => h g (by simp [hg])), List.map_cons, List.filter_cons, hx]
    by_cases h0 : x.length = 0
    · rw [if_pos h0, if_neg (by simp [h0])]; rfl
    · rw [if_neg h0, if_pos (bne_iff_ne.2 (by omega)), szs_cons, if_pos rfl, hx]; rfl
theorem szs_end (D : List ByteArray) (dec : ByteArray) (al : Bool) (b : ByteArray) : szs (fullL (endL D dec al b)) = [] := by
  have h : ∀ x ∈ endL D dec al b, x.f1 ≠ 2 := by
    intro x hx
    unfold endL at hx
    rcases List.mem_append.1 hx with hx | hx
    · split at hx
      · rw [List.mem_singleton.1 hx]; show (4 : Int) ≠ 2; decide
      · simp at hx
    · rw [List.mem_singleton.1 hx]; show (5 : Int) ≠ 2; decide
  unfold szs
  rw [List.filter_eq_nil_iff.2, List.map_nil]
  intro x hx
  have := h x (List.mem_filter.1 hx).1
  simp [this]
/-- The lengths of the groups that are cut off behind. -/
theorem chunk_lens (l : List ByteArray) (f : Nat) (hf : 0 < f) : ∀ (k e : Nat), e ≤ k → e ≤ l.length → ((0 < e → chunksL l f k e ≠ []) ∧ (∀ g ∈ chunksL l f k e, 1 ≤ g.length ∧ g.length ≤ f) ∧ ∀ (i : Nat) (h : i < (chunksL l f k e).length), i + 1 < (chunksL l f k e).length → (chunksL l f k e)[i].length = f)
  | 0, e, hk, _ => ⟨fun h => by omega, fun g hg => by simp [chunksL] at hg, fun i h => by simp [chunksL] at h⟩
  | k + 1, e, hk, hl => by
    by_cases c : e = 0
    · have e0 : chunksL l f (k + 1) e = [] := by simp only [chunksL]; rw [if_pos c]
      rw [e0]
      exact ⟨fun h => by omega, fun g hg => by simp at hg, fun i h => by simp at h⟩
    · have e0 : chunksL l f (k + 1) e = (l.take e).drop (e - f) :: chunksL l f k (e - f) := by simp only [chunksL]; rw [if_neg c]
      obtain ⟨q1, q2, q3⟩ := chunk_lens l f hf k (e - f) (by omega) (by omega)
      have hg : ((l.take e).drop (e - f)).length = e - (e - f) := by rw [List.length_drop, List.length_take]; omega
      refine ⟨fun _ => by rw [e0]; simp, fun g h => ?_, fun i h h2 => ?_⟩
      · rw [e0] at h
        rcases List.mem_cons.1 h with rfl | h
        · omega
        · exact q2 g h
      · simp only [e0] at h h2 ⊢
        cases i with
        | zero =>
          rw [List.getElem_cons_zero, hg]
          have : chunksL l f k (e - f) ≠ [] := by
            intro h3
            rw [h3] at h2; simp at h2
          have : ¬ e ≤ f := by
            intro h3
            apply this
            have : e - f = 0 := by omega
            rw [this]
            cases k <;> simp [chunksL]
          omega
        | succ i =>
          rw [List.getElem_cons_succ]
          exact q3 i (by simp at h; omega) (by simp at h2; omega)
theorem sz_l0 (c : Int) (n : Bool) (a b : ByteArray) (e : Int) (p : Bool) (first further least : Int) (al : Bool) (P : List S34) (hP : P.length ≤ 100000) (r : Bool) : ∀ (d i : Nat) (acc : List Int), P.length - i = d → i ≤ P.length → acc.length ≤ i →
    Ev (fun k => quipulaw16_DigitsSizes.j2 k (acc ++ szs (P.drop i)) ((acc ++ szs (P.drop i)).length : Int) (if further ≤ 0 then first else further) c n a b e p first further least al) r →
    Ev (fun k => quipulaw16_DigitsSizes.l0 k P acc (i : Int) c n a b e p first further least al) r := by
  intro d
  induction d with
  | zero =>
    intro i acc hd hi ha H
    have hs : szs (P.drop i) = [] := by rw [List.drop_of_length_le (by omega)]; rfl
    rw [hs, List.append_nil] at H
    refine Ev.step H 1 (fun k => ?_)
    simp only [quipulaw16_DigitsSizes.l0]
    rw [if_neg (by omega)]
    by_cases h : further ≤ 0
    · rw [if_pos h, if_pos h]
    · rw [if_neg h, if_neg h]
  | succ d ih =>
    intro i acc hd hi ha H
    have hlt : i < P.length := by omega
    have ed : P.drop i = P[i] :: P.drop (i + 1) := List.drop_eq_getElem_cons hlt
    rw [ed, szs_cons] at H
    by_cases h2 : P[i].f1 = 2
    · rw [if_pos h2, ← List.append_assoc] at H
      refine Ev.step (ih (i + 1) (acc ++ [(P[i].f0.size : Int)]) (by omega) (by omega) (by rw [List.length_append]; simp; omega) H) 1 (fun k => ?_)
      simp only [quipulaw16_DigitsSizes.l0]
      rw [if_pos (by omega), if_pos (by omega), crd P i hlt, if_pos h2, if_pos (by omega), wrapS i 10000000 (by omega) (by omega)]
    · rw [if_neg h2, List.nil_append] at H
      refine Ev.step (ih (i + 1) acc (by omega) (by omega) (by omega) H) 1 (fun k => ?_)
      simp only [quipulaw16_DigitsSizes.l0]
      rw [if_pos (by omega), if_pos (by omega), crd P i hlt, if_neg h2, wrapS i 10000000 (by omega) (by omega)]
theorem sz_l1 (S : List Int) (q : Int) (m : Nat) (hm : S.length = m + 1) (hS : m ≤ 100000) (hq : ∀ i (h : i < S.length), 1 ≤ i → i < m → S[i] = q) : ∀ (d i : Nat), m - i = d → 1 ≤ i → Ev (fun k => quipulaw16_DigitsSizes.l1 k S ((m + 1 : Nat) : Int) q (i : Int)) true := by
  have w : wrap64 (((m + 1 : Nat) : Int) - 1) = (m : Int) := by unfold wrap64; omega
  intro d
  induction d with
  | zero =>
    intro i hd hi
    refine Ev.now 1 (fun k => ?_)
    simp only [quipulaw16_DigitsSizes.l1]
    rw [w, if_neg (by omega)]
  | succ d ih =>
    intro i hd hi
    refine Ev.step (ih (i + 1) (by omega) (by omega)) 1 (fun k => ?_)
    simp only [quipulaw16_DigitsSizes.l1]
    rw [w, if_pos (by omega), if_pos (by omega), if_pos (by omega), rdL S i (by omega), if_pos (hq i (by omega) hi (by omega)), wrapS i 10000000 (by omega) (by omega)]
theorem szs_pieces (n : Bool) (a b : ByteArray) (e first further least : Int) (al : Bool) (hm : mayR 0 n a b e = true) (had : digB a.data.toList = true) :
    szs (piecesL (symsOf ⟨#[48]⟩ ⟨#[49]⟩ ⟨#[50]⟩ ⟨#[51]⟩ ⟨#[52]⟩ ⟨#[53]⟩ ⟨#[54]⟩ ⟨#[55]⟩ ⟨#[56]⟩ ⟨#[57]⟩) ⟨#[46]⟩ ⟨#[44]⟩ ⟨#[105, 110, 102]⟩ ⟨#[110, 97, 110]⟩ 0 n a b e first further least al) = (((groupedL (writtenL (symsOf ⟨#[48]⟩ ⟨#[49]⟩ ⟨#[50]⟩ ⟨#[51]⟩ ⟨#[52]⟩ ⟨#[53]⟩ ⟨#[54]⟩ ⟨#[55]⟩ ⟨#[56]⟩ ⟨#[57]⟩) a.data.toList) first further least).map fun g => (g.length : Int)).filter fun n => n != 0) := by
  unfold piecesL
  rw [if_neg (by rw [hm]; simp), if_neg (by decide), if_neg (by decide), full_app, szs_app, szs_end, List.append_nil, szs_full_inter _ (fun g hg => group_size _ had _ _ _ g hg)]
theorem sz_main (n : Bool) (a b : ByteArray) (e : Int) (p : Bool) (first further least : Int) (al : Bool) (ha : a.size ≤ 4096) (had : digB a.data.toList = true) (h1 : inI first = true) :
    Ev (fun k => quipulaw16_DigitsSizes.j2 k (((groupedL (writtenL (symsOf ⟨#[48]⟩ ⟨#[49]⟩ ⟨#[50]⟩ ⟨#[51]⟩ ⟨#[52]⟩ ⟨#[53]⟩ ⟨#[54]⟩ ⟨#[55]⟩ ⟨#[56]⟩ ⟨#[57]⟩) a.data.toList) first further least).map fun g => (g.length : Int)).filter fun n => n != 0) ((((groupedL (writtenL (symsOf ⟨#[48]⟩ ⟨#[49]⟩ ⟨#[50]⟩ ⟨#[51]⟩ ⟨#[52]⟩ ⟨#[53]⟩ ⟨#[54]⟩ ⟨#[55]⟩ ⟨#[56]⟩ ⟨#[57]⟩) a.data.toList) first further least).map fun g => (g.length : Int)).filter fun n => n != 0).length : Int) (if further ≤ 0 then first else further) 0 n a b e p first further least al) true := by
  have h1' := inI_of h1
  have hl : (writtenL (symsOf ⟨#[48]⟩ ⟨#[49]⟩ ⟨#[50]⟩ ⟨#[51]⟩ ⟨#[52]⟩ ⟨#[53]⟩ ⟨#[54]⟩ ⟨#[55]⟩ ⟨#[56]⟩ ⟨#[57]⟩) a.data.toList).length = a.size := by unfold writtenL; rw [List.length_map, slen]
  by_cases cA : first ≤ 0 ∨ (a.size : Int) - first < (if 1 < least then least else 1)
  · have eg : groupedL (writtenL (symsOf ⟨#[48]⟩ ⟨#[49]⟩ ⟨#[50]⟩ ⟨#[51]⟩ ⟨#[52]⟩ ⟨#[53]⟩ ⟨#[54]⟩ ⟨#[55]⟩ ⟨#[56]⟩ ⟨#[57]⟩) a.data.toList) first further least = [writtenL (symsOf ⟨#[48]⟩ ⟨#[49]⟩ ⟨#[50]⟩ ⟨#[51]⟩ ⟨#[52]⟩ ⟨#[53]⟩ ⟨#[54]⟩ ⟨#[55]⟩ ⟨#[56]⟩ ⟨#[57]⟩) a.data.toList] := by
      unfold groupedL
      rw [hl, if_pos cA]
    rw [eg]
    have hlen : ((([writtenL (symsOf ⟨#[48]⟩ ⟨#[49]⟩ ⟨#[50]⟩ ⟨#[51]⟩ ⟨#[52]⟩ ⟨#[53]⟩ ⟨#[54]⟩ ⟨#[55]⟩ ⟨#[56]⟩ ⟨#[57]⟩) a.data.toList] : List (List ByteArray)).map fun g => (g.length : Int)).filter fun n => n != 0).length ≤ 1 := Nat.le_trans (List.length_filter_le _ _) (by simp)
    generalize (([writtenL (symsOf ⟨#[48]⟩ ⟨#[49]⟩ ⟨#[50]⟩ ⟨#[51]⟩ ⟨#[52]⟩ ⟨#[53]⟩ ⟨#[54]⟩ ⟨#[55]⟩ ⟨#[56]⟩ ⟨#[57]⟩) a.data.toList] : List (List ByteArray)).map fun g => (g.length : Int)).filter (fun n => n != 0) = S at hlen ⊢
    refine Ev.now 1 (fun k => ?_)
    simp only [quipulaw16_DigitsSizes.j2]
    rw [if_pos (by omega)]
    by_cases c1 : first ≤ 0
    · rw [if_pos c1]
    · rw [if_neg c1]
      by_cases c2 : (a.size : Int) ≤ first
      · rw [if_pos c2]
      · have w : wrap64 ((a.size : Int) - first) = (a.size : Int) - first := by unfold wrap64; omega
        have c3 := cA.resolve_left c1
        rw [if_neg c2, w]
        by_cases c4 : least > 1
        · rw [if_pos (show 1 < least from c4)] at c3
          rw [if_pos c4, decide_eq_true c3]
        · rw [if_neg (show ¬ 1 < least from c4)] at c3
          omega
  · have hq : (1 : Int) ≤ (if 1 < least then least else 1) ∧ least ≤ (if 1 < least then least else 1) := by split <;> omega
    have hfirst : 0 < first := by omega
    obtain ⟨F, rfl⟩ := Int.eq_ofNat_of_zero_le (show 0 ≤ first from by omega)
    have hFa : F < a.size := by omega
    obtain ⟨f, hf⟩ := Int.eq_ofNat_of_zero_le (show 0 ≤ (if further ≤ 0 then (F : Int) else further) from by split <;> omega)
    have hf0 : 0 < f := by
      have : (0 : Int) < (if further ≤ 0 then (F : Int) else further) := by split <;> omega
      omega
    have eg : groupedL (writtenL (symsOf ⟨#[48]⟩ ⟨#[49]⟩ ⟨#[50]⟩ ⟨#[51]⟩ ⟨#[52]⟩ ⟨#[53]⟩ ⟨#[54]⟩ ⟨#[55]⟩ ⟨#[56]⟩ ⟨#[57]⟩) a.data.toList) (F : Int) further least = (chunksL (writtenL (symsOf ⟨#[48]⟩ ⟨#[49]⟩ ⟨#[50]⟩ ⟨#[51]⟩ ⟨#[52]⟩ ⟨#[53]⟩ ⟨#[54]⟩ ⟨#[55]⟩ ⟨#[56]⟩ ⟨#[57]⟩) a.data.toList) f (a.size - F) (a.size - F)).reverse ++ [(writtenL (symsOf ⟨#[48]⟩ ⟨#[49]⟩ ⟨#[50]⟩ ⟨#[51]⟩ ⟨#[52]⟩ ⟨#[53]⟩ ⟨#[54]⟩ ⟨#[55]⟩ ⟨#[56]⟩ ⟨#[57]⟩) a.data.toList).drop (a.size - F)] := by
      unfold groupedL
      rw [hl, if_neg cA, hf, List.reverse_cons, Int.toNat_natCast, Int.toNat_natCast]
    obtain ⟨k1, k2, k3⟩ := chunk_lens (writtenL (symsOf ⟨#[48]⟩ ⟨#[49]⟩ ⟨#[50]⟩ ⟨#[51]⟩ ⟨#[52]⟩ ⟨#[53]⟩ ⟨#[54]⟩ ⟨#[55]⟩ ⟨#[56]⟩ ⟨#[57]⟩) a.data.toList) f hf0 (a.size - F) (a.size - F) (Nat.le_refl _) (by omega)
    have k1' := k1 (by omega)
    have kl := chunks_len (writtenL (symsOf ⟨#[48]⟩ ⟨#[49]⟩ ⟨#[50]⟩ ⟨#[51]⟩ ⟨#[52]⟩ ⟨#[53]⟩ ⟨#[54]⟩ ⟨#[55]⟩ ⟨#[56]⟩ ⟨#[57]⟩) a.data.toList) f (a.size - F) (a.size - F)
    rw [eg, hf]
    generalize chunksL (writtenL (symsOf ⟨#[48]⟩ ⟨#[49]⟩ ⟨#[50]⟩ ⟨#[51]⟩ ⟨#[52]⟩ ⟨#[53]⟩ ⟨#[54]⟩ ⟨#[55]⟩ ⟨#[56]⟩ ⟨#[57]⟩) a.data.toList) f (a.size - F) (a.size - F) = C at k1' k2 k3 kl ⊢
    have hCl : 0 < C.length := List.length_pos_iff.2 k1'
    have hS : (((C.reverse ++ [(writtenL (symsOf ⟨#[48]⟩ ⟨#[49]⟩ ⟨#[50]⟩ ⟨#[51]⟩ ⟨#[52]⟩ ⟨#[53]⟩ ⟨#[54]⟩ ⟨#[55]⟩ ⟨#[56]⟩ ⟨#[57]⟩) a.data.toList).drop (a.size - F)]).map fun g => (g.length : Int)).filter fun n => n != 0) = (C.map fun g => (g.length : Int)).reverse ++ [(F : Int)] := by
      rw [List.filter_eq_self.2, List.map_append, List.map_reverse]
      · rw [List.map_cons, List.map_nil, List.length_drop, hl]
        congr 2
        congr 1
        omega
      · intro x hx
        obtain ⟨g, hg, rfl⟩ := List.mem_map.1 hx
        have : g.length ≠ 0 := by
          rcases List.mem_append.1 hg with hg | hg
          · have := k2 g (List.mem_reverse.1 hg); omega
          · rw [List.mem_singleton.1 hg, List.length_drop, hl]; omega
        exact bne_iff_ne.2 (by omega)
    rw [hS]
    obtain ⟨S, hSe⟩ : ∃ S : List Int, S = (C.map fun g => (g.length : Int)).reverse ++ [(F : Int)] := ⟨_, rfl⟩
    rw [← hSe]
    have hSl : S.length = C.length + 1 := by rw [hSe]; simp
    have hmid : ∀ i (h : i < S.length), 1 ≤ i → i < C.length → S[i] = (f : Int) := by
      intro i h hi1 hi2
      subst hSe
      rw [List.getElem_append_left (by simp; exact hi2), List.getElem_reverse, List.getElem_map]
      have := k3 (C.length - 1 - i) (by omega) (by omega)
      simp only [List.length_map]
      rw [this]
    have hb0 := k2 (C[C.length - 1]'(by omega)) (List.getElem_mem _)
    have h0 : ∀ (h : 0 < S.length), S[0] = ((C[C.length - 1]'(by omega)).length : Int) := by
      intro h
      subst hSe
      rw [List.getElem_append_left (by simp; exact hCl), List.getElem_reverse, List.getElem_map]
      simp
    have hlast : ∀ (h : C.length < S.length), S[C.length] = (F : Int) := by
      intro h
      subst hSe
      rw [List.getElem_append_right (by simp)]
      simp
    obtain ⟨K, hK⟩ := sz_l1 S (f : Int) C.length hSl (by omega) hmid _ 1 rfl (Nat.le_refl _)
    refine ⟨K + 3, fun k hk => ?_⟩
    obtain ⟨k, rfl⟩ : ∃ q, k = q + 2 := ⟨k - 2, by omega⟩
    have e1 : quipulaw16_DigitsSizes.l1 k S ((C.length + 1 : Nat) : Int) (f : Int) 1 = some true := hK k (by omega)
    have w1 : wrap64 (((C.length + 1 : Nat) : Int) - 1) = (C.length : Int) := by unfold wrap64; omega
    have w2 : wrap64 ((a.size : Int) - (F : Int)) = (a.size : Int) - (F : Int) := by unfold wrap64; omega
    have r0 : rd S 0 = (C[C.length - 1].length : Int) := (rdL S 0 (by omega)).trans (h0 (by omega))
    have hJ : quipulaw16_DigitsSizes.j3 (k + 1) S ((C.length + 1 : Nat) : Int) (f : Int) false = some true := by
      simp only [quipulaw16_DigitsSizes.j3]
      rw [if_neg (by simp), e1]
    rw [hSl]
    show quipulaw16_DigitsSizes.j2 (k + 2) S ((C.length + 1 : Nat) : Int) (f : Int) 0 n a b e p (F : Int) further least al = some true
    simp only [quipulaw16_DigitsSizes.j2]
    rw [if_neg (by omega), w1, if_pos (by omega), if_pos (by omega), rdL S C.length (by omega), hlast (by omega), if_pos rfl, if_pos (by omega), r0, if_neg (by omega), if_neg (by omega), w2, decide_eq_false (by omega), hJ]
theorem lawSizes (c : Int) (n : Bool) (a b : ByteArray) (e : Int) (p : Bool) (first further least : Int) (al : Bool) (ha : a.size ≤ 140737488355328) (hb : b.size ≤ 140737488355328) (he : -9223372036854775808 ≤ e ∧ e ≤ 9223372036854775807) (h1 : inI first = true) (h2 : inI further = true) (h3 : inI least = true) :
    Ev (fun k => quipulaw16_DigitsSizes.f k c n a b e p first further least al) true := by
  obtain ⟨K, hK⟩ := May_p c n a b e p ha hb
  have hP := pieces_f c n a b e p (⟨#[48]⟩ : ByteArray) (⟨#[49]⟩ : ByteArray) (⟨#[50]⟩ : ByteArray) (⟨#[51]⟩ : ByteArray) (⟨#[52]⟩ : ByteArray) (⟨#[53]⟩ : ByteArray) (⟨#[54]⟩ : ByteArray) (⟨#[55]⟩ : ByteArray) (⟨#[56]⟩ : ByteArray) (⟨#[57]⟩ : ByteArray) (⟨#[46]⟩ : ByteArray) (⟨#[44]⟩ : ByteArray) (⟨#[45]⟩ : ByteArray) (⟨#[43]⟩ : ByteArray) (⟨#[]⟩ : ByteArray) (⟨#[]⟩ : ByteArray) (⟨#[69]⟩ : ByteArray) (⟨#[105, 110, 102]⟩ : ByteArray) (⟨#[110, 97, 110]⟩ : ByteArray) (⟨#[]⟩ : ByteArray) (⟨#[]⟩ : ByteArray) first further least al latin_small ha hb he h1 h2 h3
  have hlen := pieces_len (symsOf ⟨#[48]⟩ ⟨#[49]⟩ ⟨#[50]⟩ ⟨#[51]⟩ ⟨#[52]⟩ ⟨#[53]⟩ ⟨#[54]⟩ ⟨#[55]⟩ ⟨#[56]⟩ ⟨#[57]⟩) ⟨#[46]⟩ ⟨#[44]⟩ ⟨#[105, 110, 102]⟩ ⟨#[110, 97, 110]⟩ c n a b e first further least al
  have hend : ∀ (k : Nat) (P : List S34), quipulaw16_DigitsSizes.j0 (k + 1) P true c n a b e p first further least al = some true := by
    intro k P
    simp only [quipulaw16_DigitsSizes.j0]
    rfl
  by_cases hm : mayR c n a b e = true ∧ c = 0
  · obtain ⟨hm, rfl⟩ := hm
    obtain ⟨z1, z2, _, _, z5, z6, _⟩ := may_size hm
    have hz := szs_pieces n a b e first further least al hm z5
    generalize piecesL (symsOf ⟨#[48]⟩ ⟨#[49]⟩ ⟨#[50]⟩ ⟨#[51]⟩ ⟨#[52]⟩ ⟨#[53]⟩ ⟨#[54]⟩ ⟨#[55]⟩ ⟨#[56]⟩ ⟨#[57]⟩) ⟨#[46]⟩ ⟨#[44]⟩ ⟨#[105, 110, 102]⟩ ⟨#[110, 97, 110]⟩ 0 n a b e first further least al = P at hP hlen hz
    obtain ⟨K2, hK2⟩ := sz_l0 0 n a b e p first further least al P (by omega) true _ 0 [] rfl (Nat.zero_le _) (Nat.le_refl _) (by
      rw [List.nil_append, List.drop_zero, hz]
      exact sz_main n a b e p first further least al z1 z5 h1)
    refine ⟨K + K2 + 2, fun k hk => ?_⟩
    obtain ⟨k, rfl⟩ : ∃ q, k = q + 1 := ⟨k - 1, by omega⟩
    have e1 : quipulaw16_DigitsSizes.l0 k P [] 0 0 n a b e p first further least al = some true := hK2 k (by omega)
    show quipulaw16_DigitsSizes.f (k + 1) 0 n a b e p first further least al = some true
    simp only [quipulaw16_DigitsSizes.f, quipulaw16_latin.f, Option.bind_some]
    rw [hP, Option.bind_some, awake_p, Option.bind_some, if_pos rfl, hK (k + 1) (by omega), Option.bind_some, hm, if_pos rfl]
    simp only [quipulaw16_DigitsSizes.j0]
    rw [if_neg (by decide), e1]
  · refine ⟨K + 2, fun k hk => ?_⟩
    obtain ⟨k, rfl⟩ : ∃ q, k = q + 1 := ⟨k - 1, by omega⟩
    show quipulaw16_DigitsSizes.f (k + 1) c n a b e p first further least al = some true
    simp only [quipulaw16_DigitsSizes.f, quipulaw16_latin.f, Option.bind_some]
    rw [hP, Option.bind_some, awake_p, Option.bind_some, if_pos rfl, hK (k + 1) (by omega), Option.bind_some]
    by_cases h4 : mayR c n a b e = true
    · have hc : c ≠ 0 := fun h => hm ⟨h4, h⟩
      rw [if_pos h4, bne_iff_ne.2 hc, hend]
    · rw [if_neg h4, hend]
end Go.Proofs.YtefejkhcbelahaaDoor.Q
