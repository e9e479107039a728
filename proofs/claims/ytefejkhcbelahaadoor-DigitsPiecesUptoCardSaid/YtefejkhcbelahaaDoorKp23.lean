import Derived.Test.YtefejkhcbelahaaDoorKp7
import Derived.Test.YtefejkhcbelahaaDoorKp16
import Derived.Test.YtefejkhcbelahaaDoorKp18
import Derived.Test.YtefejkhcbelahaaDoorKp21
import Derived.Test.YtefejkhcbelahaaDoorKp22
namespace Go.Proofs.YtefejkhcbelahaaDoor.Q
open Go.RowKit Go.Proofs.YtefejkhcbelahaaDoorW.PrintWords Go.Proofs.YtefejkhcbelahaaDoorW.PrintLast Go.Proofs.YtefejkhcbelahaaDoorW.PrintMore
set_option linter.unusedVariables false
set_option linter.unusedSimpArgs false
def flatS (g : List ByteArray) : ByteArray := mkS (g.flatMap (·.data.toList))
def inter (G : ByteArray) : List (List ByteArray) → List S34
  | [] => []
  | g :: gs => ⟨flatS g, 2⟩ :: gs.flatMap fun h => [(⟨G, 3⟩ : S34), ⟨flatS h, 2⟩]
def inter2 (G : ByteArray) (gs : List (List ByteArray)) : List S34 := gs.flatMap fun h => [(⟨flatS h, 2⟩ : S34), ⟨G, 3⟩]
theorem inter_last (G : ByteArray) (gs : List (List ByteArray)) (g : List ByteArray) : inter G (gs ++ [g]) = inter2 G gs ++ [(⟨flatS g, 2⟩ : S34)] := by
  have key : ∀ (gs : List (List ByteArray)) (h : List ByteArray), (⟨flatS h, 2⟩ : S34) :: (gs ++ [g]).flatMap (fun h => [(⟨G, 3⟩ : S34), ⟨flatS h, 2⟩]) = inter2 G (h :: gs) ++ [(⟨flatS g, 2⟩ : S34)] := by
    intro gs
    induction gs with
    | nil => intro h; rfl
    | cons x xs ih =>
      intro h
      have h2 := ih x
      simp only [inter2, List.flatMap_cons, List.cons_append, List.nil_append] at h2 ⊢
      rw [h2]
  cases gs with
  | nil => rfl
  | cons h gs => exact key gs h
theorem inter_snoc (G : ByteArray) (gs : List (List ByteArray)) (g : List ByteArray) : inter G (gs ++ [g]) = inter G gs ++ ((if gs = [] then [] else [(⟨G, 3⟩ : S34)]) ++ [(⟨flatS g, 2⟩ : S34)]) := by
  cases gs with
  | nil => rfl
  | cons h gs => rw [if_neg (by simp)]; simp [inter]
theorem inter_len (G : ByteArray) (gs : List (List ByteArray)) : (inter G gs).length ≤ 2 * gs.length := by
  cases gs with
  | nil => exact Nat.zero_le _
  | cons h gs =>
    have : (gs.flatMap fun h => [(⟨G, 3⟩ : S34), ⟨flatS h, 2⟩]).length = 2 * gs.length := by
      induction gs with
      | nil => rfl
      | cons x xs ih => rw [List.flatMap_cons, List.length_append, ih]; simp; omega
    simp only [inter, List.length_cons, this]; omega
theorem inter2_len (G : ByteArray) (gs : List (List ByteArray)) : (inter2 G gs).length = 2 * gs.length := by
  unfold inter2
  induction gs with
  | nil => rfl
  | cons x xs ih => rw [List.flatMap_cons, List.length_append, ih]; simp; omega
theorem full_app (l m : List S34) : fullL (l ++ m) = fullL l ++ fullL m := List.filter_append ..
theorem full_le (l : List S34) : (fullL l).length ≤ l.length := List.length_filter_le _ _
/-- The pieces behind the whole digits. -/
def endL (D : List ByteArray) (dec : ByteArray) (al : Bool) (b : ByteArray) : List S34 :=
  (if (al || !(b.size == 0)) = true then [(⟨dec, 4⟩ : S34)] else []) ++ [(⟨flatS (writtenL D b.data.toList), 5⟩ : S34)]
def piecesL (D : List ByteArray) (dec G inf nan : ByteArray) (c : Int) (n : Bool) (a b : ByteArray) (e first further least : Int) (al : Bool) : List S34 :=
  if mayR c n a b e = false then []
  else if c = 1 then fullL [(⟨inf, 2⟩ : S34)]
  else if c = 2 then fullL [(⟨nan, 2⟩ : S34)]
  else fullL (inter G (groupedL (writtenL D a.data.toList) first further least) ++ endL D dec al b)
theorem may_c {c : Int} {n : Bool} {a b : ByteArray} {e : Int} (h : mayR c n a b e = true) : c = 0 ∨ c = 1 ∨ c = 2 := by
  unfold mayR at h
  by_cases h0 : c = 0
  · exact Or.inl h0
  · rw [if_neg h0] at h
    simp only [Bool.and_eq_true, Bool.or_eq_true, beq_iff_eq] at h
    omega
theorem join_nil (l : List ByteArray) : joinL l ⟨#[]⟩ = l.flatMap (·.data.toList) := by
  unfold joinL Lib.join
  show ([] : List UInt8).intercalate _ = _
  rw [List.flatMap_def]
  generalize l.map (·.data.toList) = m
  induction m with
  | nil => rfl
  | cons x xs ih =>
    cases xs with
    | nil => simp [List.intercalate]
    | cons y ys => simp [List.intercalate, List.intersperse] at ih ⊢; exact ih
/-- All symbols are at most a mebibyte. -/
def Small (D : List ByteArray) : Prop := ∀ x ∈ D, x.size ≤ 1048576
theorem sym_small {D : List ByteArray} (h : Small D) (u : UInt8) : (sym D u).size ≤ 1048576 := by
  unfold sym
  rw [List.getD_eq_getElem?_getD]
  cases hx : D[u.toNat - 48]? with
  | none => exact Nat.zero_le _
  | some x => exact h x (List.mem_of_getElem? hx)
theorem written_small {D : List ByteArray} (h : Small D) (l : List UInt8) : Small (writtenL D l) := by
  intro x hx
  unfold writtenL at hx
  obtain ⟨u, _, rfl⟩ := List.mem_map.1 hx
  exact sym_small h u
theorem flat_le {L : List ByteArray} (h : Small L) : (L.flatMap (·.data.toList)).length ≤ L.length * 1048576 := by
  induction L with
  | nil => exact Nat.zero_le _
  | cons x xs ih =>
    rw [List.flatMap_cons, List.length_append, slen, List.length_cons]
    have h1 := h x (by simp)
    have h2 := ih (fun y hy => h y (by simp [hy]))
    omega
theorem join_flat {L : List ByteArray} (h : Small L) (hl : L.length ≤ 100000) : strings_Join.f L ⟨#[]⟩ = some (flatS L) := by
  have := flat_le h
  unfold strings_Join.f
  rw [join_nil, if_pos (by omega), if_pos (by omega)]
  rfl
theorem rdL1 (Gs : List (List ByteArray)) (i : Nat) (h : i < Gs.length) : rd_L1 Gs (i : Int) = Gs[i] := by
  unfold rd_L1
  rw [Int.toNat_natCast, List.getD_eq_getElem?_getD, List.getElem?_eq_getElem h]; rfl
theorem take_app (Gs : List (List ByteArray)) (i : Nat) (h : i < Gs.length) : Gs.take (i + 1) = Gs.take i ++ [Gs[i]] := by
  rw [List.take_add_one, List.getElem?_eq_getElem h]; rfl
set_option maxRecDepth 20000 in
theorem code_l0 (c : Int) (n : Bool) (a b : ByteArray) (e : Int) (p : Bool) (s0 s1 s2 s3 s4 s5 s6 s7 s8 s9 s10 s11 s12 s13 s14 s15 s16 s17 s18 s19 s20 : ByteArray) (Gs : List (List ByteArray)) (al : Bool) (hD : Small (symsOf s0 s1 s2 s3 s4 s5 s6 s7 s8 s9)) (hb : b.size ≤ 4096) (hbd : digB b.data.toList = true) (hG : Gs.length ≤ 5000) (hg : ∀ g ∈ Gs, Small g ∧ g.length ≤ 5000) : ∀ (d i k : Nat), Gs.length - i = d → i ≤ Gs.length → d + 2 ≤ k →
    digits_PiecesK.l0 k al (inter s11 (Gs.take i)) Gs (Gs.length : Int) (i : Int) c n a b e p s0 s1 s2 s3 s4 s5 s6 s7 s8 s9 s10 s11 s12 s13 s14 s15 s16 s17 s18 s19 s20 = some (fullL (inter s11 Gs ++ endL (symsOf s0 s1 s2 s3 s4 s5 s6 s7 s8 s9) s10 al b)) := by
  intro d
  induction d with
  | zero =>
    intro i k hd hi hk
    obtain ⟨k, rfl⟩ : ∃ m, k = m + 2 := ⟨k - 2, by omega⟩
    have hi2 : i = Gs.length := by omega
    subst hi2
    have hlen := inter_len s11 Gs
    have hw : digits_written.f b s0 s1 s2 s3 s4 s5 s6 s7 s8 s9 s10 s11 s12 s13 s14 s15 s16 s17 s18 s19 s20 = some (writtenL (symsOf s0 s1 s2 s3 s4 s5 s6 s7 s8 s9) b.data.toList) := by
      unfold digits_written.f
      rw [if_pos hbd, if_pos (by omega)]
    have hj : strings_Join.f (writtenL (symsOf s0 s1 s2 s3 s4 s5 s6 s7 s8 s9) b.data.toList) ⟨#[]⟩ = some (flatS (writtenL (symsOf s0 s1 s2 s3 s4 s5 s6 s7 s8 s9) b.data.toList)) :=
      join_flat (written_small hD _) (by unfold writtenL; rw [List.length_map, slen]; omega)
    have hJ1 : digits_PiecesK.j1 (k + 1) (inter s11 Gs) true c n a b e p s0 s1 s2 s3 s4 s5 s6 s7 s8 s9 s10 s11 s12 s13 s14 s15 s16 s17 s18 s19 s20 = some (fullL (inter s11 Gs ++ [(⟨s10, 4⟩ : S34)] ++ [(⟨flatS (writtenL (symsOf s0 s1 s2 s3 s4 s5 s6 s7 s8 s9) b.data.toList), 5⟩ : S34)])) := by
      simp only [digits_PiecesK.j1]
      rw [if_pos trivial, if_pos (by omega)]
      simp only [Option.bind_some]
      rw [hw]
      simp only [Option.bind_some]
      rw [hj]
      simp only [Option.bind_some]
      rw [if_pos (by rw [List.length_append]; simp; omega)]
      rfl
    have hJ0 : digits_PiecesK.j1 (k + 1) (inter s11 Gs) false c n a b e p s0 s1 s2 s3 s4 s5 s6 s7 s8 s9 s10 s11 s12 s13 s14 s15 s16 s17 s18 s19 s20 = some (fullL (inter s11 Gs ++ [(⟨flatS (writtenL (symsOf s0 s1 s2 s3 s4 s5 s6 s7 s8 s9) b.data.toList), 5⟩ : S34)])) := by
      simp only [digits_PiecesK.j1]
      rw [if_neg (by simp), hw]
      simp only [Option.bind_some]
      rw [hj]
      simp only [Option.bind_some]
      rw [if_pos (by omega)]
      rfl
    rw [List.take_length]
    simp only [digits_PiecesK.l0]
    rw [if_neg (by omega)]
    unfold endL
    by_cases h0 : b.size = 0
    · rw [if_pos ((nil_size _).2 h0), h0]
      cases al with
      | true => rw [hJ1]; simp
      | false => rw [hJ0]; simp
    · rw [if_neg (fun h => h0 ((nil_size _).1 h)), hJ1, beq_eq_false_iff_ne.2 h0]; simp
  | succ d ih =>
    intro i k hd hi hk
    obtain ⟨k, rfl⟩ : ∃ m, k = m + 1 := ⟨k - 1, by omega⟩
    have hlt : i < Gs.length := by omega
    have hlen := inter_len s11 (Gs.take i)
    rw [List.length_take] at hlen
    have hgi := hg Gs[i] (List.getElem_mem hlt)
    have hn := ih (i + 1) k (by omega) (by omega) (by omega)
    have hs := inter_snoc s11 (Gs.take i) Gs[i]
    rw [← take_app Gs i hlt] at hs
    simp only [digits_PiecesK.l0]
    rw [if_pos (by omega), if_pos (by omega), if_pos (by omega), rdL1 Gs i hlt, join_flat hgi.1 (by omega), wrapS i 10000 (by omega) (by omega)]
    by_cases h0 : i = 0
    · subst h0
      rw [if_neg (by omega)]
      simp only [Option.bind_some]
      rw [if_pos (by omega)]
      rw [if_pos (by rfl), List.nil_append] at hs
      rw [← hs]
      exact hn
    · rw [if_pos (by omega), if_pos (by omega)]
      simp only [Option.bind_some]
      rw [if_pos (by rw [List.length_append]; simp; omega)]
      rw [if_neg (by intro h; rcases List.take_eq_nil_iff.1 h with h | h; · omega
                     · rw [h] at hlt; simp at hlt)] at hs
      rw [List.append_assoc, ← hs]
      exact hn
end Go.Proofs.YtefejkhcbelahaaDoor.Q

namespace Go.Proofs.YtefejkhcbelahaaDoor.Q
open Go.RowKit Go.Proofs.YtefejkhcbelahaaDoorW.PrintWords Go.Proofs.YtefejkhcbelahaaDoorW.PrintLast Go.Proofs.YtefejkhcbelahaaDoorW.PrintMore
set_option linter.unusedVariables false
set_option linter.unusedSimpArgs false
theorem chunks_len (l : List ByteArray) (f : Nat) : ∀ (k e : Nat), (chunksL l f k e).length ≤ k
  | 0, _ => Nat.zero_le _
  | k + 1, e => by
    simp only [chunksL]
    by_cases c : e = 0
    · rw [if_pos c]; exact Nat.zero_le _
    · rw [if_neg c, List.length_cons]; have := chunks_len l f k (e - f); omega
theorem chunks_mem (l : List ByteArray) (f : Nat) : ∀ (k e : Nat) (g : List ByteArray), g ∈ chunksL l f k e → ∃ i j, g = (l.take i).drop j
  | 0, _, g, h => by simp [chunksL] at h
  | k + 1, e, g, h => by
    simp only [chunksL] at h
    by_cases c : e = 0
    · rw [if_pos c] at h; simp at h
    · rw [if_neg c] at h
      rcases List.mem_cons.1 h with rfl | h
      · exact ⟨_, _, rfl⟩
      · exact chunks_mem l f k (e - f) g h
theorem grouped_mem (l : List ByteArray) (first further least : Int) (g : List ByteArray) (h : g ∈ groupedL l first further least) : ∃ i j, g = (l.take i).drop j := by
  unfold groupedL at h
  by_cases c : first ≤ 0 ∨ (l.length : Int) - first < (if 1 < least then least else 1)
  · rw [if_pos c] at h
    rw [List.mem_singleton.1 h]
    exact ⟨l.length, 0, by rw [List.take_length]; rfl⟩
  · rw [if_neg c, List.mem_reverse] at h
    rcases List.mem_cons.1 h with rfl | h
    · exact ⟨l.length, _, by rw [List.take_length]⟩
    · exact chunks_mem _ _ _ _ _ h
theorem grouped_len (l : List ByteArray) (first further least : Int) : (groupedL l first further least).length ≤ l.length + 1 := by
  unfold groupedL
  by_cases c : first ≤ 0 ∨ (l.length : Int) - first < (if 1 < least then least else 1)
  · rw [if_pos c]; simp
  · rw [if_neg c, List.length_reverse, List.length_cons]
    have := chunks_len l (if further ≤ 0 then first else further).toNat (l.length - first.toNat) (l.length - first.toNat)
    omega
theorem small_sub {l : List ByteArray} (h : Small l) (i j : Nat) : Small ((l.take i).drop j) := fun x hx => h x (List.mem_of_mem_take (List.mem_of_mem_drop hx))
set_option maxRecDepth 20000 in
theorem code_fK (c : Int) (n : Bool) (a b : ByteArray) (e : Int) (p : Bool) (s0 s1 s2 s3 s4 s5 s6 s7 s8 s9 s10 s11 s12 s13 s14 s15 s16 s17 s18 s19 s20 : ByteArray) (first further least : Int) (al : Bool) (k : Nat) (hk : 5003 ≤ k) (hD : Small (symsOf s0 s1 s2 s3 s4 s5 s6 s7 s8 s9)) (ha : a.size ≤ 140737488355328) (hb : b.size ≤ 140737488355328) (he : -9223372036854775808 ≤ e ∧ e ≤ 9223372036854775807) (h1 : inI first = true) (h2 : inI further = true) (h3 : inI least = true) :
    digits_PiecesK.f k c n a b e p s0 s1 s2 s3 s4 s5 s6 s7 s8 s9 s10 s11 s12 s13 s14 s15 s16 s17 s18 s19 s20 first further least al = some (piecesL (symsOf s0 s1 s2 s3 s4 s5 s6 s7 s8 s9) s10 s11 s17 s18 c n a b e first further least al) := by
  unfold digits_PiecesK.f piecesL
  rw [Value_p c n a b e p ha hb he k (by omega)]
  simp only [Option.bind_some]
  by_cases hm : mayR c n a b e = false
  · rw [if_pos ((valP_71 _ _ _ _ _).2 hm), if_pos hm]
  · rw [if_neg (fun h => hm ((valP_71 _ _ _ _ _).1 h)), if_neg hm]
    have hm' : mayR c n a b e = true := by simpa using hm
    by_cases c1 : c = 1
    · rw [if_pos c1, if_pos c1]; rfl
    · rw [if_neg c1, if_neg c1]
      by_cases c2 : c = 2
      · rw [if_pos c2, if_pos c2]; rfl
      · rw [if_neg c2, if_neg c2]
        obtain rfl : c = 0 := by have := may_c hm'; omega
        obtain ⟨z1, z2, _, _, z5, z6, _⟩ := may_size hm'
        have hl : (writtenL (symsOf s0 s1 s2 s3 s4 s5 s6 s7 s8 s9) a.data.toList).length = a.size := by unfold writtenL; rw [List.length_map, slen]
        have hw : digits_written.f a s0 s1 s2 s3 s4 s5 s6 s7 s8 s9 s10 s11 s12 s13 s14 s15 s16 s17 s18 s19 s20 = some (writtenL (symsOf s0 s1 s2 s3 s4 s5 s6 s7 s8 s9) a.data.toList) := by
          unfold digits_written.f
          rw [if_pos z5, if_pos (by omega)]
        have hgr : digits_grouped.f (writtenL (symsOf s0 s1 s2 s3 s4 s5 s6 s7 s8 s9) a.data.toList) first further least = some (groupedL (writtenL (symsOf s0 s1 s2 s3 s4 s5 s6 s7 s8 s9) a.data.toList) first further least) := by
          unfold digits_grouped.f
          rw [if_pos (by omega), if_pos (by rw [h1, h2, h3]; rfl)]
        rw [hw]
        simp only [Option.bind_some]
        rw [hgr]
        simp only [Option.bind_some]
        have hlen := grouped_len (writtenL (symsOf s0 s1 s2 s3 s4 s5 s6 s7 s8 s9) a.data.toList) first further least
        have := code_l0 0 n a b e p s0 s1 s2 s3 s4 s5 s6 s7 s8 s9 s10 s11 s12 s13 s14 s15 s16 s17 s18 s19 s20 (groupedL (writtenL (symsOf s0 s1 s2 s3 s4 s5 s6 s7 s8 s9) a.data.toList) first further least) al hD z2 z6 (by omega) (fun g hg => by
          obtain ⟨i, j, rfl⟩ := grouped_mem _ _ _ _ _ hg
          refine ⟨small_sub (written_small hD _) i j, ?_⟩
          rw [List.length_drop, List.length_take]; omega) _ 0 k rfl (Nat.zero_le _) (by omega)
        rw [List.take_zero, show ((0 : Nat) : Int) = 0 from rfl] at this
        exact this
theorem code_f (c : Int) (n : Bool) (a b : ByteArray) (e : Int) (p : Bool) (s0 s1 s2 s3 s4 s5 s6 s7 s8 s9 s10 s11 s12 s13 s14 s15 s16 s17 s18 s19 s20 : ByteArray) (first further least : Int) (al : Bool) (hD : Small (symsOf s0 s1 s2 s3 s4 s5 s6 s7 s8 s9)) (ha : a.size ≤ 140737488355328) (hb : b.size ≤ 140737488355328) (he : -9223372036854775808 ≤ e ∧ e ≤ 9223372036854775807) (h1 : inI first = true) (h2 : inI further = true) (h3 : inI least = true) :
    digits_Pieces.f c n a b e p s0 s1 s2 s3 s4 s5 s6 s7 s8 s9 s10 s11 s12 s13 s14 s15 s16 s17 s18 s19 s20 first further least al = some (piecesL (symsOf s0 s1 s2 s3 s4 s5 s6 s7 s8 s9) s10 s11 s17 s18 c n a b e first further least al) := by
  have hk : 5003 ≤ 10000 := by omega
  unfold digits_Pieces.f
  generalize 10000 = k at *
  exact code_fK c n a b e p s0 s1 s2 s3 s4 s5 s6 s7 s8 s9 s10 s11 s12 s13 s14 s15 s16 s17 s18 s19 s20 first further least al k hk hD ha hb he h1 h2 h3
end Go.Proofs.YtefejkhcbelahaaDoor.Q

namespace Go.Proofs.YtefejkhcbelahaaDoor.Q
open Go.RowKit Go.Proofs.YtefejkhcbelahaaDoorW.PrintWords Go.Proofs.YtefejkhcbelahaaDoorW.PrintLast Go.Proofs.YtefejkhcbelahaaDoorW.PrintMore
set_option linter.unusedVariables false
set_option linter.unusedSimpArgs false
theorem add_p (l : List S34) (t : ByteArray) (f : Int) (h : l.length ≤ 1000000) : quipuref16_add.f l t f = some (l ++ fullL [(⟨t, f⟩ : S34)]) := by
  unfold quipuref16_add.f
  by_cases h0 : t.toList = []
  · rw [if_pos h0]; simp [fullL, emB, h0]
  · rw [if_neg h0, if_pos (by omega)]; simp [fullL, emB, h0]
theorem mx_of (a b : Int) : mx a b = if a < b then b else a := by unfold mx; split <;> (try split) <;> omega
/-- Does a separator stand ahead of the last kk of n digits? -/
def befB (kk n first further least : Int) : Bool :=
  if first ≤ 0 ∨ kk < first ∨ n ≤ kk ∨ n - first < (if 1 < least then least else 1) then false
  else Int.tmod (kk - first) (if further ≤ 0 then first else further) == 0
theorem Before_p (kk n first further least : Int) (hk : 0 ≤ kk ∧ kk ≤ 5000) (hn : 0 ≤ n ∧ n ≤ 5000) (h1 : inI first = true) (k : Nat) : quipuref16_Before.f (k + 1) kk n first further least = some (befB kk n first further least) := by
  have h1' := inI_of h1
  have hj : quipuref16_Before.j0 (k + 1) kk first further true = some false := by simp only [quipuref16_Before.j0]; rfl
  unfold quipuref16_Before.f befB
  by_cases c1 : first ≤ 0
  · rw [if_pos c1, if_pos (Or.inl c1), hj]
  · rw [if_neg c1]
    by_cases c2 : kk < first
    · rw [if_pos c2, if_pos (Or.inr (Or.inl c2)), hj]
    · rw [if_neg c2]
      by_cases c3 : kk ≥ n
      · rw [if_pos c3, if_pos (Or.inr (Or.inr (Or.inl c3))), hj]
      · have w1 : wrap64 (n - first) = n - first := by unfold wrap64; omega
        have w2 : wrap64 (kk - first) = kk - first := by unfold wrap64; omega
        rw [if_neg c3, w1, mx_of]
        generalize (if 1 < least then least else 1) = q
        by_cases c4 : n - first < q
        · rw [if_pos (Or.inr (Or.inr (Or.inr c4))), decide_eq_true c4, hj]
        · rw [if_neg (by omega), decide_eq_false c4]
          simp only [quipuref16_Before.j0]
          rw [if_neg (by simp), w2]
          by_cases c5 : further ≤ 0
          · rw [if_pos c5, if_pos c5, if_neg (by omega)]
          · rw [if_neg c5, if_neg c5, if_neg (by omega)]
/-- The digits from i to j, as_ they are written. -/
def wS (D : List ByteArray) (a : ByteArray) (i j : Nat) : ByteArray := flatS (writtenL D ((a.data.toList.take j).drop i))
theorem digB_sub {l : List UInt8} (h : digB l = true) (i j : Nat) : digB ((l.take j).drop i) = true := by
  unfold digB at *
  rw [List.all_eq_true] at *
  exact fun x hx => h x (List.mem_of_mem_take (List.mem_of_mem_drop hx))
theorem Write_all (c : Int) (n : Bool) (a b : ByteArray) (e : Int) (p : Bool) (s0 s1 s2 s3 s4 s5 s6 s7 s8 s9 s10 s11 s12 s13 s14 s15 s16 s17 s18 s19 s20 : ByteArray) (hD : Small (symsOf s0 s1 s2 s3 s4 s5 s6 s7 s8 s9)) (ha : a.size ≤ 5000) (had : digB a.data.toList = true) : quipuref16_Write.f a s0 s1 s2 s3 s4 s5 s6 s7 s8 s9 s10 s11 s12 s13 s14 s15 s16 s17 s18 s19 s20 = some (flatS (writtenL (symsOf s0 s1 s2 s3 s4 s5 s6 s7 s8 s9) a.data.toList)) := by
  unfold quipuref16_Write.f
  have h := flat_le (written_small hD a.data.toList)
  have hl : (writtenL (symsOf s0 s1 s2 s3 s4 s5 s6 s7 s8 s9) a.data.toList).length = a.size := by unfold writtenL; rw [List.length_map, slen]
  rw [if_pos had, if_pos (by omega), if_pos (by omega)]
  rfl
theorem extract_ij (s : ByteArray) (i j : Nat) : (s.extract i j).data.toList = (s.data.toList.take j).drop i := by
  rw [ByteArray.data_extract, Array.toList_extract, List.extract_eq_take_drop, List.drop_take]
theorem Write_p (c : Int) (n : Bool) (a b : ByteArray) (e : Int) (p : Bool) (s0 s1 s2 s3 s4 s5 s6 s7 s8 s9 s10 s11 s12 s13 s14 s15 s16 s17 s18 s19 s20 : ByteArray) (hD : Small (symsOf s0 s1 s2 s3 s4 s5 s6 s7 s8 s9)) (ha : a.size ≤ 5000) (had : digB a.data.toList = true) (i j : Nat) : quipuref16_Write.f (a.extract i j) s0 s1 s2 s3 s4 s5 s6 s7 s8 s9 s10 s11 s12 s13 s14 s15 s16 s17 s18 s19 s20 = some (wS (symsOf s0 s1 s2 s3 s4 s5 s6 s7 s8 s9) a i j) := by
  have h := Write_all c n (a.extract i j) b e p s0 s1 s2 s3 s4 s5 s6 s7 s8 s9 s10 s11 s12 s13 s14 s15 s16 s17 s18 s19 s20 hD (by rw [ByteArray.size_extract]; omega) (by rw [extract_ij]; exact digB_sub had i j)
  rw [h, extract_ij]; rfl
set_option maxRecDepth 20000 in
theorem ref_skip (c : Int) (n : Bool) (a b : ByteArray) (e : Int) (p : Bool) (s0 s1 s2 s3 s4 s5 s6 s7 s8 s9 s10 s11 s12 s13 s14 s15 s16 s17 s18 s19 s20 : ByteArray) (first further least : Int) (al : Bool) (acc : List S34) (fr i : Nat) (r : List S34) (ha : a.size ≤ 4096) (h1 : inI first = true) (hi : i < a.size) (hb : befB ((a.size - i : Nat) : Int) (a.size : Int) first further least = false)
    (H : Ev (fun k => quipuref16_Pieces.l0 k first further least al acc (a.size : Int) (fr : Int) ((i + 1 : Nat) : Int) c n a b e p s0 s1 s2 s3 s4 s5 s6 s7 s8 s9 s10 s11 s12 s13 s14 s15 s16 s17 s18 s19 s20) r) : Ev (fun k => quipuref16_Pieces.l0 k first further least al acc (a.size : Int) (fr : Int) (i : Int) c n a b e p s0 s1 s2 s3 s4 s5 s6 s7 s8 s9 s10 s11 s12 s13 s14 s15 s16 s17 s18 s19 s20) r := by
  refine Ev.step H 2 (fun k => ?_)
  have w : wrap64 ((a.size : Int) - (i : Int)) = ((a.size - i : Nat) : Int) := by unfold wrap64; omega
  simp only [quipuref16_Pieces.l0, quipuref16_Pieces.j1]
  rw [if_pos (by omega), if_neg (by omega), w, Before_p _ _ first further least (by omega) (by omega) h1 k, hb]
  simp only [Option.bind_some]
  rw [if_neg (by simp), wrapS i 10000 (by omega) (by omega)]
set_option maxRecDepth 20000 in
theorem ref_cut (c : Int) (n : Bool) (a b : ByteArray) (e : Int) (p : Bool) (s0 s1 s2 s3 s4 s5 s6 s7 s8 s9 s10 s11 s12 s13 s14 s15 s16 s17 s18 s19 s20 : ByteArray) (first further least : Int) (al : Bool) (acc : List S34) (fr i : Nat) (r : List S34) (hD : Small (symsOf s0 s1 s2 s3 s4 s5 s6 s7 s8 s9)) (ha : a.size ≤ 4096) (had : digB a.data.toList = true) (h1 : inI first = true) (hacc : acc.length ≤ 100000) (hf : fr ≤ i) (hi : i < a.size) (hb : befB ((a.size - i : Nat) : Int) (a.size : Int) first further least = true)
    (H : Ev (fun k => quipuref16_Pieces.l0 k first further least al (acc ++ (fullL [(⟨wS (symsOf s0 s1 s2 s3 s4 s5 s6 s7 s8 s9) a fr i, 2⟩ : S34), ⟨s11, 3⟩])) (a.size : Int) (i : Int) ((i + 1 : Nat) : Int) c n a b e p s0 s1 s2 s3 s4 s5 s6 s7 s8 s9 s10 s11 s12 s13 s14 s15 s16 s17 s18 s19 s20) r) : Ev (fun k => quipuref16_Pieces.l0 k first further least al acc (a.size : Int) (fr : Int) (i : Int) c n a b e p s0 s1 s2 s3 s4 s5 s6 s7 s8 s9 s10 s11 s12 s13 s14 s15 s16 s17 s18 s19 s20) r := by
  refine Ev.step H 2 (fun k => ?_)
  have w : wrap64 ((a.size : Int) - (i : Int)) = ((a.size - i : Nat) : Int) := by unfold wrap64; omega
  have q := full_le [(⟨wS (symsOf s0 s1 s2 s3 s4 s5 s6 s7 s8 s9) a fr i, 2⟩ : S34)]
  simp only [List.length_cons, List.length_nil] at q
  simp only [quipuref16_Pieces.l0, quipuref16_Pieces.j1]
  rw [if_pos (by omega), if_neg (by omega), w, Before_p _ _ first further least (by omega) (by omega) h1 k, hb]
  simp only [Option.bind_some]
  rw [if_pos trivial, if_pos (by omega), if_pos (by omega), if_pos (by omega), Int.toNat_natCast, Int.toNat_natCast, Write_p c n a b e p s0 s1 s2 s3 s4 s5 s6 s7 s8 s9 s10 s11 s12 s13 s14 s15 s16 s17 s18 s19 s20 hD (by omega) had]
  simp only [Option.bind_some]
  rw [add_p _ _ _ (by omega)]
  simp only [Option.bind_some]
  rw [if_pos (by omega), add_p _ _ _ (by rw [List.length_append]; omega)]
  simp only [Option.bind_some]
  rw [wrapS i 10000 (by omega) (by omega), List.append_assoc, ← full_app]
  rfl
set_option maxRecDepth 20000 in
theorem ref_last (c : Int) (n : Bool) (a b : ByteArray) (e : Int) (p : Bool) (s0 s1 s2 s3 s4 s5 s6 s7 s8 s9 s10 s11 s12 s13 s14 s15 s16 s17 s18 s19 s20 : ByteArray) (first further least : Int) (al : Bool) (acc : List S34) (fr : Nat) (r : List S34) (hD : Small (symsOf s0 s1 s2 s3 s4 s5 s6 s7 s8 s9)) (ha : a.size ≤ 4096) (had : digB a.data.toList = true) (hacc : acc.length ≤ 100000) (hf : fr ≤ a.size)
    (H : Ev (fun k => quipuref16_Pieces.l0 k first further least al (acc ++ (fullL [(⟨wS (symsOf s0 s1 s2 s3 s4 s5 s6 s7 s8 s9) a fr a.size, 2⟩ : S34)])) (a.size : Int) (a.size : Int) ((a.size + 1 : Nat) : Int) c n a b e p s0 s1 s2 s3 s4 s5 s6 s7 s8 s9 s10 s11 s12 s13 s14 s15 s16 s17 s18 s19 s20) r) : Ev (fun k => quipuref16_Pieces.l0 k first further least al acc (a.size : Int) (fr : Int) (a.size : Int) c n a b e p s0 s1 s2 s3 s4 s5 s6 s7 s8 s9 s10 s11 s12 s13 s14 s15 s16 s17 s18 s19 s20) r := by
  refine Ev.step H 2 (fun k => ?_)
  simp only [quipuref16_Pieces.l0, quipuref16_Pieces.j1]
  rw [if_pos (by omega), if_pos trivial, if_pos trivial, if_pos (by omega), if_pos (by omega), if_pos (by omega), Int.toNat_natCast, Int.toNat_natCast, Write_p c n a b e p s0 s1 s2 s3 s4 s5 s6 s7 s8 s9 s10 s11 s12 s13 s14 s15 s16 s17 s18 s19 s20 hD (by omega) had]
  simp only [Option.bind_some]
  rw [add_p _ _ _ (by omega)]
  simp only [Option.bind_some]
  rw [if_neg (by omega), wrapS a.size 10000 (by omega) (by omega)]
set_option maxRecDepth 20000 in
theorem ref_end (c : Int) (n : Bool) (a b : ByteArray) (e : Int) (p : Bool) (s0 s1 s2 s3 s4 s5 s6 s7 s8 s9 s10 s11 s12 s13 s14 s15 s16 s17 s18 s19 s20 : ByteArray) (first further least : Int) (al : Bool) (acc : List S34) (fr : Int) (hD : Small (symsOf s0 s1 s2 s3 s4 s5 s6 s7 s8 s9)) (ha : a.size ≤ 4096) (hb : b.size ≤ 4096) (hbd : digB b.data.toList = true) (hacc : acc.length ≤ 100000) :
    Ev (fun k => quipuref16_Pieces.l0 k first further least al acc (a.size : Int) fr ((a.size + 1 : Nat) : Int) c n a b e p s0 s1 s2 s3 s4 s5 s6 s7 s8 s9 s10 s11 s12 s13 s14 s15 s16 s17 s18 s19 s20) (acc ++ fullL (endL (symsOf s0 s1 s2 s3 s4 s5 s6 s7 s8 s9) s10 al b)) := by
  refine Ev.now 2 (fun k => ?_)
  have hw : quipuref16_Write.f b s0 s1 s2 s3 s4 s5 s6 s7 s8 s9 s10 s11 s12 s13 s14 s15 s16 s17 s18 s19 s20 = some (flatS (writtenL (symsOf s0 s1 s2 s3 s4 s5 s6 s7 s8 s9) b.data.toList)) := Write_all c n b a e p s0 s1 s2 s3 s4 s5 s6 s7 s8 s9 s10 s11 s12 s13 s14 s15 s16 s17 s18 s19 s20 hD (by omega) hbd
  have q := full_le [(⟨s10, 4⟩ : S34)]
  simp only [List.length_cons, List.length_nil] at q
  have hJ1 : quipuref16_Pieces.j2 (k + 1) acc true c n a b e p s0 s1 s2 s3 s4 s5 s6 s7 s8 s9 s10 s11 s12 s13 s14 s15 s16 s17 s18 s19 s20 = some (acc ++ fullL ([(⟨s10, 4⟩ : S34)] ++ [(⟨flatS (writtenL (symsOf s0 s1 s2 s3 s4 s5 s6 s7 s8 s9) b.data.toList), 5⟩ : S34)])) := by
    simp only [quipuref16_Pieces.j2]
    rw [if_pos trivial, add_p _ _ _ (by omega)]
    simp only [Option.bind_some]
    rw [hw]
    simp only [Option.bind_some]
    rw [add_p _ _ _ (by rw [List.length_append]; omega), Option.bind_some, List.append_assoc, ← full_app]
  have hJ0 : quipuref16_Pieces.j2 (k + 1) acc false c n a b e p s0 s1 s2 s3 s4 s5 s6 s7 s8 s9 s10 s11 s12 s13 s14 s15 s16 s17 s18 s19 s20 = some (acc ++ fullL ([] ++ [(⟨flatS (writtenL (symsOf s0 s1 s2 s3 s4 s5 s6 s7 s8 s9) b.data.toList), 5⟩ : S34)])) := by
    simp only [quipuref16_Pieces.j2]
    rw [if_neg (by simp), hw]
    simp only [Option.bind_some]
    rw [add_p _ _ _ (by omega), Option.bind_some, List.nil_append]
  simp only [quipuref16_Pieces.l0]
  rw [if_neg (by omega)]
  unfold endL
  by_cases h0 : b.size = 0
  · rw [if_pos ((nil_size _).2 h0), h0]
    cases al with
    | true => rw [hJ1]; rfl
    | false => rw [hJ0]; rfl
  · rw [if_neg (fun h => h0 ((nil_size _).1 h)), hJ1, beq_eq_false_iff_ne.2 h0, Bool.not_false, Bool.or_true, if_pos rfl]
theorem ref_skips (c : Int) (n : Bool) (a b : ByteArray) (e : Int) (p : Bool) (s0 s1 s2 s3 s4 s5 s6 s7 s8 s9 s10 s11 s12 s13 s14 s15 s16 s17 s18 s19 s20 : ByteArray) (first further least : Int) (al : Bool) (acc : List S34) (fr : Nat) (r : List S34) (ha : a.size ≤ 4096) (h1 : inI first = true) : ∀ (d i : Nat), i + d ≤ a.size → (∀ j, i ≤ j → j < i + d → befB ((a.size - j : Nat) : Int) (a.size : Int) first further least = false) →
    Ev (fun k => quipuref16_Pieces.l0 k first further least al acc (a.size : Int) (fr : Int) ((i + d : Nat) : Int) c n a b e p s0 s1 s2 s3 s4 s5 s6 s7 s8 s9 s10 s11 s12 s13 s14 s15 s16 s17 s18 s19 s20) r → Ev (fun k => quipuref16_Pieces.l0 k first further least al acc (a.size : Int) (fr : Int) (i : Int) c n a b e p s0 s1 s2 s3 s4 s5 s6 s7 s8 s9 s10 s11 s12 s13 s14 s15 s16 s17 s18 s19 s20) r := by
  intro d
  induction d with
  | zero => intro i _ _ H; exact H
  | succ d ih =>
    intro i hi hb H
    refine ref_skip c n a b e p s0 s1 s2 s3 s4 s5 s6 s7 s8 s9 s10 s11 s12 s13 s14 s15 s16 s17 s18 s19 s20 first further least al acc fr i r ha h1 (by omega) (hb i (by omega) (by omega)) ?_
    refine ih (i + 1) (by omega) (fun j h2 h3 => hb j (by omega) (by omega)) ?_
    rw [show i + 1 + d = i + (d + 1) from by omega]
    exact H
end Go.Proofs.YtefejkhcbelahaaDoor.Q

namespace Go.Proofs.YtefejkhcbelahaaDoor.Q
open Go.RowKit Go.Proofs.YtefejkhcbelahaaDoorW.PrintWords Go.Proofs.YtefejkhcbelahaaDoorW.PrintLast Go.Proofs.YtefejkhcbelahaaDoorW.PrintMore
set_option linter.unusedVariables false
set_option linter.unusedSimpArgs false
theorem inter2_app (G : ByteArray) (l m : List (List ByteArray)) : inter2 G (l ++ m) = inter2 G l ++ inter2 G m := List.flatMap_append ..
set_option maxRecDepth 20000 in
theorem ref_cuts (c : Int) (n : Bool) (a b : ByteArray) (e : Int) (p : Bool) (s0 s1 s2 s3 s4 s5 s6 s7 s8 s9 s10 s11 s12 s13 s14 s15 s16 s17 s18 s19 s20 : ByteArray) (first further least : Int) (al : Bool) (hD : Small (symsOf s0 s1 s2 s3 s4 s5 s6 s7 s8 s9)) (ha : a.size ≤ 4096) (had : digB a.data.toList = true) (h1 : inI first = true) (E f : Nat) (hf : 0 < f) (hE : E < a.size)
    (hT : ∀ j, 0 < j → j ≤ E → (E - j) % f = 0 → befB ((a.size - j : Nat) : Int) (a.size : Int) first further least = true)
    (hF : ∀ j, 0 < j → j < a.size → (E < j ∨ (E - j) % f ≠ 0) → befB ((a.size - j : Nat) : Int) (a.size : Int) first further least = false) :
    ∀ (c0 : Nat), c0 ≤ E → (c0 = 0 ∨ (E - c0) % f = 0) → ∀ (r : List S34), Ev (fun k => quipuref16_Pieces.l0 k first further least al (fullL (inter2 s11 (chunksL (writtenL (symsOf s0 s1 s2 s3 s4 s5 s6 s7 s8 s9) a.data.toList) f c0 c0).reverse)) (a.size : Int) (c0 : Int) ((c0 + 1 : Nat) : Int) c n a b e p s0 s1 s2 s3 s4 s5 s6 s7 s8 s9 s10 s11 s12 s13 s14 s15 s16 s17 s18 s19 s20) r →
      Ev (fun k => quipuref16_Pieces.l0 k first further least al [] (a.size : Int) ((0 : Nat) : Int) ((0 + 1 : Nat) : Int) c n a b e p s0 s1 s2 s3 s4 s5 s6 s7 s8 s9 s10 s11 s12 s13 s14 s15 s16 s17 s18 s19 s20) r := by
  intro c0
  induction c0 using Nat.strongRecOn with
  | _ c0 ih =>
    intro hc hm r H
    by_cases h0 : c0 = 0
    · subst h0; exact H
    · have hm2 : (E - c0) % f = 0 := hm.resolve_left h0
      have e1 : chunksL (writtenL (symsOf s0 s1 s2 s3 s4 s5 s6 s7 s8 s9) a.data.toList) f c0 c0 = ((writtenL (symsOf s0 s1 s2 s3 s4 s5 s6 s7 s8 s9) a.data.toList).take c0).drop (c0 - f) :: chunksL (writtenL (symsOf s0 s1 s2 s3 s4 s5 s6 s7 s8 s9) a.data.toList) f (c0 - f) (c0 - f) := by
        obtain ⟨m, rfl⟩ : ∃ m, c0 = m + 1 := ⟨c0 - 1, by omega⟩
        simp only [chunksL]
        rw [if_neg (by omega), chunks_fuel _ f hf m (m + 1 - f) _ (by omega) (Nat.le_refl _)]
      have e2 : flatS (((writtenL (symsOf s0 s1 s2 s3 s4 s5 s6 s7 s8 s9) a.data.toList).take c0).drop (c0 - f)) = wS (symsOf s0 s1 s2 s3 s4 s5 s6 s7 s8 s9) a (c0 - f) c0 := by unfold wS writtenL; rw [List.map_drop, List.map_take]
      have e3 : inter2 s11 [((writtenL (symsOf s0 s1 s2 s3 s4 s5 s6 s7 s8 s9) a.data.toList).take c0).drop (c0 - f)] = [(⟨wS (symsOf s0 s1 s2 s3 s4 s5 s6 s7 s8 s9) a (c0 - f) c0, 2⟩ : S34), ⟨s11, 3⟩] := by rw [← e2]; rfl
      rw [e1, List.reverse_cons, inter2_app, full_app, e3] at H
      have hlen : (fullL (inter2 s11 (chunksL (writtenL (symsOf s0 s1 s2 s3 s4 s5 s6 s7 s8 s9) a.data.toList) f (c0 - f) (c0 - f)).reverse)).length ≤ 100000 := by
        refine Nat.le_trans (full_le _) ?_
        rw [inter2_len, List.length_reverse]
        have := chunks_len (writtenL (symsOf s0 s1 s2 s3 s4 s5 s6 s7 s8 s9) a.data.toList) f (c0 - f) (c0 - f)
        omega
      refine ih (c0 - f) (by omega) (by omega) ?_ r ?_
      · by_cases h2 : f ≤ c0
        · right
          rw [show E - (c0 - f) = (E - c0) + f from by omega, Nat.add_mod_right]
          exact hm2
        · left; omega
      · refine ref_skips c n a b e p s0 s1 s2 s3 s4 s5 s6 s7 s8 s9 s10 s11 s12 s13 s14 s15 s16 s17 s18 s19 s20 first further least al _ (c0 - f) r ha h1 (c0 - (c0 - f + 1)) (c0 - f + 1) (by omega) (fun j h2 h3 => hF j (by omega) (by omega) (Or.inr ?_)) ?_
        · have : E - j = (E - c0) + (c0 - j) := by omega
          rw [this, Nat.add_mod, hm2, Nat.zero_add, Nat.mod_mod, Nat.mod_eq_of_lt (by omega)]; omega
        · rw [show c0 - f + 1 + (c0 - (c0 - f + 1)) = c0 from by omega]
          exact ref_cut c n a b e p s0 s1 s2 s3 s4 s5 s6 s7 s8 s9 s10 s11 s12 s13 s14 s15 s16 s17 s18 s19 s20 first further least al _ (c0 - f) c0 r hD ha had h1 hlen (by omega) (by omega) (hT c0 (by omega) hc hm2) H
theorem wS_all (D : List ByteArray) (a : ByteArray) (E : Nat) : wS D a E a.size = flatS ((writtenL D a.data.toList).drop E) := by
  unfold wS writtenL
  rw [List.take_of_length_le (by rw [slen]; exact Nat.le_refl _), List.map_drop]
set_option maxRecDepth 20000 in
theorem ref_main (c : Int) (n : Bool) (a b : ByteArray) (e : Int) (p : Bool) (s0 s1 s2 s3 s4 s5 s6 s7 s8 s9 s10 s11 s12 s13 s14 s15 s16 s17 s18 s19 s20 : ByteArray) (first further least : Int) (al : Bool) (hD : Small (symsOf s0 s1 s2 s3 s4 s5 s6 s7 s8 s9)) (ha : a.size ≤ 4096) (had : digB a.data.toList = true) (hb : b.size ≤ 4096) (hbd : digB b.data.toList = true) (h1 : inI first = true) :
    Ev (fun k => quipuref16_Pieces.l0 k first further least al [] (a.size : Int) ((0 : Nat) : Int) ((0 + 1 : Nat) : Int) c n a b e p s0 s1 s2 s3 s4 s5 s6 s7 s8 s9 s10 s11 s12 s13 s14 s15 s16 s17 s18 s19 s20) (fullL (inter s11 (groupedL (writtenL (symsOf s0 s1 s2 s3 s4 s5 s6 s7 s8 s9) a.data.toList) first further least) ++ endL (symsOf s0 s1 s2 s3 s4 s5 s6 s7 s8 s9) s10 al b)) := by
  have hl : (writtenL (symsOf s0 s1 s2 s3 s4 s5 s6 s7 s8 s9) a.data.toList).length = a.size := by unfold writtenL; rw [List.length_map, slen]
  by_cases cA : first ≤ 0 ∨ (a.size : Int) - first < (if 1 < least then least else 1)
  · have eg : groupedL (writtenL (symsOf s0 s1 s2 s3 s4 s5 s6 s7 s8 s9) a.data.toList) first further least = [writtenL (symsOf s0 s1 s2 s3 s4 s5 s6 s7 s8 s9) a.data.toList] := by
      unfold groupedL
      rw [hl, if_pos cA]
    have hbef : ∀ kk, befB kk (a.size : Int) first further least = false := by
      intro kk
      unfold befB
      rw [if_pos (by rcases cA with h | h
                     · exact Or.inl h
                     · exact Or.inr (Or.inr (Or.inr h)))]
    have e1 : inter s11 [writtenL (symsOf s0 s1 s2 s3 s4 s5 s6 s7 s8 s9) a.data.toList] = [(⟨flatS (writtenL (symsOf s0 s1 s2 s3 s4 s5 s6 s7 s8 s9) a.data.toList), 2⟩ : S34)] := rfl
    rw [eg, e1, full_app]
    by_cases h0 : a.size = 0
    · have e2 : writtenL (symsOf s0 s1 s2 s3 s4 s5 s6 s7 s8 s9) a.data.toList = [] := List.length_eq_zero_iff.1 (hl.trans h0)
      have e3 : fullL [(⟨flatS [], 2⟩ : S34)] = [] := by
        have : (flatS []).toList = [] := (nil_size _).2 rfl
        simp [fullL, emB, this]
      rw [e2, e3, ← h0]
      exact ref_end c n a b e p s0 s1 s2 s3 s4 s5 s6 s7 s8 s9 s10 s11 s12 s13 s14 s15 s16 s17 s18 s19 s20 first further least al [] _ hD ha hb hbd (by simp)
    · refine ref_skips c n a b e p s0 s1 s2 s3 s4 s5 s6 s7 s8 s9 s10 s11 s12 s13 s14 s15 s16 s17 s18 s19 s20 first further least al [] 0 _ ha h1 (a.size - 1) (0 + 1) (by omega) (fun j _ _ => hbef _) ?_
      rw [show 0 + 1 + (a.size - 1) = a.size from by omega]
      refine ref_last c n a b e p s0 s1 s2 s3 s4 s5 s6 s7 s8 s9 s10 s11 s12 s13 s14 s15 s16 s17 s18 s19 s20 first further least al [] 0 _ hD ha had (by simp) (by omega) ?_
      rw [wS_all, List.drop_zero, List.nil_append]
      exact ref_end c n a b e p s0 s1 s2 s3 s4 s5 s6 s7 s8 s9 s10 s11 s12 s13 s14 s15 s16 s17 s18 s19 s20 first further least al _ _ hD ha hb hbd (Nat.le_trans (full_le _) (by simp))
  · have hq : (1 : Int) ≤ (if 1 < least then least else 1) := by split <;> omega
    have hfirst : 0 < first := by omega
    obtain ⟨F, rfl⟩ := Int.eq_ofNat_of_zero_le (show 0 ≤ first from by omega)
    have hFa : F < a.size := by omega
    obtain ⟨f, hf⟩ := Int.eq_ofNat_of_zero_le (show 0 ≤ (if further ≤ 0 then (F : Int) else further) from by split <;> omega)
    have hf0 : 0 < f := by
      have : (0 : Int) < (if further ≤ 0 then (F : Int) else further) := by split <;> omega
      omega
    have eg : groupedL (writtenL (symsOf s0 s1 s2 s3 s4 s5 s6 s7 s8 s9) a.data.toList) (F : Int) further least = (chunksL (writtenL (symsOf s0 s1 s2 s3 s4 s5 s6 s7 s8 s9) a.data.toList) f (a.size - F) (a.size - F)).reverse ++ [(writtenL (symsOf s0 s1 s2 s3 s4 s5 s6 s7 s8 s9) a.data.toList).drop (a.size - F)] := by
      unfold groupedL
      rw [hl, if_neg cA, hf, List.reverse_cons, Int.toNat_natCast, Int.toNat_natCast]
    rw [eg, inter_last, full_app, full_app]
    have hT : ∀ j, 0 < j → j ≤ a.size - F → (a.size - F - j) % f = 0 → befB ((a.size - j : Nat) : Int) (a.size : Int) (F : Int) further least = true := by
      intro j h2 h3 h4
      unfold befB
      have e : ((a.size - j : Nat) : Int) - (F : Int) = ((a.size - F - j : Nat) : Int) := by omega
      rw [if_neg (by omega), hf, e, Int.tmod_eq_emod_of_nonneg (by omega), ← Int.natCast_emod, h4]
      rfl
    have hF : ∀ j, 0 < j → j < a.size → (a.size - F < j ∨ (a.size - F - j) % f ≠ 0) → befB ((a.size - j : Nat) : Int) (a.size : Int) (F : Int) further least = false := by
      intro j h2 h3 h4
      unfold befB
      by_cases h5 : a.size - F < j
      · rw [if_pos (by omega)]
      · have h6 := h4.resolve_left h5
        have e : ((a.size - j : Nat) : Int) - (F : Int) = ((a.size - F - j : Nat) : Int) := by omega
        rw [if_neg (by omega), hf, e, Int.tmod_eq_emod_of_nonneg (by omega), ← Int.natCast_emod, beq_eq_false_iff_ne]
        omega
    have hlen : (fullL (inter2 s11 (chunksL (writtenL (symsOf s0 s1 s2 s3 s4 s5 s6 s7 s8 s9) a.data.toList) f (a.size - F) (a.size - F)).reverse)).length ≤ 50000 := by
      refine Nat.le_trans (full_le _) ?_
      rw [inter2_len, List.length_reverse]
      have := chunks_len (writtenL (symsOf s0 s1 s2 s3 s4 s5 s6 s7 s8 s9) a.data.toList) f (a.size - F) (a.size - F)
      omega
    refine ref_cuts c n a b e p s0 s1 s2 s3 s4 s5 s6 s7 s8 s9 s10 s11 s12 s13 s14 s15 s16 s17 s18 s19 s20 (F : Int) further least al hD ha had h1 (a.size - F) f hf0 (by omega) hT hF (a.size - F) (Nat.le_refl _) (Or.inr (by rw [Nat.sub_self, Nat.zero_mod])) _ ?_
    refine ref_skips c n a b e p s0 s1 s2 s3 s4 s5 s6 s7 s8 s9 s10 s11 s12 s13 s14 s15 s16 s17 s18 s19 s20 (F : Int) further least al _ (a.size - F) _ ha h1 (a.size - (a.size - F + 1)) (a.size - F + 1) (by omega) (fun j h2 h3 => hF j (by omega) (by omega) (Or.inl (by omega))) ?_
    rw [show a.size - F + 1 + (a.size - (a.size - F + 1)) = a.size from by omega]
    refine ref_last c n a b e p s0 s1 s2 s3 s4 s5 s6 s7 s8 s9 s10 s11 s12 s13 s14 s15 s16 s17 s18 s19 s20 (F : Int) further least al _ (a.size - F) _ hD ha had (by omega) (by omega) ?_
    rw [wS_all]
    exact ref_end c n a b e p s0 s1 s2 s3 s4 s5 s6 s7 s8 s9 s10 s11 s12 s13 s14 s15 s16 s17 s18 s19 s20 (F : Int) further least al _ _ hD ha hb hbd (by
      rw [List.length_append]
      have := full_le [(⟨flatS ((writtenL (symsOf s0 s1 s2 s3 s4 s5 s6 s7 s8 s9) a.data.toList).drop (a.size - F)), 2⟩ : S34)]
      simp only [List.length_cons, List.length_nil] at this
      omega)
set_option maxRecDepth 20000 in
theorem ref_f (c : Int) (n : Bool) (a b : ByteArray) (e : Int) (p : Bool) (s0 s1 s2 s3 s4 s5 s6 s7 s8 s9 s10 s11 s12 s13 s14 s15 s16 s17 s18 s19 s20 : ByteArray) (first further least : Int) (al : Bool) (hD : Small (symsOf s0 s1 s2 s3 s4 s5 s6 s7 s8 s9)) (ha : a.size ≤ 140737488355328) (hb : b.size ≤ 140737488355328) (h1 : inI first = true) :
    Ev (fun k => quipuref16_Pieces.f k c n a b e p s0 s1 s2 s3 s4 s5 s6 s7 s8 s9 s10 s11 s12 s13 s14 s15 s16 s17 s18 s19 s20 first further least al) (piecesL (symsOf s0 s1 s2 s3 s4 s5 s6 s7 s8 s9) s10 s11 s17 s18 c n a b e first further least al) := by
  obtain ⟨K, hK⟩ := May_p c n a b e p ha hb
  by_cases hm : mayR c n a b e = false
  · refine ⟨K, fun k hk => ?_⟩
    show quipuref16_Pieces.f k c n a b e p s0 s1 s2 s3 s4 s5 s6 s7 s8 s9 s10 s11 s12 s13 s14 s15 s16 s17 s18 s19 s20 first further least al = _
    unfold quipuref16_Pieces.f piecesL
    rw [Option.bind_some, hK k hk, Option.bind_some, hm, if_neg (by simp), if_pos rfl]
  · have hm' : mayR c n a b e = true := by simpa using hm
    by_cases c1 : c = 1
    · refine ⟨K, fun k hk => ?_⟩
      show quipuref16_Pieces.f k c n a b e p s0 s1 s2 s3 s4 s5 s6 s7 s8 s9 s10 s11 s12 s13 s14 s15 s16 s17 s18 s19 s20 first further least al = _
      unfold quipuref16_Pieces.f piecesL
      rw [Option.bind_some, hK k hk, Option.bind_some, hm', if_pos rfl, if_pos c1, if_neg (by simp), if_pos c1, add_p _ _ _ (by simp)]
      rfl
    · by_cases c2 : c = 2
      · refine ⟨K, fun k hk => ?_⟩
        show quipuref16_Pieces.f k c n a b e p s0 s1 s2 s3 s4 s5 s6 s7 s8 s9 s10 s11 s12 s13 s14 s15 s16 s17 s18 s19 s20 first further least al = _
        unfold quipuref16_Pieces.f piecesL
        rw [Option.bind_some, hK k hk, Option.bind_some, hm', if_pos rfl, if_neg c1, if_pos c2, if_neg (by simp), if_neg c1, if_pos c2, add_p _ _ _ (by simp)]
        rfl
      · obtain rfl : c = 0 := by have := may_c hm'; omega
        obtain ⟨z1, z2, _, _, z5, z6, _⟩ := may_size hm'
        obtain ⟨K2, hK2⟩ := ref_main 0 n a b e p s0 s1 s2 s3 s4 s5 s6 s7 s8 s9 s10 s11 s12 s13 s14 s15 s16 s17 s18 s19 s20 first further least al hD z1 z5 z2 z6 h1
        refine ⟨K + K2, fun k hk => ?_⟩
        show quipuref16_Pieces.f k 0 n a b e p s0 s1 s2 s3 s4 s5 s6 s7 s8 s9 s10 s11 s12 s13 s14 s15 s16 s17 s18 s19 s20 first further least al = _
        unfold quipuref16_Pieces.f piecesL
        rw [Option.bind_some, hK k (by omega), Option.bind_some, hm', if_pos rfl, if_neg c1, if_neg c2, if_neg (by simp), if_neg c1, if_neg c2]
        exact hK2 k (by omega)
/-- The same pieces are the same. -/
theorem same_l0 (l : List S34) (hl : l.length ≤ 1000000) : ∀ (d i k : Nat), l.length - i = d → i ≤ l.length → d < k → quipuref16_Same.l0 k l l (i : Int) = some true := by
  intro d
  induction d with
  | zero =>
    intro i k hd hi hk
    obtain ⟨k, rfl⟩ : ∃ m, k = m + 1 := ⟨k - 1, by omega⟩
    simp only [quipuref16_Same.l0]
    rw [if_neg (by omega)]
  | succ d ih =>
    intro i k hd hi hk
    obtain ⟨k, rfl⟩ : ∃ m, k = m + 1 := ⟨k - 1, by omega⟩
    simp only [quipuref16_Same.l0]
    rw [if_pos (by omega), if_pos (by omega), if_pos (by omega), if_neg (by simp), wrapS i 10000000 (by omega) (by omega)]
    exact ih (i + 1) k (by omega) (by omega) (by omega)
theorem same_p (l : List S34) (hl : l.length ≤ 1000000) : Ev (fun k => quipuref16_Same.f k l l) true := by
  refine ⟨l.length + 1, fun k hk => ?_⟩
  show quipuref16_Same.f k l l = _
  unfold quipuref16_Same.f
  rw [if_pos rfl]
  exact same_l0 l hl l.length 0 k (by omega) (Nat.zero_le _) (by omega)
theorem pieces_len (D : List ByteArray) (dec G inf nan : ByteArray) (c : Int) (n : Bool) (a b : ByteArray) (e first further least : Int) (al : Bool) : (piecesL D dec G inf nan c n a b e first further least al).length ≤ 10000 := by
  unfold piecesL
  by_cases hm : mayR c n a b e = false
  · rw [if_pos hm]; simp
  · rw [if_neg hm]
    have hm' : mayR c n a b e = true := by simpa using hm
    by_cases c1 : c = 1
    · rw [if_pos c1]; exact Nat.le_trans (full_le _) (by simp)
    · rw [if_neg c1]
      by_cases c2 : c = 2
      · rw [if_pos c2]; exact Nat.le_trans (full_le _) (by simp)
      · rw [if_neg c2]
        obtain rfl : c = 0 := by have := may_c hm'; omega
        obtain ⟨z1, z2, _, _, z5, z6, _⟩ := may_size hm'
        refine Nat.le_trans (full_le _) ?_
        rw [List.length_append]
        have h1 := inter_len G (groupedL (writtenL D a.data.toList) first further least)
        have h2 := grouped_len (writtenL D a.data.toList) first further least
        have hl : (writtenL D a.data.toList).length = a.size := by unfold writtenL; rw [List.length_map, slen]
        have h3 : (endL D dec al b).length ≤ 2 := by unfold endL; split <;> simp
        omega
end Go.Proofs.YtefejkhcbelahaaDoor.Q
