import Derived.Test.YtefejkhcbelahaaDoorKa5
import Derived.Test.YtefejkhcbelahaaDoorKa1
import Derived.Test.YtefejkhcbelahaaDoorKa6
import Derived.Test.YtefejkhcbelahaaDoorKa11
import Derived.Test.YtefejkhcbelahaaDoorKa12
import Derived.Test.YtefejkhcbelahaaDoorKa15
import Derived.Test.YtefejkhcbelahaaDoorKa16
namespace Go.Proofs.YtefejkhcbelahaaDoor.Q
open Go.RowKit Go.Proofs.YtefejkhcbelahaaDoorW.PrintWords Go.Proofs.YtefejkhcbelahaaDoorW.PrintLast Go.Proofs.YtefejkhcbelahaaDoorW.PrintMore
set_option linter.unusedVariables false
set_option linter.unusedSimpArgs false
def flatS (g : List ByteArray) : ByteArray := mkS (g.flatMap (·.data.toList))
def inter (G : ByteArray) : List (List ByteArray) → List S34
  | [] => []
  | g :: gs => ⟨flatS g, 2⟩ :: gs.flatMap fun h => [(⟨G, 3⟩ : S34), ⟨flatS h, 2⟩]
theorem inter_snoc (G : ByteArray) (gs : List (List ByteArray)) (g : List ByteArray) : inter G (gs ++ [g]) = inter G gs ++ ((if gs = [] then [] else [(⟨G, 3⟩ : S34)]) ++ [(⟨flatS g, 2⟩ : S34)]) := by
  cases gs with
  | nil => rfl
  | cons h gs => rw [if_neg (by simp)]; simp [inter]
theorem inter_len (G : ByteArray) (gs : List (List ByteArray)) : (inter G gs).length ≤ 2 * gs.length := by
  cases gs with
  | nil => exact Nat.zero_le _
  | cons h gs =>
    have : (gs.flatMap fun h => [(⟨G, 3⟩ : S34), ⟨flatS h, 2⟩]).length = 2 * gs.length := by
      induction gs with
      | nil => rfl
      | cons x xs ih => rw [List.flatMap_cons, List.length_append, ih]; simp; omega
    simp only [inter, List.length_cons, this]; omega
theorem full_le (l : List S34) : (fullL l).length ≤ l.length := List.length_filter_le _ _
/-- The pieces behind the whole digits. -/
def endL (D : List ByteArray) (dec : ByteArray) (al : Bool) (b : ByteArray) : List S34 :=
  (if (al || !(b.size == 0)) = true then [(⟨dec, 4⟩ : S34)] else []) ++ [(⟨flatS (writtenL D b.data.toList), 5⟩ : S34)]
def piecesL (D : List ByteArray) (dec G inf nan : ByteArray) (c : Int) (n : Bool) (a b : ByteArray) (e first further least : Int) (al : Bool) : List S34 :=
  if mayR c n a b e = false then []
  else if c = 1 then fullL [(⟨inf, 2⟩ : S34)]
  else if c = 2 then fullL [(⟨nan, 2⟩ : S34)]
  else fullL (inter G (groupedL (writtenL D a.data.toList) first further least) ++ endL D dec al b)
theorem may_c {c : Int} {n : Bool} {a b : ByteArray} {e : Int} (h : mayR c n a b e = true) : c = 0 ∨ c = 1 ∨ c = 2 := by
  unfold mayR at h
  by_cases h0 : c = 0
  · exact Or.inl h0
  · rw [if_neg h0] at h
    simp only [Bool.and_eq_true, Bool.or_eq_true, beq_iff_eq] at h
    omega
theorem join_nil (l : List ByteArray) : joinL l ⟨#[]⟩ = l.flatMap (·.data.toList) := by
  unfold joinL Lib.join
  show ([] : List UInt8).intercalate _ = _
  rw [List.flatMap_def]
  generalize l.map (·.data.toList) = m
  induction m with
  | nil => rfl
  | cons x xs ih =>
    cases xs with
    | nil => simp [List.intercalate]
    | cons y ys => simp [List.intercalate, List.intersperse] at ih ⊢; exact ih
/-- All symbols are at most a mebibyte. -/
def Small (D : List ByteArray) : Prop := ∀ x ∈ D, x.size ≤ 1048576
theorem sym_small {D : List ByteArray} (h : Small D) (u : UInt8) : (sym D u).size ≤ 1048576 := by
  unfold sym
  rw [List.getD_eq_getElem?_getD]
  cases hx : D[u.toNat - 48]? with
  | none => exact Nat.zero_le _
  | some x => exact h x (List.mem_of_getElem? hx)
theorem written_small {D : List ByteArray} (h : Small D) (l : List UInt8) : Small (writtenL D l) := by
  intro x hx
  unfold writtenL at hx
  obtain ⟨u, _, rfl⟩ := List.mem_map.1 hx
  exact sym_small h u
theorem flat_le {L : List ByteArray} (h : Small L) : (L.flatMap (·.data.toList)).length ≤ L.length * 1048576 := by
  induction L with
  | nil => exact Nat.zero_le _
  | cons x xs ih =>
    rw [List.flatMap_cons, List.length_append, slen, List.length_cons]
    have h1 := h x (by simp)
    have h2 := ih (fun y hy => h y (by simp [hy]))
    omega
theorem join_flat {L : List ByteArray} (h : Small L) (hl : L.length ≤ 100000) : strings_Join.f L ⟨#[]⟩ = some (flatS L) := by
  have := flat_le h
  unfold strings_Join.f
  rw [join_nil, if_pos (by omega), if_pos (by omega)]
  rfl
theorem rdL1 (Gs : List (List ByteArray)) (i : Nat) (h : i < Gs.length) : rd_L1 Gs (i : Int) = Gs[i] := by
  unfold rd_L1
  rw [Int.toNat_natCast, List.getD_eq_getElem?_getD, List.getElem?_eq_getElem h]; rfl
theorem take_app (Gs : List (List ByteArray)) (i : Nat) (h : i < Gs.length) : Gs.take (i + 1) = Gs.take i ++ [Gs[i]] := by
  rw [List.take_add_one, List.getElem?_eq_getElem h]; rfl
set_option maxRecDepth 20000 in
theorem code_l0 (c : Int) (n : Bool) (a b : ByteArray) (e : Int) (p : Bool) (s0 s1 s2 s3 s4 s5 s6 s7 s8 s9 s10 s11 s12 s13 s14 s15 s16 s17 s18 s19 s20 : ByteArray) (Gs : List (List ByteArray)) (al : Bool) (hD : Small (symsOf s0 s1 s2 s3 s4 s5 s6 s7 s8 s9)) (hb : b.size ≤ 4096) (hbd : digB b.data.toList = true) (hG : Gs.length ≤ 5000) (hg : ∀ g ∈ Gs, Small g ∧ g.length ≤ 5000) : ∀ (d i k : Nat), Gs.length - i = d → i ≤ Gs.length → d + 2 ≤ k →
    digits_PiecesK.l0 k al (inter s11 (Gs.take i)) Gs (Gs.length : Int) (i : Int) c n a b e p s0 s1 s2 s3 s4 s5 s6 s7 s8 s9 s10 s11 s12 s13 s14 s15 s16 s17 s18 s19 s20 = some (fullL (inter s11 Gs ++ endL (symsOf s0 s1 s2 s3 s4 s5 s6 s7 s8 s9) s10 al b)) := by
  intro d
  induction d with
  | zero =>
    intro i k hd hi hk
    obtain ⟨k, rfl⟩ : ∃ m, k = m + 2 := ⟨k - 2, by omega⟩
    have hi2 : i = Gs.length := by omega
    subst hi2
    have hlen := inter_len s11 Gs
    have hw : digits_written.f b s0 s1 s2 s3 s4 s5 s6 s7 s8 s9 s10 s11 s12 s13 s14 s15 s16 s17 s18 s19 s20 = some (writtenL (symsOf s0 s1 s2 s3 s4 s5 s6 s7 s8 s9) b.data.toList) := by
      unfold digits_written.f
      rw [if_pos hbd, if_pos (by omega)]
    have hj : strings_Join.f (writtenL (symsOf s0 s1 s2 s3 s4 s5 s6 s7 s8 s9) b.data.toList) ⟨#[]⟩ = some (flatS (writtenL (symsOf s0 s1 s2 s3 s4 s5 s6 s7 s8 s9) b.data.toList)) :=
      join_flat (written_small hD _) (by unfold writtenL; rw [List.length_map, slen]; omega)
    have hJ1 : digits_PiecesK.j1 (k + 1) (inter s11 Gs) true c n a b e p s0 s1 s2 s3 s4 s5 s6 s7 s8 s9 s10 s11 s12 s13 s14 s15 s16 s17 s18 s19 s20 = some (fullL (inter s11 Gs ++ [(⟨s10, 4⟩ : S34)] ++ [(⟨flatS (writtenL (symsOf s0 s1 s2 s3 s4 s5 s6 s7 s8 s9) b.data.toList), 5⟩ : S34)])) := by
      simp only [digits_PiecesK.j1]
      rw [if_pos trivial, if_pos (by omega)]
      simp only [Option.bind_some]
      rw [hw]
      simp only [Option.bind_some]
      rw [hj]
      simp only [Option.bind_some]
      rw [if_pos (by rw [List.length_append]; simp; omega)]
      rfl
    have hJ0 : digits_PiecesK.j1 (k + 1) (inter s11 Gs) false c n a b e p s0 s1 s2 s3 s4 s5 s6 s7 s8 s9 s10 s11 s12 s13 s14 s15 s16 s17 s18 s19 s20 = some (fullL (inter s11 Gs ++ [(⟨flatS (writtenL (symsOf s0 s1 s2 s3 s4 s5 s6 s7 s8 s9) b.data.toList), 5⟩ : S34)])) := by
      simp only [digits_PiecesK.j1]
      rw [if_neg (by simp), hw]
      simp only [Option.bind_some]
      rw [hj]
      simp only [Option.bind_some]
      rw [if_pos (by omega)]
      rfl
    rw [List.take_length]
    simp only [digits_PiecesK.l0]
    rw [if_neg (by omega)]
    unfold endL
    by_cases h0 : b.size = 0
    · rw [if_pos ((nil_size _).2 h0), h0]
      cases al with
      | true => rw [hJ1]; simp
      | false => rw [hJ0]; simp
    · rw [if_neg (fun h => h0 ((nil_size _).1 h)), hJ1, beq_eq_false_iff_ne.2 h0]; simp
  | succ d ih =>
    intro i k hd hi hk
    obtain ⟨k, rfl⟩ : ∃ m, k = m + 1 := ⟨k - 1, by omega⟩
    have hlt : i < Gs.length := by omega
    have hlen := inter_len s11 (Gs.take i)
    rw [List.length_take] at hlen
    have hgi := hg Gs[i] (List.getElem_mem hlt)
    have hn := ih (i + 1) k (by omega) (by omega) (by omega)
    have hs := inter_snoc s11 (Gs.take i) Gs[i]
    rw [← take_app Gs i hlt] at hs
    simp only [digits_PiecesK.l0]
    rw [if_pos (by omega), if_pos (by omega), if_pos (by omega), rdL1 Gs i hlt, join_flat hgi.1 (by omega), wrapS i 10000 (by omega) (by omega)]
    by_cases h0 : i = 0
    · subst h0
      rw [if_neg (by omega)]
      simp only [Option.bind_some]
      rw [if_pos (by omega)]
      rw [if_pos (by rfl), List.nil_append] at hs
      rw [← hs]
      exact hn
    · rw [if_pos (by omega), if_pos (by omega)]
      simp only [Option.bind_some]
      rw [if_pos (by rw [List.length_append]; simp; omega)]
      rw [if_neg (by intro h; rcases List.take_eq_nil_iff.1 h with h | h; · omega
                     · rw [h] at hlt; simp at hlt)] at hs
      rw [List.append_assoc, ← hs]
      exact hn
end Go.Proofs.YtefejkhcbelahaaDoor.Q

namespace Go.Proofs.YtefejkhcbelahaaDoor.Q
open Go.RowKit Go.Proofs.YtefejkhcbelahaaDoorW.PrintWords Go.Proofs.YtefejkhcbelahaaDoorW.PrintLast Go.Proofs.YtefejkhcbelahaaDoorW.PrintMore
set_option linter.unusedVariables false
set_option linter.unusedSimpArgs false
theorem chunks_len (l : List ByteArray) (f : Nat) : ∀ (k e : Nat), (chunksL l f k e).length ≤ k
  | 0, _ => Nat.zero_le _
  | k + 1, e => by
    simp only [chunksL]
    by_cases c : e = 0
    · rw [if_pos c]; exact Nat.zero_le _
    · rw [if_neg c, List.length_cons]; have := chunks_len l f k (e - f); omega
theorem chunks_mem (l : List ByteArray) (f : Nat) : ∀ (k e : Nat) (g : List ByteArray), g ∈ chunksL l f k e → ∃ i j, g = (l.take i).drop j
  | 0, _, g, h => by simp [chunksL] at h
  | k + 1, e, g, h => by
    simp only [chunksL] at h
    by_cases c : e = 0
    · rw [if_pos c] at h; simp at h
    · rw [if_neg c] at h
      rcases List.mem_cons.1 h with rfl | h
      · exact ⟨_, _, rfl⟩
      · exact chunks_mem l f k (e - f) g h
theorem grouped_mem (l : List ByteArray) (first further least : Int) (g : List ByteArray) (h : g ∈ groupedL l first further least) : ∃ i j, g = (l.take i).drop j := by
  unfold groupedL at h
  by_cases c : first ≤ 0 ∨ (l.length : Int) - first < (if 1 < least then least else 1)
  · rw [if_pos c] at h
    rw [List.mem_singleton.1 h]
    exact ⟨l.length, 0, by rw [List.take_length]; rfl⟩
  · rw [if_neg c, List.mem_reverse] at h
    rcases List.mem_cons.1 h with rfl | h
    · exact ⟨l.length, _, by rw [List.take_length]⟩
    · exact chunks_mem _ _ _ _ _ h
theorem grouped_len (l : List ByteArray) (first further least : Int) : (groupedL l first further least).length ≤ l.length + 1 := by
  unfold groupedL
  by_cases c : first ≤ 0 ∨ (l.length : Int) - first < (if 1 < least then least else 1)
  · rw [if_pos c]; simp
  · rw [if_neg c, List.length_reverse, List.length_cons]
    have := chunks_len l (if further ≤ 0 then first else further).toNat (l.length - first.toNat) (l.length - first.toNat)
    omega
theorem small_sub {l : List ByteArray} (h : Small l) (i j : Nat) : Small ((l.take i).drop j) := fun x hx => h x (List.mem_of_mem_take (List.mem_of_mem_drop hx))
set_option maxRecDepth 20000 in
theorem code_fK (c : Int) (n : Bool) (a b : ByteArray) (e : Int) (p : Bool) (s0 s1 s2 s3 s4 s5 s6 s7 s8 s9 s10 s11 s12 s13 s14 s15 s16 s17 s18 s19 s20 : ByteArray) (first further least : Int) (al : Bool) (k : Nat) (hk : 5003 ≤ k) (hD : Small (symsOf s0 s1 s2 s3 s4 s5 s6 s7 s8 s9)) (ha : a.size ≤ 140737488355328) (hb : b.size ≤ 140737488355328) (he : -9223372036854775808 ≤ e ∧ e ≤ 9223372036854775807) (h1 : inI first = true) (h2 : inI further = true) (h3 : inI least = true) :
    digits_PiecesK.f k c n a b e p s0 s1 s2 s3 s4 s5 s6 s7 s8 s9 s10 s11 s12 s13 s14 s15 s16 s17 s18 s19 s20 first further least al = some (piecesL (symsOf s0 s1 s2 s3 s4 s5 s6 s7 s8 s9) s10 s11 s17 s18 c n a b e first further least al) := by
  unfold digits_PiecesK.f piecesL
  rw [Value_p c n a b e p ha hb he k (by omega)]
  simp only [Option.bind_some]
  by_cases hm : mayR c n a b e = false
  · rw [if_pos ((valP_71 _ _ _ _ _).2 hm), if_pos hm]
  · rw [if_neg (fun h => hm ((valP_71 _ _ _ _ _).1 h)), if_neg hm]
    have hm' : mayR c n a b e = true := by simpa using hm
    by_cases c1 : c = 1
    · rw [if_pos c1, if_pos c1]; rfl
    · rw [if_neg c1, if_neg c1]
      by_cases c2 : c = 2
      · rw [if_pos c2, if_pos c2]; rfl
      · rw [if_neg c2, if_neg c2]
        obtain rfl : c = 0 := by have := may_c hm'; omega
        obtain ⟨z1, z2, _, _, z5, z6, _⟩ := may_size hm'
        have hl : (writtenL (symsOf s0 s1 s2 s3 s4 s5 s6 s7 s8 s9) a.data.toList).length = a.size := by unfold writtenL; rw [List.length_map, slen]
        have hw : digits_written.f a s0 s1 s2 s3 s4 s5 s6 s7 s8 s9 s10 s11 s12 s13 s14 s15 s16 s17 s18 s19 s20 = some (writtenL (symsOf s0 s1 s2 s3 s4 s5 s6 s7 s8 s9) a.data.toList) := by
          unfold digits_written.f
          rw [if_pos z5, if_pos (by omega)]
        have hgr : digits_grouped.f (writtenL (symsOf s0 s1 s2 s3 s4 s5 s6 s7 s8 s9) a.data.toList) first further least = some (groupedL (writtenL (symsOf s0 s1 s2 s3 s4 s5 s6 s7 s8 s9) a.data.toList) first further least) := by
          unfold digits_grouped.f
          rw [if_pos (by omega), if_pos (by rw [h1, h2, h3]; rfl)]
        rw [hw]
        simp only [Option.bind_some]
        rw [hgr]
        simp only [Option.bind_some]
        have hlen := grouped_len (writtenL (symsOf s0 s1 s2 s3 s4 s5 s6 s7 s8 s9) a.data.toList) first further least
        have := code_l0 0 n a b e p s0 s1 s2 s3 s4 s5 s6 s7 s8 s9 s10 s11 s12 s13 s14 s15 s16 s17 s18 s19 s20 (groupedL (writtenL (symsOf s0 s1 s2 s3 s4 s5 s6 s7 s8 s9) a.data.toList) first further least) al hD z2 z6 (by omega) (fun g hg => by
          obtain ⟨i, j, rfl⟩ := grouped_mem _ _ _ _ _ hg
          refine ⟨small_sub (written_small hD _) i j, ?_⟩
          rw [List.length_drop, List.length_take]; omega) _ 0 k rfl (Nat.zero_le _) (by omega)
        rw [List.take_zero, show ((0 : Nat) : Int) = 0 from rfl] at this
        exact this
theorem code_f (c : Int) (n : Bool) (a b : ByteArray) (e : Int) (p : Bool) (s0 s1 s2 s3 s4 s5 s6 s7 s8 s9 s10 s11 s12 s13 s14 s15 s16 s17 s18 s19 s20 : ByteArray) (first further least : Int) (al : Bool) (hD : Small (symsOf s0 s1 s2 s3 s4 s5 s6 s7 s8 s9)) (ha : a.size ≤ 140737488355328) (hb : b.size ≤ 140737488355328) (he : -9223372036854775808 ≤ e ∧ e ≤ 9223372036854775807) (h1 : inI first = true) (h2 : inI further = true) (h3 : inI least = true) :
    digits_Pieces.f c n a b e p s0 s1 s2 s3 s4 s5 s6 s7 s8 s9 s10 s11 s12 s13 s14 s15 s16 s17 s18 s19 s20 first further least al = some (piecesL (symsOf s0 s1 s2 s3 s4 s5 s6 s7 s8 s9) s10 s11 s17 s18 c n a b e first further least al) := by
  have hk : 5003 ≤ 10000 := by omega
  unfold digits_Pieces.f
  generalize 10000 = k at *
  exact code_fK c n a b e p s0 s1 s2 s3 s4 s5 s6 s7 s8 s9 s10 s11 s12 s13 s14 s15 s16 s17 s18 s19 s20 first further least al k hk hD ha hb he h1 h2 h3
end Go.Proofs.YtefejkhcbelahaaDoor.Q

namespace Go.Proofs.YtefejkhcbelahaaDoor.Q
open Go.RowKit Go.Proofs.YtefejkhcbelahaaDoorW.PrintWords Go.Proofs.YtefejkhcbelahaaDoorW.PrintLast Go.Proofs.YtefejkhcbelahaaDoorW.PrintMore
set_option linter.unusedVariables false
set_option linter.unusedSimpArgs false
theorem mx_of (a b : Int) : mx a b = if a < b then b else a := by unfold mx; split <;> (try split) <;> omega
theorem digB_sub {l : List UInt8} (h : digB l = true) (i j : Nat) : digB ((l.take j).drop i) = true := by
  unfold digB at *
  rw [List.all_eq_true] at *
  exact fun x hx => h x (List.mem_of_mem_take (List.mem_of_mem_drop hx))
theorem Write_all (c : Int) (n : Bool) (a b : ByteArray) (e : Int) (p : Bool) (s0 s1 s2 s3 s4 s5 s6 s7 s8 s9 s10 s11 s12 s13 s14 s15 s16 s17 s18 s19 s20 : ByteArray) (hD : Small (symsOf s0 s1 s2 s3 s4 s5 s6 s7 s8 s9)) (ha : a.size ≤ 5000) (had : digB a.data.toList = true) : quipuref16_Write.f a s0 s1 s2 s3 s4 s5 s6 s7 s8 s9 s10 s11 s12 s13 s14 s15 s16 s17 s18 s19 s20 = some (flatS (writtenL (symsOf s0 s1 s2 s3 s4 s5 s6 s7 s8 s9) a.data.toList)) := by
  unfold quipuref16_Write.f
  have h := flat_le (written_small hD a.data.toList)
  have hl : (writtenL (symsOf s0 s1 s2 s3 s4 s5 s6 s7 s8 s9) a.data.toList).length = a.size := by unfold writtenL; rw [List.length_map, slen]
  rw [if_pos had, if_pos (by omega), if_pos (by omega)]
  rfl
end Go.Proofs.YtefejkhcbelahaaDoor.Q

namespace Go.Proofs.YtefejkhcbelahaaDoor.Q
open Go.RowKit Go.Proofs.YtefejkhcbelahaaDoorW.PrintWords Go.Proofs.YtefejkhcbelahaaDoorW.PrintLast Go.Proofs.YtefejkhcbelahaaDoorW.PrintMore
set_option linter.unusedVariables false
set_option linter.unusedSimpArgs false
theorem pieces_len (D : List ByteArray) (dec G inf nan : ByteArray) (c : Int) (n : Bool) (a b : ByteArray) (e first further least : Int) (al : Bool) : (piecesL D dec G inf nan c n a b e first further least al).length ≤ 10000 := by
  unfold piecesL
  by_cases hm : mayR c n a b e = false
  · rw [if_pos hm]; simp
  · rw [if_neg hm]
    have hm' : mayR c n a b e = true := by simpa using hm
    by_cases c1 : c = 1
    · rw [if_pos c1]; exact Nat.le_trans (full_le _) (by simp)
    · rw [if_neg c1]
      by_cases c2 : c = 2
      · rw [if_pos c2]; exact Nat.le_trans (full_le _) (by simp)
      · rw [if_neg c2]
        obtain rfl : c = 0 := by have := may_c hm'; omega
        obtain ⟨z1, z2, _, _, z5, z6, _⟩ := may_size hm'
        refine Nat.le_trans (full_le _) ?_
        rw [List.length_append]
        have h1 := inter_len G (groupedL (writtenL D a.data.toList) first further least)
        have h2 := grouped_len (writtenL D a.data.toList) first further least
        have hl : (writtenL D a.data.toList).length = a.size := by unfold writtenL; rw [List.length_map, slen]
        have h3 : (endL D dec al b).length ≤ 2 := by unfold endL; split <;> simp
        omega
end Go.Proofs.YtefejkhcbelahaaDoor.Q
