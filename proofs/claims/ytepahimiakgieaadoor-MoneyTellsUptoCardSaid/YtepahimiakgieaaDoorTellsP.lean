import Derived.Test.YtepahimiakgieaaDoorQ56
namespace Go.Proofs.YtepahimiakgieaaDoor.Q
open Go.RowKit Go.Proofs.YtepahimiakgieaaDoorW.PrintWords Go.Proofs.YtepahimiakgieaaDoorW.PrintMore
set_option linter.unusedVariables false
set_option linter.unusedSimpArgs false

/-! ### Forms are cut as the document says -/
theorem toList_data (s : ByteArray) : s.toList = s.data.toList := ByteArray.toList_eq s
theorem slen (s : ByteArray) : s.data.toList.length = s.size := by rw [Array.length_toList]; rfl
theorem mkS_data (l : List UInt8) : (mkS l).data.toList = l := by simp [mkS]
theorem mkS_size (l : List UInt8) : (mkS l).size = l.length := by simp [mkS, ByteArray.size]
theorem extract_front (s : ByteArray) (i : Nat) : s.extract 0 i = mkS (s.data.toList.take i) := by
  apply ByteArray.ext
  rw [ByteArray.data_extract, mkS]
  apply Array.ext'
  simp
theorem extract_back (s : ByteArray) (i : Nat) : s.extract i s.size = mkS (s.data.toList.drop i) := by
  apply ByteArray.ext
  rw [ByteArray.data_extract, mkS]
  apply Array.ext'
  simp
  exact List.take_of_length_le (by rw [List.length_drop, slen]; omega)
theorem extract_mid (s : ByteArray) (i n : Nat) : (s.extract i (i + n)).data.toList = (s.data.toList.drop i).take n := by
  rw [ByteArray.data_extract]
  simp
abbrev CutT := ByteArray × ByteArray × Bool
def sub3 : List UInt8 := [123, 48, 125]
def cutP (l : List UInt8) : CutT := if 0 ≤ Lib.index l sub3 then (mkS (l.take (Lib.index l sub3).toNat), mkS (l.drop ((Lib.index l sub3).toNat + 3)), true) else (⟨#[]⟩, ⟨#[]⟩, false)
theorem ref_cut (s : ByteArray) (hs : s.size ≤ 140737488355328) : ∀ (d i k : Nat), s.size - i = d → i ≤ s.size → d < k → Lib.NoOcc s.data.toList sub3 i → quipuref20_Cut.l0 k s (i : Int) = some (cutP s.data.toList) := by
  intro d
  induction d with
  | zero =>
    intro i k hd hi hk hno
    obtain ⟨k, rfl⟩ : ∃ m, k = m + 1 := ⟨k - 1, by omega⟩
    have hw : wrap64 ((i : Int) + 3) = ((i + 3 : Nat) : Int) := by unfold wrap64; omega
    simp only [quipuref20_Cut.l0, hw]
    have hx : Lib.index s.data.toList sub3 = -1 := Lib.index_past (by decide) hno (by rw [slen]; show s.size < i + 3; omega)
    rw [if_neg (by omega)]
    unfold cutP
    rw [hx, if_neg (by decide)]
  | succ d ih =>
    intro i k hd hi hk hno
    obtain ⟨k, rfl⟩ : ∃ m, k = m + 1 := ⟨k - 1, by omega⟩
    have hw : wrap64 ((i : Int) + 3) = ((i + 3 : Nat) : Int) := by unfold wrap64; omega
    have hw1 : wrap64 ((i : Int) + 1) = ((i + 1 : Nat) : Int) := by unfold wrap64; omega
    simp only [quipuref20_Cut.l0, hw, hw1]
    by_cases h3 : i + 3 ≤ s.size
    · rw [if_pos (by omega), if_pos (by omega), if_pos (by omega)]
      simp only [Int.toNat_natCast]
      have hocc := Lib.occAt_iff_take s.data.toList sub3 i (by rw [slen]; exact h3)
      have h3l : sub3.length = 3 := rfl
      rw [h3l, ← extract_mid, ← toList_data (s.extract i (i + 3))] at hocc
      by_cases hy : (s.extract i (i + 3)).toList = ([123, 48, 125] : List UInt8)
      · have ho : Lib.occAt s.data.toList sub3 i = true := by rw [hocc]; exact beq_iff_eq.2 hy
        have hx : Lib.index s.data.toList sub3 = i := Lib.index_hit hno (by rw [slen]; omega) ho
        rw [if_pos hy, if_pos (by omega), if_pos (by omega)]
        unfold cutP
        rw [hx, if_pos (by omega), Int.toNat_natCast, extract_front, extract_back]
      · have ho : Lib.occAt s.data.toList sub3 i = false := by rw [hocc]; exact beq_eq_false_iff_ne.2 hy
        rw [if_neg hy, ih (i + 1) k (by omega) (by omega) (by omega) (fun j hj => by
          rcases Nat.lt_or_ge j i with h | h
          · exact hno j h
          · obtain rfl : j = i := by omega
            exact ho)]
    · have hx : Lib.index s.data.toList sub3 = -1 := Lib.index_past (by decide) hno (by rw [slen]; show s.size < i + 3; omega)
      rw [if_neg (by omega)]
      unfold cutP
      rw [hx, if_neg (by decide)]
theorem refcut_f (s : ByteArray) (hs : s.size ≤ 140737488355328) (k : Nat) (hk : s.size < k) : quipuref20_Cut.f k s = some (cutP s.data.toList) :=
  ref_cut s hs s.size 0 k (by omega) (by omega) hk (fun j hj => absurd hj (by omega))
theorem cut_f (s : ByteArray) (hs : s.size < 4294967281) : money_Cut.f s = some (cutP s.data.toList) := by
  unfold money_Cut.f strings_Cut.f
  rw [if_pos hs]
  simp only [Option.bind_some]
  show (if (Lib.cut s.data.toList sub3).2.2 = true then some (mkS (Lib.cut s.data.toList sub3).1, mkS (Lib.cut s.data.toList sub3).2.1, true) else some ((⟨#[]⟩ : ByteArray), (⟨#[]⟩ : ByteArray), false)) = some (cutP s.data.toList)
  unfold Lib.cut cutP
  by_cases h : 0 ≤ Lib.index s.data.toList sub3
  · rw [if_pos h, if_pos h, if_pos rfl]; rfl
  · rw [if_neg h, if_neg h, if_neg (by simp)]
/-- What was cut, put together again. -/
theorem cut_again {l : List UInt8} (h : 0 ≤ Lib.index l sub3) : l.take (Lib.index l sub3).toNat ++ sub3 ++ l.drop ((Lib.index l sub3).toNat + 3) = l := by
  obtain ⟨h1, _⟩ | ⟨i, h1, h2, h3, _⟩ := Lib.index_spec l sub3
  · omega
  · rw [h1, Int.toNat_natCast]
    have hr := Lib.index_room l sub3 h
    have h3l : sub3.length = 3 := rfl
    rw [h1, h3l] at hr
    have := Lib.occAt_iff_take l sub3 i (by rw [h3l]; omega)
    rw [h3, h3l] at this
    have h4 : (l.drop i).take 3 = sub3 := beq_iff_eq.1 this.symm
    rw [← h4, List.append_assoc, ← List.drop_drop, List.take_append_drop, List.take_append_drop]
theorem tells_row (W : World) (hG : Gd W) (c s n f0 f1 f2 f3 f4 f5 : ByteArray) (x y z : Int) (w : Int) (form : ByteArray) (hf : form.size < 4294967281) :
    Calls Tryd.prog 4 #[.agg #[.string c, .string s, .string n, .string f0, .string f1, .string f2, .string f3, .string f4, .string f5, .int .i64 x, .int .i64 y, .int .i64 z], .int .i64 w, .string form] W fun e w' => e = .returned (.bool true) ∧ Below W.heap.size W w' := by
  refine quipulaw20_MoneyTells.calls (form.size + 2) c s n f0 f1 f2 f3 f4 f5 x y z w form true W hG ?_
  have hJ : quipulaw20_MoneyTells.j0 (form.size + 2) w false c s n f0 f1 f2 f3 f4 f5 x y z = some true := by
    simp only [quipulaw20_MoneyTells.j0]
    rw [if_neg (by simp)]
    unfold money_Symbol.f quipuref20_Symbol.f money_Form.f quipuref20_Form.f quipulaw20_fixed.f
    by_cases h0 : w = 0
    · rw [if_pos h0]; simp
    · rw [if_neg h0]
      by_cases h1 : w = 1
      · rw [if_pos h1]; simp
      · rw [if_neg h1]; simp
  unfold quipulaw20_MoneyTells.f
  rw [cut_f form hf, refcut_f form (by omega) _ (by omega)]
  simp only [Option.bind_some, if_true]
  rw [if_neg (by simp)]
  unfold cutP
  by_cases h : 0 ≤ Lib.index form.data.toList sub3
  · rw [if_pos h, if_pos rfl]
    have ha := cut_again h
    have hle := congrArg List.length ha
    rw [List.length_append, List.length_append, slen] at hle
    have h3l : sub3.length = 3 := rfl
    have z1 : (mkS (form.data.toList.take (Lib.index form.data.toList sub3).toNat)).size = (form.data.toList.take (Lib.index form.data.toList sub3).toNat).length := mkS_size _
    have z2 : (mkS (form.data.toList.drop ((Lib.index form.data.toList sub3).toNat + 3))).size = (form.data.toList.drop ((Lib.index form.data.toList sub3).toNat + 3)).length := mkS_size _
    have z3 : (⟨#[123, 48, 125]⟩ : ByteArray).size = 3 := rfl
    rw [if_pos (by rw [z1]; omega), if_pos (by rw [ByteArray.size_append, z1, z2, z3]; omega)]
    have e : ((mkS (form.data.toList.take (Lib.index form.data.toList sub3).toNat) ++ (⟨#[123, 48, 125]⟩ : ByteArray)) ++ mkS (form.data.toList.drop ((Lib.index form.data.toList sub3).toNat + 3))).toList = form.toList := by
      rw [toList_data, toList_data, ByteArray.data_append, ByteArray.data_append]
      simp only [Array.toList_append, mkS_data]
      exact ha
    rw [e]
    have e2 : (form.toList != form.toList) = false := by simp
    rw [e2, hJ]
  · rw [if_neg h, if_neg (by decide), hJ]
end Go.Proofs.YtepahimiakgieaaDoor.Q
