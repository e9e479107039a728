import Derived.Test.YtepahimiakgieaaDoorQCnt
import Derived.Test.YtepahimiakgieaaDoorOpens
namespace Go.Proofs.YtepahimiakgieaaDoor.Q
open Go.RowKit Go.Proofs.YtepahimiakgieaaDoorW.PrintWords Go.Proofs.YtepahimiakgieaaDoorW.PrintMore
set_option linter.unusedVariables false
set_option linter.unusedSimpArgs false
/-! ### The digits of a currency: the document's loops and what the library writes -/
def g1 : Nat → Int → ByteArray → Option ByteArray
  | 0, _, _ => none
  | k + 1, n, s => if n > 0 then (if (strOfNums [(wrap64 (48 + (Int.tmod n 10))) % 256]).size + s.size ≤ 9223372036854775807 then g1 k (wrap64 (Int.tdiv n 10)) (strOfNums [(wrap64 (48 + (Int.tmod n 10))) % 256] ++ s) else none) else some s
def g0 : Nat → Int → Int → Option (ByteArray × Int)
  | 0, _, _ => none
  | k + 1, n, z => if (Int.tmod n 10) = 0 then g0 k (wrap64 (Int.tdiv n 10)) (wrap64 (z + 1)) else (g1 k n ⟨#[]⟩).bind fun s => some (s, z)
theorem l1_g : ∀ (k : Nat) (n z : Int) (s : ByteArray) (a0 : ByteArray) (a1 : ByteArray) (a2 : ByteArray) (a3 : ByteArray) (a4 : ByteArray) (a5 : ByteArray) (a6 : ByteArray) (a7 : ByteArray) (a8 : ByteArray) (a9 a10 a11 : Int) (b0 b1 b2 b3 b4 : Int) (b5 : Bool) (b6 : Int) (b7 : Bool) (b8 : ByteArray) (b9 b10 : Int) (b11 : Bool) (b12 b13 : Int), quipuref20_Precision.l1 k n z s a0 a1 a2 a3 a4 a5 a6 a7 a8 a9 a10 a11 b0 b1 b2 b3 b4 b5 b6 b7 b8 b9 b10 b11 b12 b13 = (g1 k n s).bind fun s => some (4, a10, b2, b3, b4, b5, 0, false, s, z, b10, b11, b12, b13)
  | 0, _, _, _, _, _, _, _, _, _, _, _, _, _, _, _, _, _, _, _, _, _, _, _, _, _, _, _, _, _ => rfl
  | k + 1, n, z, s, a0, a1, a2, a3, a4, a5, a6, a7, a8, a9, a10, a11, b0, b1, b2, b3, b4, b5, b6, b7, b8, b9, b10, b11, b12, b13 => by
    simp only [quipuref20_Precision.l1, g1, Option.bind_some]
    by_cases c : n > 0
    · rw [if_pos c, if_pos c]
      split
      · exact l1_g k _ _ _ _ _ _ _ _ _ _ _ _ _ _ _ _ _ _ _ _ _ _ _ _ _ _ _ _ _
      · rfl
    · rw [if_neg c, if_neg c]; rfl
theorem l0_g : ∀ (k : Nat) (n z : Int) (a0 : ByteArray) (a1 : ByteArray) (a2 : ByteArray) (a3 : ByteArray) (a4 : ByteArray) (a5 : ByteArray) (a6 : ByteArray) (a7 : ByteArray) (a8 : ByteArray) (a9 a10 a11 : Int) (b0 b1 b2 b3 b4 : Int) (b5 : Bool) (b6 : Int) (b7 : Bool) (b8 : ByteArray) (b9 b10 : Int) (b11 : Bool) (b12 b13 : Int), quipuref20_Precision.l0 k n z a0 a1 a2 a3 a4 a5 a6 a7 a8 a9 a10 a11 b0 b1 b2 b3 b4 b5 b6 b7 b8 b9 b10 b11 b12 b13 = (g0 k n z).bind fun s => some (4, a10, b2, b3, b4, b5, 0, false, s.1, s.2, b10, b11, b12, b13)
  | 0, _, _, _, _, _, _, _, _, _, _, _, _, _, _, _, _, _, _, _, _, _, _, _, _, _, _, _, _ => rfl
  | k + 1, n, z, a0, a1, a2, a3, a4, a5, a6, a7, a8, a9, a10, a11, b0, b1, b2, b3, b4, b5, b6, b7, b8, b9, b10, b11, b12, b13 => by
    simp only [quipuref20_Precision.l0, g0]
    by_cases c : (Int.tmod n 10) = 0
    · rw [if_pos c, if_pos c]
      exact l0_g k _ _ _ _ _ _ _ _ _ _ _ _ _ _ _ _ _ _ _ _ _ _ _ _ _ _ _ _
    · rw [if_neg c, if_neg c, l1_g]
      cases g1 k n ⟨#[]⟩ <;> rfl
def tr (c : Int) : List UInt8 := Lib.trimRightS (Lib.itoa c) [48]
set_option maxRecDepth 100000 in
theorem all_steps : (List.range 999).all (fun c => (List.range 10).all fun z => match g0 9 ((c : Int) + 1) (wrap64 (-(z : Int))) with | some (s, e) => s.data.toList == tr ((c : Int) + 1) && e == wrap64 (wrap64 (((Lib.itoa ((c : Int) + 1)).length : Int) - ((tr ((c : Int) + 1)).length : Int)) - (z : Int)) | none => false) = true := by decide +kernel
theorem step_g (c z : Int) (h1 : 1 ≤ c) (h2 : c ≤ 999) (h3 : 0 ≤ z) (h4 : z ≤ 9) : g0 9 c (wrap64 (-z)) = some (mkS (tr c), wrap64 (wrap64 (((Lib.itoa c).length : Int) - ((tr c).length : Int)) - z)) := by
  have h := List.all_eq_true.1 (List.all_eq_true.1 all_steps (c.toNat - 1) (List.mem_range.2 (by omega))) z.toNat (List.mem_range.2 (by omega))
  have e1 : ((c.toNat - 1 : Nat) : Int) + 1 = c := by omega
  have e2 : ((z.toNat : Nat) : Int) = z := by omega
  simp only [e1, e2] at h
  cases hg : g0 9 c (wrap64 (-z)) with
  | none => rw [hg] at h; cases h
  | some q =>
    obtain ⟨s, e⟩ := q
    rw [hg] at h
    simp only [Bool.and_eq_true, beq_iff_eq] at h
    obtain ⟨h5, h6⟩ := h
    have h7 : s = mkS (tr c) := by cases s; rename_i d; unfold mkS; rw [← h5]
    rw [h7, h6]
theorem mkS_size (l : List UInt8) : (mkS l).size = l.length := by simp [mkS, ByteArray.size]
theorem mkS_data (l : List UInt8) : (mkS l).data.toList = l := by simp [mkS]
theorem itoa_small : (List.range 999).all (fun c => decide ((Lib.itoa ((c : Int) + 1)).length ≤ 3)) = true := by decide +kernel
theorem prec_same (cash : Bool) (a0 : ByteArray) (a1 : ByteArray) (a2 : ByteArray) (a3 : ByteArray) (a4 : ByteArray) (a5 : ByteArray) (a6 : ByteArray) (a7 : ByteArray) (a8 : ByteArray) (a9 a10 a11 : Int) (b0 b1 b2 b3 b4 : Int) (b5 : Bool) (b6 : Int) (b7 : Bool) (b8 : ByteArray) (b9 b10 : Int) (b11 : Bool) (b12 b13 : Int) (h9 : 0 ≤ a9 ∧ a9 ≤ 9) (h10 : 0 ≤ a10 ∧ a10 ≤ 9) (h11 : 0 ≤ a11 ∧ a11 ≤ 999) :
    ∃ r, money_Precision.f 9 a0 a1 a2 a3 a4 a5 a6 a7 a8 a9 a10 a11 cash b0 b1 b2 b3 b4 b5 b6 b7 b8 b9 b10 b11 b12 b13 = some r ∧ quipuref20_Precision.f 9 a0 a1 a2 a3 a4 a5 a6 a7 a8 a9 a10 a11 cash b0 b1 b2 b3 b4 b5 b6 b7 b8 b9 b10 b11 b12 b13 = some r ∧ r.1 ≠ 0 ∧ (b0 ≠ 0 → r = (b0, b1, b2, b3, b4, b5, b6, b7, b8, b9, b10, b11, b12, b13)) := by
  by_cases c0 : b0 = 0
  · cases cash with
    | true =>
      by_cases c1 : a11 ≤ 0
      · refine ⟨(1, a10, a10, b3, b4, b5, b6, b7, b8, b9, b10, b11, b12, b13), ?_, ?_, Int.one_ne_zero, fun h => absurd c0 h⟩
        · unfold money_Precision.f
          rw [if_pos c0, if_pos rfl]
          simp only [money_Precision.j0]
          rw [if_neg (by simp; omega), if_pos trivial]
        · unfold quipuref20_Precision.f
          rw [if_pos c0, if_pos rfl, if_pos c1]
      · refine ⟨(4, a10, b2, b3, b4, b5, 0, false, mkS (tr a11), wrap64 (wrap64 (((Lib.itoa a11).length : Int) - ((tr a11).length : Int)) - a10), b10, b11, b12, b13), ?_, ?_, (fun h => by cases h), fun h => absurd c0 h⟩
        · have hs := List.all_eq_true.1 itoa_small (a11.toNat - 1) (List.mem_range.2 (by omega))
          have e1 : ((a11.toNat - 1 : Nat) : Int) + 1 = a11 := by omega
          have hs := of_decide_eq_true hs
          rw [e1] at hs
          unfold money_Precision.f
          rw [if_pos c0, if_pos rfl]
          simp only [money_Precision.j0]
          rw [if_pos (by simp; omega)]
          unfold strconv_Itoa.f strings_TrimRight.f
          rw [if_pos (by omega), if_pos (by omega), Option.bind_some, if_pos (by decide), if_pos (by rw [mkS_size]; omega), Option.bind_some]
          simp only [mkS_size, mkS_data]
          rfl
        · unfold quipuref20_Precision.f
          rw [if_pos c0, if_pos rfl, if_neg c1, l0_g, step_g a11 a10 (by omega) h11.2 h10.1 h10.2]
          rfl
    | false =>
      refine ⟨(1, a9, a9, b3, b4, b5, b6, b7, b8, b9, b10, b11, b12, b13), ?_, ?_, Int.one_ne_zero, fun h => absurd c0 h⟩
      · unfold money_Precision.f
        rw [if_pos c0, if_neg (by decide)]
        simp only [money_Precision.j0]
        rw [if_neg (by decide), if_neg (by decide)]
      · unfold quipuref20_Precision.f
        rw [if_pos c0, if_neg (by decide)]
  · refine ⟨(b0, b1, b2, b3, b4, b5, b6, b7, b8, b9, b10, b11, b12, b13), ?_, ?_, c0, fun _ => rfl⟩
    · unfold money_Precision.f; rw [if_neg c0]
    · unfold quipuref20_Precision.f; rw [if_neg c0]
theorem prec_stays (cash : Bool) (a0 : ByteArray) (a1 : ByteArray) (a2 : ByteArray) (a3 : ByteArray) (a4 : ByteArray) (a5 : ByteArray) (a6 : ByteArray) (a7 : ByteArray) (a8 : ByteArray) (a9 a10 a11 : Int) (b0 b1 b2 b3 b4 : Int) (b5 : Bool) (b6 : Int) (b7 : Bool) (b8 : ByteArray) (b9 b10 : Int) (b11 : Bool) (b12 b13 : Int) (c0 : b0 ≠ 0) : money_Precision.f 9 a0 a1 a2 a3 a4 a5 a6 a7 a8 a9 a10 a11 cash b0 b1 b2 b3 b4 b5 b6 b7 b8 b9 b10 b11 b12 b13 = some (b0, b1, b2, b3, b4, b5, b6, b7, b8, b9, b10, b11, b12, b13) := by
  unfold money_Precision.f; rw [if_neg c0]
set_option maxRecDepth 100000 in
theorem counts_true (cash : Bool) (a0 : ByteArray) (a1 : ByteArray) (a2 : ByteArray) (a3 : ByteArray) (a4 : ByteArray) (a5 : ByteArray) (a6 : ByteArray) (a7 : ByteArray) (a8 : ByteArray) (a9 a10 a11 : Int) (b0 b1 b2 b3 b4 : Int) (b5 : Bool) (b6 : Int) (b7 : Bool) (b8 : ByteArray) (b9 b10 : Int) (b11 : Bool) (b12 b13 : Int) : quipulaw20_MoneyCounts.f 10 a0 a1 a2 a3 a4 a5 a6 a7 a8 a9 a10 a11 cash b0 b1 b2 b3 b4 b5 b6 b7 b8 b9 b10 b11 b12 b13 = some true := by
  have hf : quipulaw20_fixed.f = some true := rfl
  have hj : quipulaw20_MoneyCounts.j0 10 cash true a0 a1 a2 a3 a4 a5 a6 a7 a8 a9 a10 a11 b0 b1 b2 b3 b4 b5 b6 b7 b8 b9 b10 b11 b12 b13 = some true := by simp only [quipulaw20_MoneyCounts.j0]; rw [if_pos trivial, hf]; rfl
  unfold quipulaw20_MoneyCounts.f
  by_cases d1 : a9 < 0
  · rw [if_pos d1]; exact hj
  rw [if_neg d1]
  by_cases d2 : a9 > 9
  · rw [if_pos d2]; exact hj
  rw [if_neg d2]
  by_cases d3 : a10 < 0
  · rw [if_pos d3]; exact hj
  rw [if_neg d3]
  by_cases d4 : a10 > 9
  · rw [if_pos d4]; exact hj
  rw [if_neg d4]
  by_cases d5 : a11 < 0
  · rw [if_pos d5]; exact hj
  rw [if_neg d5]
  by_cases d6 : a11 > 999
  · rw [decide_eq_true d6]; exact hj
  rw [decide_eq_false d6]
  obtain ⟨r, e1, e2, e3, e4⟩ := prec_same cash a0 a1 a2 a3 a4 a5 a6 a7 a8 a9 a10 a11 b0 b1 b2 b3 b4 b5 b6 b7 b8 b9 b10 b11 b12 b13 (by omega) (by omega) (by omega)
  simp only [quipulaw20_MoneyCounts.j0]
  rw [if_neg (by decide), e1, Option.bind_some, e2, Option.bind_some]
  obtain ⟨r0, r1, r2, r3, r4, r5, r6, r7, r8, r9, r10, r11, r12, r13⟩ := r
  have e5 := prec_stays cash a0 a1 a2 a3 a4 a5 a6 a7 a8 a9 a10 a11 r0 r1 r2 r3 r4 r5 r6 r7 r8 r9 r10 r11 r12 r13 e3
  rw [if_pos (by simp only [beq_self_eq_true, Bool.and_self]), e5, Option.bind_some, if_pos (by simp only [beq_self_eq_true, Bool.and_self])]
  by_cases c0 : b0 = 0
  · rw [if_pos c0, hf]; rfl
  · rw [if_neg c0]
    have h := e4 c0
    simp only [Prod.mk.injEq] at h
    obtain ⟨rfl, rfl, rfl, rfl, rfl, rfl, rfl, rfl, rfl, rfl, rfl, rfl, rfl, rfl⟩ := h
    rw [if_pos (by simp only [beq_self_eq_true, Bool.and_self]), hf]; rfl
theorem counts_row (W : World) (hG : Gd W) (x : S24) (cash : Bool) (p : S28) :
    Calls Tryd.prog 3 #[.agg #[.string x.f0, .string x.f1, .string x.f2, .string x.f3.f0, .string x.f3.f1, .string x.f3.f2, .string x.f3.f3, .string x.f3.f4, .string x.f3.f5, .int .i64 x.f4, .int .i64 x.f5, .int .i64 x.f6], .bool cash, .agg #[.int .i64 p.f0, .int .i64 p.f1, .int .i64 p.f2, .int .i64 p.f3, .int .i64 p.f4, .bool p.f5, .int .i64 p.f6.f0, .bool p.f6.f1, .string p.f6.f2, .int .i64 p.f6.f3, .int .i64 p.f7, .bool p.f8, .int .i64 p.f9, .int .i64 p.f10]] W fun e w' => e = .returned (.bool true) ∧ Below W.heap.size W w' :=
  quipulaw20_MoneyCounts.calls 10 x.f0 x.f1 x.f2 x.f3.f0 x.f3.f1 x.f3.f2 x.f3.f3 x.f3.f4 x.f3.f5 x.f4 x.f5 x.f6 cash p.f0 p.f1 p.f2 p.f3 p.f4 p.f5 p.f6.f0 p.f6.f1 p.f6.f2 p.f6.f3 p.f7 p.f8 p.f9 p.f10 W hG (counts_true cash x.f0 x.f1 x.f2 x.f3.f0 x.f3.f1 x.f3.f2 x.f3.f3 x.f3.f4 x.f3.f5 x.f4 x.f5 x.f6 p.f0 p.f1 p.f2 p.f3 p.f4 p.f5 p.f6.f0 p.f6.f1 p.f6.f2 p.f6.f3 p.f7 p.f8 p.f9 p.f10)
end Go.Proofs.YtepahimiakgieaaDoor.Q
