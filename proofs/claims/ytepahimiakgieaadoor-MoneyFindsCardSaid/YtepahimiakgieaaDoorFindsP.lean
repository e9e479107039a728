import Derived.Test.YtepahimiakgieaaDoorLawFinds
import Derived.Test.YtepahimiakgieaaDoorQ64
import Derived.Test.YtepahimiakgieaaDoorQ68
import Derived.Test.YtepahimiakgieaaDoorOpens
namespace Go.Proofs.YtepahimiakgieaaDoor.Q
open Go.RowKit Go.Proofs.YtepahimiakgieaaDoorW.PrintWords Go.Proofs.YtepahimiakgieaaDoorW.PrintMore
set_option linter.unusedVariables false
set_option linter.unusedSimpArgs false
theorem same_list {a b : ByteArray} : (a.toList == b.toList) = true ↔ a.toList = b.toList := beq_iff_eq
theorem quipuref20_Coin_l0 (code : ByteArray) (a0_0 : ByteArray) (a0_1 : ByteArray) (a0_2 : ByteArray) (a0_3 : ByteArray) (a0_4 : ByteArray) (a0_5 : ByteArray) (a0_6 : ByteArray) (a0_7 : ByteArray) (a0_8 : ByteArray) (a0_9 : ByteArray) (a0_10 : ByteArray) (a0_11 : ByteArray) (a0_12 : ByteArray) (a0_13 : ByteArray) (a0_14 : ByteArray) (a0_15 : ByteArray) (a0_16 : ByteArray) (a0_17 : ByteArray) (a0_18 : ByteArray) (a0_19 : ByteArray) (a0_20 : ByteArray) (a0_21 : ByteArray) (a0_22 : Int) (a0_23 : ByteArray) (a0_24 : ByteArray) (a0_25 : ByteArray) (a0_26 : ByteArray) (a0_27 : ByteArray) (a0_28 : ByteArray) (a0_29 : ByteArray) (l0_30 l0_31 : List S129) (l0_32 : List S24) (l0_33 : List S57) (a0_34 : ByteArray) (hl : l0_32.length ≤ 9223372036854775807) : ∀ (d i k : Nat), l0_32.length - i = d → i ≤ l0_32.length → d < k → cno code l0_32 i →
    quipuref20_Coin.l0 k code (i : Int) a0_0 a0_1 a0_2 a0_3 a0_4 a0_5 a0_6 a0_7 a0_8 a0_9 a0_10 a0_11 a0_12 a0_13 a0_14 a0_15 a0_16 a0_17 a0_18 a0_19 a0_20 a0_21 a0_22 a0_23 a0_24 a0_25 a0_26 a0_27 a0_28 a0_29 l0_30 l0_31 l0_32 l0_33 a0_34 = some ((cpick code l0_32).f0, (cpick code l0_32).f1, (cpick code l0_32).f2, (cpick code l0_32).f3.f0, (cpick code l0_32).f3.f1, (cpick code l0_32).f3.f2, (cpick code l0_32).f3.f3, (cpick code l0_32).f3.f4, (cpick code l0_32).f3.f5, (cpick code l0_32).f4, (cpick code l0_32).f5, (cpick code l0_32).f6, cerr code l0_32 200) := by
  intro d
  induction d with
  | zero =>
    intro i k hd hi hk hno
    obtain ⟨k, rfl⟩ : ∃ m, k = m + 1 := ⟨k - 1, by omega⟩
    obtain rfl : i = l0_32.length := by omega
    have e1 := cnone hno
    have e2 : cpick code l0_32 = z24 := by unfold cpick; rw [e1, List.getD_eq_getElem?_getD, List.getElem?_eq_none (Nat.le_refl _)]; rfl
    have e3 : cerr code l0_32 200 = 200 := by unfold cerr; rw [e1, if_neg (Nat.lt_irrefl _)]
    simp only [quipuref20_Coin.l0]
    rw [if_neg (by omega), e2, e3]
    rfl
  | succ d ih =>
    intro i k hd hi hk hno
    obtain ⟨k, rfl⟩ : ∃ m, k = m + 1 := ⟨k - 1, by omega⟩
    have hlt : i < l0_32.length := by omega
    have hw : wrap64 ((i : Int) + 1) = ((i + 1 : Nat) : Int) := by unfold wrap64; omega
    simp only [quipuref20_Coin.l0, hw, crd l0_32 i hlt]
    rw [if_pos (by omega), if_pos (by omega)]
    by_cases hy : (l0_32[i].f0).toList = code.toList
    · have hy2 : cis code l0_32[i] = true := beq_iff_eq.2 hy
      have e1 := cfirst hlt hno hy2
      have e2 : cpick code l0_32 = l0_32[i] := by unfold cpick; rw [e1, List.getD_eq_getElem?_getD, List.getElem?_eq_getElem hlt]; rfl
      have e3 : cerr code l0_32 200 = 0 := by unfold cerr; rw [e1, if_pos hlt]
      rw [if_pos hy, e2, e3]
    · have hy2 : cis code l0_32[i] = false := beq_eq_false_iff_ne.2 hy
      rw [if_neg hy]
      exact ih (i + 1) k (by omega) (by omega) (by omega) (fun j h hj => by
        rcases Nat.lt_or_ge j i with h1 | h1
        · exact hno j h h1
        · obtain rfl : j = i := by omega
          exact hy2)
theorem quipuref20_Unit_l0 (code : ByteArray) (a0_0 : ByteArray) (a0_1 : ByteArray) (a0_2 : ByteArray) (a0_3 : ByteArray) (a0_4 : ByteArray) (a0_5 : ByteArray) (a0_6 : ByteArray) (a0_7 : ByteArray) (a0_8 : ByteArray) (a0_9 : ByteArray) (a0_10 : ByteArray) (a0_11 : ByteArray) (a0_12 : ByteArray) (a0_13 : ByteArray) (a0_14 : ByteArray) (a0_15 : ByteArray) (a0_16 : ByteArray) (a0_17 : ByteArray) (a0_18 : ByteArray) (a0_19 : ByteArray) (a0_20 : ByteArray) (a0_21 : ByteArray) (a0_22 : Int) (a0_23 : ByteArray) (a0_24 : ByteArray) (a0_25 : ByteArray) (a0_26 : ByteArray) (a0_27 : ByteArray) (a0_28 : ByteArray) (a0_29 : ByteArray) (l0_30 l0_31 : List S129) (l0_32 : List S24) (l0_33 : List S57) (a0_34 : ByteArray) (hl : l0_33.length ≤ 9223372036854775807) : ∀ (d i k : Nat), l0_33.length - i = d → i ≤ l0_33.length → d < k → uno code l0_33 i →
    quipuref20_Unit.l0 k code (i : Int) a0_0 a0_1 a0_2 a0_3 a0_4 a0_5 a0_6 a0_7 a0_8 a0_9 a0_10 a0_11 a0_12 a0_13 a0_14 a0_15 a0_16 a0_17 a0_18 a0_19 a0_20 a0_21 a0_22 a0_23 a0_24 a0_25 a0_26 a0_27 a0_28 a0_29 l0_30 l0_31 l0_32 l0_33 a0_34 = some ((upick code l0_33).f0, (upick code l0_33).f1.f0, (upick code l0_33).f1.f1, (upick code l0_33).f1.f2, (upick code l0_33).f1.f3, (upick code l0_33).f1.f4, (upick code l0_33).f1.f5, (upick code l0_33).f2.f0, (upick code l0_33).f2.f1, (upick code l0_33).f2.f2, (upick code l0_33).f2.f3, (upick code l0_33).f2.f4, (upick code l0_33).f2.f5, (upick code l0_33).f3, uerr code l0_33 201) := by
  intro d
  induction d with
  | zero =>
    intro i k hd hi hk hno
    obtain ⟨k, rfl⟩ : ∃ m, k = m + 1 := ⟨k - 1, by omega⟩
    obtain rfl : i = l0_33.length := by omega
    have e1 := unone hno
    have e2 : upick code l0_33 = z57 := by unfold upick; rw [e1, List.getD_eq_getElem?_getD, List.getElem?_eq_none (Nat.le_refl _)]; rfl
    have e3 : uerr code l0_33 201 = 201 := by unfold uerr; rw [e1, if_neg (Nat.lt_irrefl _)]
    simp only [quipuref20_Unit.l0]
    rw [if_neg (by omega), e2, e3]
    rfl
  | succ d ih =>
    intro i k hd hi hk hno
    obtain ⟨k, rfl⟩ : ∃ m, k = m + 1 := ⟨k - 1, by omega⟩
    have hlt : i < l0_33.length := by omega
    have hw : wrap64 ((i : Int) + 1) = ((i + 1 : Nat) : Int) := by unfold wrap64; omega
    simp only [quipuref20_Unit.l0, hw, urd l0_33 i hlt]
    rw [if_pos (by omega), if_pos (by omega)]
    by_cases hy : (l0_33[i].f0).toList = code.toList
    · have hy2 : uis code l0_33[i] = true := beq_iff_eq.2 hy
      have e1 := ufirst hlt hno hy2
      have e2 : upick code l0_33 = l0_33[i] := by unfold upick; rw [e1, List.getD_eq_getElem?_getD, List.getElem?_eq_getElem hlt]; rfl
      have e3 : uerr code l0_33 201 = 0 := by unfold uerr; rw [e1, if_pos hlt]
      rw [if_pos hy, e2, e3]
    · have hy2 : uis code l0_33[i] = false := beq_eq_false_iff_ne.2 hy
      rw [if_neg hy]
      exact ih (i + 1) k (by omega) (by omega) (by omega) (fun j h hj => by
        rcases Nat.lt_or_ge j i with h1 | h1
        · exact hno j h h1
        · obtain rfl : j = i := by omega
          exact hy2)
set_option maxHeartbeats 1000000 in
theorem finds_row (W : World) (hG : Gd W) (x : S52) (A0 A1 A2 A3 : Option Addr) (c0 c1 c2 c3 : Nat) (l0 : x.f10.length ≤ c0) (C0 : Kd.C k129 W A0 x.f10.length x.f10) (l1 : x.f11.length ≤ c1) (C1 : Kd.C k129 W A1 x.f11.length x.f11)
    (l2 : x.f12.length ≤ c2) (C2 : Kd.C k24 W A2 x.f12.length x.f12) (l3 : x.f13.length ≤ c3) (C3 : Kd.C k57 W A3 x.f13.length x.f13) (name : ByteArray) :
    Calls Tryd.prog 6 #[.agg #[.string x.f0, .string x.f1.f0.f0, .string x.f1.f0.f1, .string x.f1.f0.f2, .string x.f1.f0.f3, .string x.f1.f0.f4, .string x.f1.f0.f5, .string x.f1.f0.f6, .string x.f1.f0.f7, .string x.f1.f0.f8, .string x.f1.f0.f9, .string x.f1.f1, .string x.f1.f2, .string x.f1.f3, .string x.f1.f4, .string x.f1.f5, .string x.f1.f6, .string x.f1.f7, .string x.f1.f8, .string x.f1.f9, .string x.f1.f10, .string x.f1.f11, .int .i64 x.f2, .string x.f3, .string x.f4, .string x.f5, .string x.f6, .string x.f7, .string x.f8, .string x.f9, .slice A0 x.f10.length c0, .slice A1 x.f11.length c1, .slice A2 x.f12.length c2, .slice A3 x.f13.length c3, .string x.f14], .string name] W fun e w' => e = .returned (.bool true) ∧ Below W.heap.size W w' := by
  refine finds_walk W hG _ name rfl (cpick name x.f12) (upick name x.f13) (cerr name x.f12 200) (uerr name x.f13 201) ?_ ?_ ?_ ?_
  · exact fun w hb => money_Coin.calls x.f0 x.f1.f0.f0 x.f1.f0.f1 x.f1.f0.f2 x.f1.f0.f3 x.f1.f0.f4 x.f1.f0.f5 x.f1.f0.f6 x.f1.f0.f7 x.f1.f0.f8 x.f1.f0.f9 x.f1.f1 x.f1.f2 x.f1.f3 x.f1.f4 x.f1.f5 x.f1.f6 x.f1.f7 x.f1.f8 x.f1.f9 x.f1.f10 x.f1.f11 x.f2 x.f3 x.f4 x.f5 x.f6 x.f7 x.f8 x.f9 A0 c0 x.f10 A1 c1 x.f11 A2 c2 x.f12 A3 c3 x.f13 x.f14 name (cpick name x.f12).f0 (cpick name x.f12).f1 (cpick name x.f12).f2 (cpick name x.f12).f3.f0 (cpick name x.f12).f3.f1 (cpick name x.f12).f3.f2 (cpick name x.f12).f3.f3 (cpick name x.f12).f3.f4 (cpick name x.f12).f3.f5 (cpick name x.f12).f4 (cpick name x.f12).f5 (cpick name x.f12).f6 (cerr name x.f12 200) w (Kd.C_below C0 hb) l0 (Kd.C_below C1 hb) l1 (Kd.C_below C2 hb) l2 (Kd.C_below C3 hb) l3 rfl
  · exact fun w hb => quipuref20_Coin.calls (x.f12.length + 1) x.f0 x.f1.f0.f0 x.f1.f0.f1 x.f1.f0.f2 x.f1.f0.f3 x.f1.f0.f4 x.f1.f0.f5 x.f1.f0.f6 x.f1.f0.f7 x.f1.f0.f8 x.f1.f0.f9 x.f1.f1 x.f1.f2 x.f1.f3 x.f1.f4 x.f1.f5 x.f1.f6 x.f1.f7 x.f1.f8 x.f1.f9 x.f1.f10 x.f1.f11 x.f2 x.f3 x.f4 x.f5 x.f6 x.f7 x.f8 x.f9 A0 c0 x.f10 A1 c1 x.f11 A2 c2 x.f12 A3 c3 x.f13 x.f14 name (cpick name x.f12).f0 (cpick name x.f12).f1 (cpick name x.f12).f2 (cpick name x.f12).f3.f0 (cpick name x.f12).f3.f1 (cpick name x.f12).f3.f2 (cpick name x.f12).f3.f3 (cpick name x.f12).f3.f4 (cpick name x.f12).f3.f5 (cpick name x.f12).f4 (cpick name x.f12).f5 (cpick name x.f12).f6 (cerr name x.f12 200) w (Kd.C_below C0 hb) l0 (Kd.C_below C1 hb) l1 (Kd.C_below C2 hb) l2 (Kd.C_below C3 hb) l3 (quipuref20_Coin_l0 name x.f0 x.f1.f0.f0 x.f1.f0.f1 x.f1.f0.f2 x.f1.f0.f3 x.f1.f0.f4 x.f1.f0.f5 x.f1.f0.f6 x.f1.f0.f7 x.f1.f0.f8 x.f1.f0.f9 x.f1.f1 x.f1.f2 x.f1.f3 x.f1.f4 x.f1.f5 x.f1.f6 x.f1.f7 x.f1.f8 x.f1.f9 x.f1.f10 x.f1.f11 x.f2 x.f3 x.f4 x.f5 x.f6 x.f7 x.f8 x.f9 x.f10 x.f11 x.f12 x.f13 x.f14 (Kd.C_max C2) x.f12.length 0 _ (by omega) (by omega) (by omega) (fun j h hj => absurd hj (by omega)))
  · exact fun w hb => money_Unit.calls x.f0 x.f1.f0.f0 x.f1.f0.f1 x.f1.f0.f2 x.f1.f0.f3 x.f1.f0.f4 x.f1.f0.f5 x.f1.f0.f6 x.f1.f0.f7 x.f1.f0.f8 x.f1.f0.f9 x.f1.f1 x.f1.f2 x.f1.f3 x.f1.f4 x.f1.f5 x.f1.f6 x.f1.f7 x.f1.f8 x.f1.f9 x.f1.f10 x.f1.f11 x.f2 x.f3 x.f4 x.f5 x.f6 x.f7 x.f8 x.f9 A0 c0 x.f10 A1 c1 x.f11 A2 c2 x.f12 A3 c3 x.f13 x.f14 name (upick name x.f13).f0 (upick name x.f13).f1.f0 (upick name x.f13).f1.f1 (upick name x.f13).f1.f2 (upick name x.f13).f1.f3 (upick name x.f13).f1.f4 (upick name x.f13).f1.f5 (upick name x.f13).f2.f0 (upick name x.f13).f2.f1 (upick name x.f13).f2.f2 (upick name x.f13).f2.f3 (upick name x.f13).f2.f4 (upick name x.f13).f2.f5 (upick name x.f13).f3 (uerr name x.f13 201) w (Kd.C_below C0 hb) l0 (Kd.C_below C1 hb) l1 (Kd.C_below C2 hb) l2 (Kd.C_below C3 hb) l3 rfl
  · exact fun w hb => quipuref20_Unit.calls (x.f13.length + 1) x.f0 x.f1.f0.f0 x.f1.f0.f1 x.f1.f0.f2 x.f1.f0.f3 x.f1.f0.f4 x.f1.f0.f5 x.f1.f0.f6 x.f1.f0.f7 x.f1.f0.f8 x.f1.f0.f9 x.f1.f1 x.f1.f2 x.f1.f3 x.f1.f4 x.f1.f5 x.f1.f6 x.f1.f7 x.f1.f8 x.f1.f9 x.f1.f10 x.f1.f11 x.f2 x.f3 x.f4 x.f5 x.f6 x.f7 x.f8 x.f9 A0 c0 x.f10 A1 c1 x.f11 A2 c2 x.f12 A3 c3 x.f13 x.f14 name (upick name x.f13).f0 (upick name x.f13).f1.f0 (upick name x.f13).f1.f1 (upick name x.f13).f1.f2 (upick name x.f13).f1.f3 (upick name x.f13).f1.f4 (upick name x.f13).f1.f5 (upick name x.f13).f2.f0 (upick name x.f13).f2.f1 (upick name x.f13).f2.f2 (upick name x.f13).f2.f3 (upick name x.f13).f2.f4 (upick name x.f13).f2.f5 (upick name x.f13).f3 (uerr name x.f13 201) w (Kd.C_below C0 hb) l0 (Kd.C_below C1 hb) l1 (Kd.C_below C2 hb) l2 (Kd.C_below C3 hb) l3 (quipuref20_Unit_l0 name x.f0 x.f1.f0.f0 x.f1.f0.f1 x.f1.f0.f2 x.f1.f0.f3 x.f1.f0.f4 x.f1.f0.f5 x.f1.f0.f6 x.f1.f0.f7 x.f1.f0.f8 x.f1.f0.f9 x.f1.f1 x.f1.f2 x.f1.f3 x.f1.f4 x.f1.f5 x.f1.f6 x.f1.f7 x.f1.f8 x.f1.f9 x.f1.f10 x.f1.f11 x.f2 x.f3 x.f4 x.f5 x.f6 x.f7 x.f8 x.f9 x.f10 x.f11 x.f12 x.f13 x.f14 (Kd.C_max C3) x.f13.length 0 _ (by omega) (by omega) (by omega) (fun j h hj => absurd hj (by omega)))
end Go.Proofs.YtepahimiakgieaaDoor.Q
