import Derived.Test.YtepahimiakgieaaDoorCopied
import Derived.Test.YtepahimiakgieaaDoorSpacesP
import Derived.Test.YtepahimiakgieaaDoorFixed
namespace Go.Proofs.YtepahimiakgieaaDoor.Q
open Go.RowKit Go.Proofs.YtepahimiakgieaaDoorW.PrintWords Go.Proofs.YtepahimiakgieaaDoorW.PrintLast Go.Proofs.YtepahimiakgieaaDoorW.PrintMore
set_option linter.unusedVariables false
set_option linter.unusedSimpArgs false
/-- What may be written over: cells enough in one block from 'base' on, or none asked. -/
def Slots (w : World) (base : Nat) (A : Option Addr) (n : Nat) : Prop :=
  (n = 0) ∨ ∃ g cur, A = some ⟨g, 0, none⟩ ∧ base ≤ g ∧ w.heap[g]? = some (.cells cur 43 (0, 0)) ∧ n * 2 ≤ cur.size
theorem Own.slots {w : World} {base : Nat} {A : Option Addr} {L : List S43} (h : Own w base A L) : Slots w base A L.length := by
  obtain ⟨_, _, h3⟩ := h
  rcases h3 with ⟨e, _⟩ | ⟨g, cur, e1, e2, e3, e4⟩
  · exact .inl (by rw [e]; rfl)
  · exact .inr ⟨g, cur, e1, e2, e3, e4⟩
theorem Slots.below {w w' : World} {base : Nat} {A : Option Addr} {n : Nat} (h : Slots w base A n) (hb : Below w.heap.size w w') : Slots w' base A n := by
  rcases h with h | ⟨g, cur, e1, e2, e3, e4⟩
  · exact .inl h
  · exact .inr ⟨g, cur, e1, e2, blk_below e3 hb, e4⟩
theorem Slots.set {w : World} {base : Nat} {A : Option Addr} {n : Nat} (h : Slots w base A n) (g j : Nat) (u : Value) : Slots (w.setCell ⟨g, j, none⟩ u) base A n := by
  rcases h with h | ⟨g', cur, e1, e2, e3, e4⟩
  · exact .inl h
  · by_cases hg : g' = g
    · subst hg
      exact .inr ⟨g', _, e1, e2, blk_set e3 j u, by simpa using e4⟩
    · exact .inr ⟨g', cur, e1, e2, blk_far e3 hg u, e4⟩
theorem Slots.cells {w : World} {base : Nat} {A : Option Addr} {n : Nat} (h : Slots w base A n) (i : Nat) (hi : i < n) : ∃ g u0 u1, A = some ⟨g, 0, none⟩ ∧ base ≤ g ∧ w.cell? ⟨g, i * 2, none⟩ = some u0 ∧ w.cell? ⟨g, i * 2 + 1, none⟩ = some u1 ∧ w.frozen? ⟨g, i * 2, none⟩ = false ∧ w.frozen? ⟨g, i * 2 + 1, none⟩ = false := by
  rcases h with h | ⟨g, cur, e1, e2, e3, e4⟩
  · omega
  · exact ⟨g, cur[i * 2], cur[i * 2 + 1], e1, e2, (blk_cell e3 _).trans (Array.getElem?_eq_getElem (by omega)), (blk_cell e3 _).trans (Array.getElem?_eq_getElem (by omega)), blk_frozen e3 _, blk_frozen e3 _⟩
theorem below_of_grown {a b : World} (h : a.grownBy b none) : Below a.heap.size a b := ⟨h.os, h.tape, h.output, h.size, fun k hk => h.block k hk (by simp)⟩
theorem grow_slots {ops : Array Oper} {rest : List Oper} {o : Oper} {a : Act} {Q : Exit → Act → World → Prop} {W : World} (hg : o.guard = none) (s x : Operand)
    (hop : o.op = Op.call { callee := Callee.builtin Builtin.append, args := #[s, x], argTypes := #[37, 37] }) (base : Nat) (A : Option Addr) (n : Nat) (hS : Slots W base A n) (hs : a.eval s = .slice A n n)
    (ad : Addr) (c : Nat) (hx : a.eval x = .slice (some ad) 1 c) (t : ByteArray) (z : Int) (hc0 : W.cell? (ad.add 0) = some (.string t)) (hc1 : W.cell? (ad.add 1) = some (.int .i64 z)) (hb : n ≤ 5864062014804)
    (hK : ∀ X m c' W', m = n + 1 → m ≤ c' → Below W.heap.size W W' → wpList Tryd.prog ops Q rest (a.put o.dst (.slice X m c')) W') : wpList Tryd.prog ops Q (o :: rest) a W := by
  obtain ⟨i, hi, hz, hsz, hby⟩ := info_parts info43
  obtain ⟨olds, h1, h2⟩ : ∃ olds : List Value, olds.length = n * 2 ∧ ∀ b, A = some b → ∀ j u, olds[j]? = some u → W.cell? (b.add j) = some u := by
    rcases hS with h | ⟨g, cur, e1, e2, e3, e4⟩
    · exact ⟨[], by rw [h]; rfl, fun b _ j u hj => by simp at hj⟩
    · refine ⟨cur.toList.take (n * 2), by rw [List.length_take, Array.length_toList]; omega, fun b hb j u hj => ?_⟩
      obtain rfl : b = ⟨g, 0, none⟩ := by rw [e1] at hb; exact (Option.some.inj hb).symm
      rw [Addr.add_lit, Nat.zero_add, blk_cell e3]
      rw [List.getElem?_take] at hj
      split at hj
      · simpa using hj
      · cases hj
  refine wpList_append_grows W hg s x 37 hop 43 i _ 2 24 Tryd.underlying37 hi hz hsz hby rfl (by decide) A n n olds hs (fun hA => ?_) h1 h2 ad 1 c [.string t, .int .i64 z] hx rfl (fun j u hj => ?_) (fun u hu => ?_) (by omega) (by unfold maxLen; omega) (by omega) (fun v' w' ho hgr => ?_)
  · rcases hS with h | ⟨g, cur, e1, _⟩
    · exact ⟨h, h⟩
    · rw [hA] at e1; cases e1
  · match j, hj with
    | 0, hj => obtain rfl : Value.string t = u := by simpa using hj
               exact hc0
    | 1, hj => obtain rfl : Value.int .i64 z = u := by simpa using hj
               exact hc1
  · simp only [List.mem_cons, List.not_mem_nil, or_false] at hu
    rcases hu with rfl | rfl <;> rfl
  · obtain ⟨_, ⟨e, h0⟩ | ⟨g, cap, cur, e, _, _, hcap, _⟩⟩ := ho
    · omega
    · rw [e]
      exact hK _ _ _ _ rfl hcap (below_of_grown hgr)
theorem cut_room {A : Option Addr} {n c : Nat} {j : Int} (h0 : 0 ≤ j) (hm : j ≤ c) : ∀ W : World, (Instr.slice 37 (.slice A n c) none (some (.int .i64 j)) none).run Tryd.prog W = .ok (.slice A j.toNat c) W := by
  intro W
  obtain ⟨i, hi, _⟩ := info_parts info43
  have hel : Tryd.prog.elem 37 = 43 := by simp [Program.elem, Tryd.underlying37]
  have hu : Tryd.prog.underlying 37 = some (.slice (Tryd.prog.elem 37)) := by rw [hel]; exact Tryd.underlying37
  have ha : (A.map fun x => x.add 0) = A := by cases A <;> simp [Addr.add]
  rw [run_slice_h W 37 A n c hu .i64 j h0 hm, hel]
  simp [sizeOf, typeInfo, hi, sliced, Result.andThen, ha]
theorem drawn_below {w w' : World} (h : Drawn0 w w') : Below w.heap.size w w' := by
  obtain ⟨nd, rfl⟩ := h
  exact pw_below_drewN (Below.refl _ _) nd
theorem take_len {w : World} {A : Option Addr} {l t : List S43} {n : Nat} (h : Kd.C k43 w A n (l ++ t)) : Kd.C k43 w A l.length l := by
  obtain rfl : n = (l ++ t).length := by first | exact h.1 | exact h.1.symm
  have h2 := Kd.C_take (m := l.length) h (by simp)
  simpa using h2
set_option maxHeartbeats 4000000 in
set_option maxRecDepth 100000 in
theorem spaces_walk (A0 : Option Addr) (c0 : Nat) (l0 : List S43) (A1 : Option Addr) (c1 : Nat) (l1 : List S43) (s : ByteArray) (w : World) (hG : Gd w)
    (hr0 : Kd.C k43 w A0 l0.length l0) (hc0 : l0.length ≤ c0) (hr1 : Kd.C k43 w A1 l1.length l1) (hc1 : l1.length ≤ c1) (h0 : l0.length ≤ 5864062014800) (h1 : l1.length ≤ 5864062014800) (hz : ∀ p, p ∈ l0 → p.f0.size ≤ 9223372036854775807) :
    Calls Tryd.prog 5 #[.slice A0 l0.length c0, .slice A1 l1.length c1, .string s] w fun e w' => e = .returned (.bool true) ∧ Below w.heap.size w w' := by
  have HR0 := Aside0.mk hr0
  have HR1 := Aside0.mk hr1
  have HZ := Aside0.mk hz
  have HG := Aside0.mk hG
  clear hr0 hr1 hz hG
  go_enter Tryd.func5, Tryd.ntmps5
  go_wp2_with fail
  refine (copied_calls A0 c0 l0 _ HR0.out hc0 (by omega)).mono ?_
  rintro e w1 ⟨X, cx, rfl, hX, CX, hb⟩
  have HB1 := Aside0.mk hb
  have HX1 := Aside0.mk CX
  clear hb CX
  go_wp2_with fail
  refine (copied_calls A1 c1 l1 _ (Kd.C_below HR1.out HB1.out) hc1 (by omega)).mono ?_
  rintro e w2 ⟨Y, cy, rfl, hY, CY, hb⟩
  have HB2 := Aside0.mk (below_step HB1.out hb)
  have HX2 := Aside0.mk (Kd.C_below HX1.out hb)
  have HY2 := Aside0.mk CY
  have TX2 : Aside0 (Kd.C k43 w2 X l0.length l0) := ⟨take_len HX2.out⟩
  have TY2 : Aside0 (Kd.C k43 w2 Y l1.length l1) := ⟨take_len HY2.out⟩
  clear hb CY HB1 HX1
  go_wp2_with fail
  refine (space_calls X cx l0 Y cy l1 s w2 TX2.out (by omega) TY2.out (by omega) (by omega) (by omega) HZ.out).mono ?_
  rintro e w3 ⟨B0, B1, rfl, hO0, hO1, _, hb⟩
  have H23 := Aside0.mk hb
  have HP := Aside0.mk (ref_p l0 l1 s (by omega) (by omega) HZ.out)
  obtain ⟨p1, p2, p3⟩ := left_len l0 s
  obtain ⟨q1, q2, q3⟩ := right_len l1 s
  obtain ⟨LA, hLA⟩ : ∃ LA, leftS l0 s = LA := ⟨_, rfl⟩
  obtain ⟨LB, hLB⟩ : ∃ LB, rightS l1 s = LB := ⟨_, rfl⟩
  rw [hLA, hLB] at HP
  rw [hLA] at hO0 p1 p2 p3 ⊢
  rw [hLB] at hO1 q1 q2 q3 ⊢
  have HO0 := Aside0.mk hO0
  have HO1 := Aside0.mk hO1
  have P3 := Aside0.mk p3
  have Q3 := Aside0.mk q3
  clear hO0 hO1 p3 q3 hLA hLB hb HZ
  go_wp2_with fail
  refine (quipuref20_Space.calls 1 A0 c0 l0 A1 c1 l1 s LA LB _ (Kd.C_below HR0.out (below_step HB2.out H23.out)) hc0 (Kd.C_below HR1.out (below_step HB2.out H23.out)) hc1 HP.out).mono ?_
  rintro e w4 ⟨v0, v1, rfl, hR0, hR1, hb⟩
  obtain ⟨D0, d0, rfl⟩ := Kd.R_slice hR0
  obtain ⟨D1, d1, rfl⟩ := Kd.R_slice hR1
  obtain ⟨_, hd0, hD0⟩ := Kd.R_reads' hR0
  obtain ⟨_, hd1, hD1⟩ := Kd.R_reads' hR1
  have H24 := Aside0.mk (below_step H23.out hb)
  have HO0' := Aside0.mk (HO0.out.below hb)
  have HO1' := Aside0.mk (HO1.out.below hb)
  have HD0 := Aside0.mk hD0
  have HD1 := Aside0.mk hD1
  clear HO0 HO1 H23 hb hR0 hR1 hD0 hD1 HP
  have SA := Aside0.mk (same_p LA (by omega))
  have SB := Aside0.mk (same_p LB (by omega))
  have S0 := Aside0.mk (same_p l0 (by omega))
  have S1 := Aside0.mk (same_p l1 (by omega))
  go_wp2_with fail
  refine (quipuref19_Same.calls (LA.length + 1) B0 LA.length LA D0 d0 LA true _ HO0'.out.1 (Nat.le_refl _) HD0.out hd0 SA.out).mono ?_
  rintro e w5 ⟨rfl, hd⟩
  have h45 := Aside0.mk (drawn_below hd)
  clear hd
  go_wp2_with fail
  refine (quipuref19_Same.calls (LB.length + 1) B1 LB.length LB D1 d1 LB true _ (Kd.C_below HO1'.out.1 h45.out) (Nat.le_refl _) (Kd.C_below HD1.out h45.out) hd1 SB.out).mono ?_
  rintro e w6 ⟨rfl, hd⟩
  have H26 := Aside0.mk (below_step (below_step H24.out h45.out) (drawn_below hd))
  have HO0 := Aside0.mk ((HO0'.out.below h45.out).below (drawn_below hd))
  have HO1 := Aside0.mk ((HO1'.out.below h45.out).below (drawn_below hd))
  clear hd HO0' HO1' HD0 HD1 h45 H24
  obtain ⟨n0, hn0⟩ : ∃ n0 : Int, IntKind.i64.wrap ((l0.length : Int) + 1) = n0 := ⟨_, rfl⟩
  obtain ⟨n1, hn1⟩ : ∃ n1 : Int, IntKind.i64.wrap ((l1.length : Int) + 1) = n1 := ⟨_, rfl⟩
  obtain ⟨m1, hm1⟩ : ∃ m1 : Int, IntKind.i64.wrap ((LB.length : Int) - (l1.length : Int)) = m1 := ⟨_, rfl⟩
  have N0 : n0 = (l0.length : Int) + 1 := by rw [← hn0, i64_w]; unfold wrap64; omega
  have N1 : n1 = (l1.length : Int) + 1 := by rw [← hn1, i64_w]; unfold wrap64; omega
  have M1 : m1 = (LB.length : Int) - (l1.length : Int) := by rw [← hm1, i64_w]; unfold wrap64; omega
  have d1 : decide ((LA.length : Int) > n0) = false := decide_eq_false (by omega)
  have d2 : decide ((LB.length : Int) > n1) = false := decide_eq_false (by omega)
  have d3 : decide ((LA.length : Int) < (l0.length : Int)) = false := decide_eq_false (by omega)
  have d3b : decide (LA.length < l0.length) = false := decide_eq_false (by omega)
  have d4 : decide ((LB.length : Int) < (l1.length : Int)) = false := decide_eq_false (by omega)
  have d4b : decide (LB.length < l1.length) = false := decide_eq_false (by omega)
  go_wp2_with fail
  have T0 : Aside0 (Kd.C k43 w6 B0 l0.length l0) := ⟨by have h := HO0.out.1; rw [← List.take_append_drop l0.length LA, P3.out] at h; exact take_len h⟩
  refine (quipuref19_Same.calls (l0.length + 1) B0 LA.length l0 A0 c0 l0 true _ T0.out p1 (Kd.C_below HR0.out (below_step HB2.out H26.out)) hc0 S0.out).mono ?_
  rintro e w7 ⟨rfl, hd⟩
  have h67 := Aside0.mk (drawn_below hd)
  clear hd
  obtain ⟨i43, hi43, _, hsz43, _⟩ := info_parts info43
  have q048 : (0 : Int) ≤ m1 := by omega
  have q48 : m1 ≤ (LB.length : Int) := by omega
  have hcutB := cut_from (P := Tryd.prog) 37 43 .i64 Tryd.underlying37 hi43 2 hsz43 B1 LB.length LB.length m1 q048 q48
  have hr48 := Kd.C_drop (m := m1.toNat) (c := LB.length) (Kd.C_below HO1.out.1 h67.out) (by omega) (Nat.le_refl _)
  have em : m1.toNat = LB.length - l1.length := by omega
  obtain ⟨A48, hA48⟩ : ∃ A1, A1 = (if LB.length = m1.toNat then B1 else (B1 : Option Addr).map (·.add (m1.toNat * 2))) := ⟨_, rfl⟩
  obtain ⟨c48, hc48⟩ : ∃ c1, c1 = LB.length - m1.toNat := ⟨_, rfl⟩
  have hdl : LB.drop m1.toNat = l1 := by rw [em, Q3.out]
  rw [hdl] at hr48
  have T1 : Aside0 (Kd.C k43 w7 A48 l1.length l1) := ⟨by rw [hA48]; exact hr48⟩
  have ec : c48 = l1.length := by omega
  rw [← hA48, ← hc48, ec] at hcutB
  clear hr48 hA48 hc48 hdl em ec hi43 hsz43 N0 N1 M1
  replace q48 := eq_true q48
  have q048b := eq_true q048
  go_wp2_with fail
  refine (quipuref19_Same.calls (l1.length + 1) A48 l1.length l1 A1 c1 l1 true _ T1.out (Nat.le_refl _) (Kd.C_below HR1.out (below_step (below_step HB2.out H26.out) h67.out)) hc1 S1.out).mono ?_
  rintro e w8 ⟨rfl, hd⟩
  have HB := Aside0.mk (below_step (below_step H26.out h67.out) (drawn_below hd))
  have SL0 := Aside0.mk ((HO0.out.slots.below h67.out).below (drawn_below hd))
  have SL1 := Aside0.mk ((HO1.out.slots.below h67.out).below (drawn_below hd))
  clear hd HO0 HO1 h67 H26 T0 T1 SA SB P3 Q3 hcutB q48 q048 q048b hm1
  go_wp2
  go_loopg [13] LA.length (fun kq v w' => ∃ i : Nat, v = .int .i64 (i : Int) ∧ Aside0 (i ≤ LA.length) ∧ Aside0 (LA.length - i ≤ kq) ∧ Aside0 (Below w2.heap.size w2 w') ∧ Aside0 (Slots w' w2.heap.size B0 LA.length) ∧ Aside0 (Slots w' w2.heap.size B1 LB.length))
  case atStart => exact ⟨0, rfl, ⟨Nat.zero_le _⟩, ⟨Nat.le_refl _⟩, ⟨HB.out⟩, ⟨SL0.out⟩, ⟨SL1.out⟩⟩
  case round =>
    clear HB SL0 SL1
    obtain ⟨i, rfl, I1, I2, HB, SL0, SL1⟩ := hrel
    by_cases hi : i < LA.length
    · obtain ⟨k3, rfl⟩ : ∃ k3, gk = k3 + 1 := ⟨gk - 1, by have := I2.out; omega⟩
      have b0 : decide ((i : Int) < (LA.length : Int)) = true := decide_eq_true (by omega)
      have b1 : decide (i < LA.length) = true := decide_eq_true hi
      obtain ⟨g, u0, u1, rfl, hg0, hx0, hx1, hf0, hf1⟩ := SL0.out.cells i hi
      have HG0 := Aside0.mk hg0
      have HI := Aside0.mk hi
      have p0 := eq_true (show (0 : Int) ≤ (i : Int) from by omega)
      have q0 := eq_true (show (i : Int) < (LA.length : Int) from by omega)
      have q1 := eq_true hi
      have hw1 : IntKind.i64.wrap ((i : Int) + 1) = ((i + 1 : Nat) : Int) := by have h := HI.out; rw [i64_w]; unfold wrap64; omega
      clear hg0 hi
      go_wp2
      go_roundg k3
      case measure => omega
      case rel => exact ⟨i + 1, rfl, ⟨by have := HI.out; omega⟩, ⟨by have := HI.out; have := I2.out; omega⟩, ⟨below_set (below_set HB.out HG0.out) HG0.out⟩, ⟨(SL0.out.set _ _ _).set _ _ _⟩, ⟨(SL1.out.set _ _ _).set _ _ _⟩⟩
    · have b0 : decide ((i : Int) < (LA.length : Int)) = false := decide_eq_false (by omega)
      have b1 : decide (i < LA.length) = false := decide_eq_false hi
      go_wp2
      go_loopg [14] LB.length (fun kq v w' => ∃ i : Nat, v = .int .i64 (i : Int) ∧ Aside0 (i ≤ LB.length) ∧ Aside0 (LB.length - i ≤ kq) ∧ Aside0 (Below w2.heap.size w2 w') ∧ Aside0 (Slots w' w2.heap.size B0 LA.length) ∧ Aside0 (Slots w' w2.heap.size B1 LB.length))
      case atStart => exact ⟨0, rfl, ⟨Nat.zero_le _⟩, ⟨Nat.le_refl _⟩, ⟨HB.out⟩, ⟨SL0.out⟩, ⟨SL1.out⟩⟩
      case round =>
        clear HB SL0 SL1
        obtain ⟨i, rfl, I1, I2, HB, SL0, SL1⟩ := hrel
        by_cases hi : i < LB.length
        · obtain ⟨k3, rfl⟩ : ∃ k3, gk = k3 + 1 := ⟨gk - 1, by have := I2.out; omega⟩
          have b0 : decide ((i : Int) < (LB.length : Int)) = true := decide_eq_true (by omega)
          have b1 : decide (i < LB.length) = true := decide_eq_true hi
          obtain ⟨g, u0, u1, rfl, hg0, hx0, hx1, hf0, hf1⟩ := SL1.out.cells i hi
          have HG0 := Aside0.mk hg0
          have HI := Aside0.mk hi
          have p0 := eq_true (show (0 : Int) ≤ (i : Int) from by omega)
          have q0 := eq_true (show (i : Int) < (LB.length : Int) from by omega)
          have q1 := eq_true hi
          have hw1 : IntKind.i64.wrap ((i : Int) + 1) = ((i + 1 : Nat) : Int) := by have h := HI.out; rw [i64_w]; unfold wrap64; omega
          clear hg0 hi
          go_wp2
          go_roundg k3
          case measure => omega
          case rel => exact ⟨i + 1, rfl, ⟨by have := HI.out; omega⟩, ⟨by have := HI.out; have := I2.out; omega⟩, ⟨below_set (below_set HB.out HG0.out) HG0.out⟩, ⟨(SL0.out.set _ _ _).set _ _ _⟩, ⟨(SL1.out.set _ _ _).set _ _ _⟩⟩
        · have b0 : decide ((i : Int) < (LB.length : Int)) = false := decide_eq_false (by omega)
          have b1 : decide (i < LB.length) = false := decide_eq_false hi
          have N0 : n0 = (l0.length : Int) + 1 := by rw [← hn0, i64_w]; unfold wrap64; omega
          have N1 : n1 = (l1.length : Int) + 1 := by rw [← hn1, i64_w]; unfold wrap64; omega
          obtain ⟨kXA, hkXA⟩ : ∃ k : Int, IntKind.i64.wrap ((LA.length : Int) + 1) = k := ⟨_, rfl⟩
          obtain ⟨kXB, hkXB⟩ : ∃ k : Int, IntKind.i64.wrap ((LB.length : Int) + 1) = k := ⟨_, rfl⟩
          go_wp2_with (first | ((with_reducible refine gate_builtin (b := .append) (xs := #[.tmp 112, .tmp 114]) rfl ?_); (try (refine gate_guard (by rfl) ?_; dsimp only)); at_builtin; refine grow_slots rfl (.tmp 112) (.tmp 114) rfl w2.heap.size B0 LA.length ?sl rfl ⟨_, 0, none⟩ 1 rfl (⟨#[]⟩ : ByteArray) (-3) ?ca ?cb (by omega) ?_; (case sl => exact SL0.out.below (below_alloc (Below.refl _ _) _)); (case ca => exact (blk_cell (blk_new _ _) 0).trans rfl); (case cb => exact (blk_cell (blk_new _ _) 1).trans rfl); intro XA mXA cXA wXA emXA hcXA hb; have HBXA := Aside0.mk (below_step (below_alloc HB.out _) hb); have SLXA := Aside0.mk ((SL1.out.below (below_alloc (Below.refl _ _) _)).below hb); clear HB SL1 hb; have HB := HBXA; have SL1 := SLXA; clear HBXA SLXA; have eXA : ((mXA : Int) == kXA) = true := beq_iff_eq.2 (by have h := hkXA; rw [i64_w] at h; unfold wrap64 at h; omega); have eXAb : ((mXA : Int) != kXA) = false := (by rw [bne, eXA]; rfl); clear emXA hcXA) | ((with_reducible refine gate_builtin (b := .append) (xs := #[.tmp 116, .tmp 118]) rfl ?_); (try (refine gate_guard (by rfl) ?_; dsimp only)); at_builtin; refine grow_slots rfl (.tmp 116) (.tmp 118) rfl w2.heap.size B1 LB.length ?sl rfl ⟨_, 0, none⟩ 1 rfl (⟨#[]⟩ : ByteArray) (-4) ?ca ?cb (by omega) ?_; (case sl => exact SL1.out.below (below_alloc (Below.refl _ _) _)); (case ca => exact (blk_cell (blk_new _ _) 0).trans rfl); (case cb => exact (blk_cell (blk_new _ _) 1).trans rfl); intro XB mXB cXB wXB emXB hcXB hb; have HBXB := Aside0.mk (below_step (below_alloc HB.out _) hb); have SLXB := Aside0.mk ((SL1.out.below (below_alloc (Below.refl _ _) _)).below hb); clear HB SL1 hb; have HB := HBXB; have SL1 := SLXB; clear HBXB SLXB; have eXB : ((mXB : Int) == kXB) = true := beq_iff_eq.2 (by have h := hkXB; rw [i64_w] at h; unfold wrap64 at h; omega); have eXBb : ((mXB : Int) != kXB) = false := (by rw [bne, eXB]; rfl); clear emXB hcXB))
          refine (quipuref19_Same.calls (l0.length + 1) X cx l0 A0 c0 l0 true _ (Kd.C_below TX2.out HB.out) (by omega) (Kd.C_below HR0.out (below_step HB2.out HB.out)) hc0 S0.out).mono ?_
          rintro e w9 ⟨rfl, hd⟩
          have h9 := Aside0.mk (drawn_below hd)
          clear hd
          go_wp2_with fail
          refine (quipuref19_Same.calls (l1.length + 1) Y cy l1 A1 c1 l1 true _ (Kd.C_below (Kd.C_below TY2.out HB.out) h9.out) (by omega) (Kd.C_below HR1.out (below_step (below_step HB2.out HB.out) h9.out)) hc1 S1.out).mono ?_
          rintro e w10 ⟨rfl, hd⟩
          have HC := Aside0.mk (below_step (below_step HB.out h9.out) (drawn_below hd))
          clear hd h9 HB
          obtain ⟨t0, ht0⟩ : ∃ t, n0.toNat = t := ⟨_, rfl⟩
          obtain ⟨t1, ht1⟩ : ∃ t, n1.toNat = t := ⟨_, rfl⟩
          have hcutX := cut_room (A := X) (n := l0.length) (c := cx) (j := n0) (by omega) (by omega)
          have hcutY := cut_room (A := Y) (n := l1.length) (c := cy) (j := n1) (by omega) (by omega)
          rw [ht0] at hcutX
          rw [ht1] at hcutY
          obtain ⟨ad0, rfl, _, hx0⟩ := at_T43 (Kd.C_below HX2.out HC.out) (l0.length : Int) (by omega) (by omega)
          obtain ⟨ad1, rfl, _, hx1⟩ := at_T43 (Kd.C_below HY2.out HC.out) (l1.length : Int) (by omega) (by omega)
          have r0 : rd_T43 (l0 ++ [mk7]) (l0.length : Int) = mk7 := by rw [rd_T43, Int.toNat_natCast]; simp
          have r1 : rd_T43 (l1 ++ [mk7]) (l1.length : Int) = mk7 := by rw [rd_T43, Int.toNat_natCast]; simp
          rw [r0, Int.toNat_natCast] at hx0
          rw [r1, Int.toNat_natCast] at hx1
          replace hx0 : w10.cell? ⟨(ad0.add (l0.length * 2)).block, (ad0.add (l0.length * 2)).off + 1, none⟩ = some (.int .i64 (-7)) := hx0
          replace hx1 : w10.cell? ⟨(ad1.add (l1.length * 2)).block, (ad1.add (l1.length * 2)).off + 1, none⟩ = some (.int .i64 (-7)) := hx1
          have f0 := eq_true (show (l0.length : Int) < (t0 : Int) from by omega)
          have f1 := eq_true (show (l1.length : Int) < (t1 : Int) from by omega)
          have f2 := eq_true (show l0.length < t0 from by omega)
          have f3 := eq_true (show l1.length < t1 from by omega)
          clear ht0 ht1 N0 N1 HX2 HY2 TX2 TY2 r0 r1
          go_wp2_with fail
          refine (quipulaw20_fixed.calls true _ (Gd.below HG.out (below_step HB2.out HC.out)) rfl).mono ?_
          rintro e w11 ⟨rfl, hb⟩
          have HE := Aside0.mk (below_step (below_step HB2.out HC.out) hb)
          clear hb
          go_wp2
          go_ret
          exact ⟨rfl, HE.out⟩
end Go.Proofs.YtepahimiakgieaaDoor.Q
