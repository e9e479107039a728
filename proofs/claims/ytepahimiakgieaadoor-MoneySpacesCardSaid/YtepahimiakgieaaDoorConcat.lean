import Derived.Test.YtepahimiakgieaaDoorExt
namespace Go.Proofs.YtepahimiakgieaaDoor.Q
open Go.RowKit Go.Proofs.YtepahimiakgieaaDoorW.PrintWords Go.Proofs.YtepahimiakgieaaDoorW.PrintMore
set_option linter.unusedVariables false
set_option linter.unusedSimpArgs false

/-! ### Lists of pieces, one behind the other -/
def sumL (ls : List (List S43)) : Nat := ls.flatten.length
theorem sum_take {ls : List (List S43)} {k : Nat} (h : k < ls.length) : sumL (ls.take (k + 1)) = sumL (ls.take k) + ls[k].length := by
  unfold sumL
  rw [List.take_succ_eq_append_getElem h, List.flatten_append, List.length_append]
  simp
theorem sum_le (ls : List (List S43)) (k : Nat) : sumL (ls.take k) ≤ sumL ls := by
  unfold sumL
  conv => rhs; rw [← List.take_append_drop k ls]
  rw [List.flatten_append, List.length_append]
  omega
theorem flat_take {ls : List (List S43)} {k : Nat} (h : k < ls.length) : (ls.take (k + 1)).flatten = (ls.take k).flatten ++ ls[k] := by
  rw [List.take_succ_eq_append_getElem h, List.flatten_append]
  simp
theorem grow_calls (n : Nat) (w : World) (hn : n ≤ 5864062014804) :
    Calls Tryd.prog 49 #[.slice none 0 0, .int .i64 (n : Int)] w fun e w' => ∃ v : Value, e = .returned v ∧ Kd.R k43 43 w' w.heap.size (fun _ => True) v [] ∧ Below w.heap.size w w' := by
  by_cases h0 : n = 0
  · subst h0
    refine (Any8.slices_Grow_room Tryd.grow43 none 0 0 0 w (by omega) (by omega) (by omega) (by omega)).mono ?_
    rintro e w' ⟨he, rfl⟩
    exact ⟨_, he, Kd.R_nil _ _ _ _ _, Below.refl _ _⟩
  · obtain ⟨i0, hi, hzz⟩ := Option.map_eq_some_iff.1 info43
    simp only [Prod.mk.injEq] at hzz
    obtain ⟨hz0, hz1, hz2⟩ := hzz
    have hb : (0 + n) * i0.bytes ≤ 140737488355328 := by rw [hz2]; omega
    refine (Any8.slices_Grow_grow Tryd.grow43 i0 _ hi hz0 (by rw [hz1]; decide) none 0 0 n [] w (by omega) (by omega) hb (by omega) (by simp) (fun _ => rfl) (fun a ha => by cases ha)).mono ?_
    rintro e w' ⟨he, rfl⟩
    have hG : 0 + n ≤ grownCap w (0 + n) 0 43 := grownCap_ge w _ _ _
    have hM : grownCap w (0 + n) 0 43 ≤ maxLen := grownCap_le_maxLen w (0 + n) 0 43 (by unfold maxLen; omega)
    refine ⟨_, he, ?_, (below_drew (Below.refl _ _)).alloc (Nat.le_refl _) _⟩
    refine ⟨fun _ _ => trivial, [], ⟨rfl, .inr ⟨w.heap.size, grownCap w (0 + n) 0 43, _, rfl, Nat.le_refl _, blk_new w.drew _, Nat.zero_le _, hM, ?_, by simp⟩⟩, ?_⟩
    · have e1 : (Value.agg #[Value.string { data := #[] }, Value.int IntKind.i64 0]).cells.size = 2 := rfl
      have e2 : Tryd.grow43_ren.t 25 = 43 := rfl
      have e3 : k43.sz = 2 := rfl
      rw [e2, e3, Array.size_append, Array.size_append, size_zeroCells, size_zeroCells, e1]
      show 0 + (0 + n - 0) * 2 + _ = _
      omega
    · exact ⟨rfl, fun j p hj => by simp at hj⟩
set_option maxHeartbeats 2000000 in
set_option maxRecDepth 100000 in
theorem concat_calls (A : Option Addr) (c : Nat) (ls : List (List S43)) (w : World) (hr : Kd.C (Kd.slice 43 k43) w A ls.length ls) (hc : ls.length ≤ c) (hn : ls.length ≤ 1000000) (hs : sumL ls ≤ 5864062014804) :
    Calls Tryd.prog 41 #[.slice A ls.length c] w fun e w' => ∃ v : Value, e = .returned v ∧ Kd.R k43 43 w' w.heap.size (fun _ => True) v ls.flatten ∧ Below w.heap.size w w' := by
  have HR := Aside0.mk hr
  have HS := Aside0.mk hs
  clear hr hs
  go_enter Tryd.func41, Tryd.ntmps41
  go_wp2_with fail
  go_loop [3, 11] (fun v3 v11 => ∃ k : Nat, k ≤ ls.length ∧ v11 = .int .i64 (k : Int) ∧ v3 = .int .i64 ((sumL (ls.take k) : Nat) : Int)) (fun _ v11 => ls.length - (intOf v11).toNat)
  case atStart => exact ⟨0, Nat.zero_le _, rfl, rfl⟩
  case round =>
    obtain ⟨k, hk, rfl, rfl⟩ := hrel
    by_cases hlt : k < ls.length
    · obtain ⟨ad, A0, c0, rfl, hx0, hx1, hx2⟩ := at_L4 HR.out (k : Int) (by omega) (by omega)
      have el : rd_L4 ls (k : Int) = ls[k] := by unfold rd_L4; rw [Int.toNat_natCast, List.getD_eq_getElem?_getD, List.getElem?_eq_getElem hlt]; rfl
      rw [el] at hx0 hx1 hx2
      rw [Int.toNat_natCast] at hx0
      have h1 := sum_take hlt
      have h2 := sum_le ls (k + 1)
      have HE : Aside0 (sumL (ls.take (k + 1)) = sumL (ls.take k) + ls[k].length) := ⟨h1⟩
      have h3 : sumL (ls.take k) + ls[k].length ≤ 5864062014804 := by have := HS.out; omega
      clear el h1 h2 hx2
      generalize sumL (ls.take k) = S at *
      generalize ls[k].length = m at *
      go_wp2
      go_round
      case rel => exact ⟨k + 1, hlt, by go_num, by rw [HE.out]; go_num⟩
      case measure => simp [intOf]; omega
    · have hkk : k = ls.length := by omega
      have HT : Aside0 (sumL (ls.take k) = sumL ls) := ⟨by rw [List.take_of_length_le (by omega)]⟩
      go_wp2_with fail
      clear HT hkk hk
      refine (grow_calls (sumL ls) w HS.out).mono ?_
      rintro e w1 ⟨v1, rfl, ho1, hb1⟩
      have HO := Aside0.mk ho1
      have HB := Aside0.mk hb1
      clear ho1 hb1
      go_wp2_with fail
      go_loopw [6, 27] (fun v6 v27 wr => ∃ k : Nat, k ≤ ls.length ∧ v27 = .int .i64 (k : Int) ∧ Aside0 (Kd.R k43 43 wr w.heap.size (fun _ => True) v6 (ls.take k).flatten) ∧ Aside0 (Below w.heap.size w wr)) (fun _ v27 _ => ls.length - (intOf v27).toNat)
      case atStart => exact ⟨0, Nat.zero_le _, rfl, HO, HB⟩
      case round =>
        clear HO HB
        obtain ⟨k, hk, rfl, HO, HB⟩ := hrel
        by_cases hlt : k < ls.length
        · obtain ⟨ad, A0, c0, rfl, hx0, hx1, hx2⟩ := at_L4 HR.out (k : Int) (by omega) (by omega)
          have el : rd_L4 ls (k : Int) = ls[k] := by unfold rd_L4; rw [Int.toNat_natCast, List.getD_eq_getElem?_getD, List.getElem?_eq_getElem hlt]; rfl
          rw [el] at hx0 hx1 hx2
          rw [Int.toNat_natCast] at hx0
          have hx0' := (HB.out.cell (World.block_lt_of_cell? w _ hx0)).trans hx0
          have HX2 := Aside0.mk (Kd.C_below hx2 HB.out)
          have hf := flat_take hlt
          have h2 := sum_le ls (k + 1)
          have HL : Aside0 ((ls.take k).flatten.length + ls[k].length ≤ 5864062014804) := ⟨by have := HS.out; unfold sumL at h2; rw [hf, List.length_append] at h2; unfold sumL at this; omega⟩
          have HF := Aside0.mk hf
          clear el h2 hx2 hf hx0
          go_wp2_with ((with_reducible refine gate_builtin (b := .append) (xs := #[.tmp 31, .tmp 32]) rfl ?_); at_builtin; refine Kd.R_append_rows k43 (w0 := w) w.heap.size rfl (.tmp 31) (.tmp 32) 37 43 (.agg #[(.string ⟨#[]⟩), (.int .i64 0)]) 24 rfl Tryd.underlying37 info43 rfl (by decide) (by decide) _ ((ls.take k).flatten) ls[k] _ _ _ (fun _ => True) (fun _ => False) rfl rfl ?aO ?aR (fun _ _ h => h) (fun _ h => h.elim) ?aF ?aB ?aS ?aL ?_; (case aR => exact HX2.out); (case aB => exact HB.out); (case aF => exact (fun _ _ => trivial)); (case aO => exact HO.out); (case aS => exact below_size HB.out); (case aL => have := HL.out; omega); intro v' w' ho hb hg hat; have HO2 := Aside0.mk ho; have HB2 := Aside0.mk hb; clear ho hb hg hat)
          rw [← HF.out] at HO2
          clear HO HB HX2 hx0' hx1
          go_roundw
          case rel => exact ⟨k + 1, hlt, by go_num, HO2, HB2⟩
          case measure => simp [intOf]; omega
        · have HT : Aside0 ((ls.take k).flatten = ls.flatten) := ⟨by rw [List.take_of_length_le (by omega)]⟩
          rw [HT.out] at HO
          clear HT
          go_wp2
          go_ret
          exact ⟨_, rfl, HO.out, HB.out⟩
/-- What 'row' hands back: a slice of just so many pieces, in a block of its own. -/
def Own (w : World) (base : Nat) (A : Option Addr) (L : List S43) : Prop :=
  Kd.C k43 w A L.length L ∧ L.length ≤ 5864062014804 ∧ ((L = [] ∧ (A = none ∨ ∃ g, A = some ⟨g, 0, none⟩ ∧ base ≤ g ∧ g < w.heap.size)) ∨ ∃ g cur, A = some ⟨g, 0, none⟩ ∧ base ≤ g ∧ w.heap[g]? = some (.cells cur 43 (0, 0)) ∧ L.length * 2 ≤ cur.size)
theorem own_of_R {w : World} {base n c : Nat} {A : Option Addr} {ok : Nat → Prop} {L : List S43} (h : Kd.R k43 43 w base ok (.slice A n c) L) (hL : L.length ≤ 5864062014804) : n = L.length ∧ L.length ≤ c ∧ Own w base A L := by
  obtain ⟨e1, h1, h2⟩ := Kd.R_reads' h
  subst e1
  refine ⟨rfl, h1, h2, hL, ?_⟩
  obtain ⟨_, inner, ⟨hl, ho⟩, _⟩ := h
  rcases ho with ⟨he, h0⟩ | ⟨g, cap, cur, he, hg, hh, hnc, hcm, hcs, ht⟩
  · injection he with e2 e3 e4
    exact .inl ⟨List.length_eq_zero_iff.1 h0, .inl e2⟩
  · injection he with e2 e3 e4
    subst e2 e4
    refine .inr ⟨g, cur, rfl, hg, hh, ?_⟩
    have : k43.sz = 2 := rfl
    rw [hcs, this]
    exact Nat.mul_le_mul_right _ h1
theorem Own.below {w w' : World} {base : Nat} {A : Option Addr} {L : List S43} (h : Own w base A L) (hb : Below w.heap.size w w') : Own w' base A L := by
  obtain ⟨h1, h2, h3⟩ := h
  refine ⟨Kd.C_below h1 hb, h2, ?_⟩
  rcases h3 with ⟨e, h3 | ⟨g, e2, h4, h5⟩⟩ | ⟨g, cur, e2, h4, h5, h6⟩
  · exact .inl ⟨e, .inl h3⟩
  · exact .inl ⟨e, .inr ⟨g, e2, h4, Nat.lt_of_lt_of_le h5 hb.size⟩⟩
  · exact .inr ⟨g, cur, e2, h4, blk_below h5 hb, h6⟩
theorem Own.lower {w : World} {base base' : Nat} {A : Option Addr} {L : List S43} (h : Own w base A L) (hb : base' ≤ base) : Own w base' A L := by
  obtain ⟨h1, h2, h3⟩ := h
  refine ⟨h1, h2, ?_⟩
  rcases h3 with ⟨e, h3 | ⟨g, e2, h4, h5⟩⟩ | ⟨g, cur, e2, h4, h5, h6⟩
  · exact .inl ⟨e, .inl h3⟩
  · exact .inl ⟨e, .inr ⟨g, e2, Nat.le_trans hb h4, h5⟩⟩
  · exact .inr ⟨g, cur, e2, Nat.le_trans hb h4, h5, h6⟩
set_option maxHeartbeats 1000000 in
theorem clip_calls (A : Option Addr) (n c : Nat) (w : World) (h : n ≤ c) (hc : c ≤ 9223372036854775807) :
    Calls Tryd.prog 40 #[.slice A n c] w fun e w' => e = .returned (.slice A n n) ∧ w' = w := by
  go_enter Tryd.func40, Tryd.ntmps40
  go_wp2
  go_ret
  exact ⟨rfl, rfl⟩
set_option maxHeartbeats 400000 in
theorem row_calls (A : Option Addr) (c : Nat) (ls : List (List S43)) (w : World) (hr : Kd.C (Kd.slice 43 k43) w A ls.length ls) (hc : ls.length ≤ c) (hn : ls.length ≤ 1000000) (hs : sumL ls ≤ 5864062014804) :
    Calls Tryd.prog 27 #[.slice A ls.length c] w fun e w' => ∃ A' : Option Addr, e = .returned (.slice A' ls.flatten.length ls.flatten.length) ∧ Own w' w.heap.size A' ls.flatten ∧ Below w.heap.size w w' := by
  have CC := Aside0.mk (concat_calls A c ls w hr hc hn hs)
  have HS : Aside0 (ls.flatten.length ≤ 5864062014804) := ⟨hs⟩
  clear hr hs hc hn
  generalize ls.flatten = L at CC HS ⊢
  go_enter Tryd.func27, Tryd.ntmps27
  go_wp2_with fail
  refine CC.out.mono ?_
  rintro e w1 ⟨v, rfl, ho, hb⟩
  have HB := Aside0.mk hb
  obtain ⟨A1, c1, rfl, h1, h2⟩ := Kd.R_reads ho
  obtain ⟨_, _, h3⟩ := own_of_R ho HS.out
  have HO := Aside0.mk h3
  have hm : c1 ≤ 9223372036854775807 := by
    obtain ⟨_, inner, ⟨_, ho⟩, _⟩ := ho
    rcases ho with ⟨he, h0⟩ | ⟨g, cap, cur, he, hg, hh, hnc, hcm, hcs, ht⟩
    · injection he with e2 e3 e4; omega
    · injection he with e2 e3 e4; unfold maxLen at hcm; omega
  clear h2 h3 ho hb CC
  go_wp2_with fail
  refine (clip_calls A1 _ c1 w1 h1 hm).mono ?_
  rintro e w2 ⟨rfl, rfl⟩
  go_wp2
  go_ret
  exact ⟨_, rfl, HO.out, HB.out⟩
end Go.Proofs.YtepahimiakgieaaDoor.Q
