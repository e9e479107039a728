import Derived.Test.YtefejkhcbelahaaDoorKa7
namespace Go.Proofs.YtefejkhcbelahaaDoor.Q
open Go.RowKit Go.Proofs.YtefejkhcbelahaaDoorW.PrintWords Go.Proofs.YtefejkhcbelahaaDoorW.PrintLast Go.Proofs.YtefejkhcbelahaaDoorW.PrintMore
set_option linter.unusedVariables false
set_option linter.unusedSimpArgs false
theorem gb_below {w w1 w2 : World} {row : Option Nat} (h : w.grownBy w1 row) (hb : Below w1.heap.size w1 w2) : w.grownBy w2 row := ⟨hb.os.trans h.os, hb.tape.trans h.tape, hb.output.trans h.output, Nat.le_trans h.size hb.size, fun i hi hr => (hb.block i (Nat.lt_of_lt_of_le hi h.size)).trans (h.block i hi hr)⟩
theorem gb_set {w w1 : World} {g : Nat} (h : w.grownBy w1 (some g)) (j : Nat) (u : Value) : w.grownBy (w1.setCell ⟨g, j, none⟩ u) (some g) := ⟨h.os, h.tape, h.output, by simp [World.setCell]; exact h.size, fun i hi hr => (Below.heap_setCell w1 ⟨g, j, none⟩ u i (fun e => hr (by rw [e]))).trans (h.block i hi hr)⟩
theorem gb_cells {w w1 : World} {g : Nat} (h : w.grownBy w1 (some g)) (j : Nat) (vs : List Value) : w.grownBy (w1.setCells g j vs) (some g) := by
  obtain ⟨h1, h2, h3, h4⟩ := setCells_same g vs j w1
  exact ⟨h1.trans h.os, h2.trans h.tape, h3.trans h.output, by rw [h4]; exact h.size, fun i hi hr => (setCells_far vs j i (fun e => hr (by rw [e]))).trans (h.block i hi hr)⟩
theorem zero34 (w : World) : (zeroValue 34).run Tryd.prog w = .ok (.agg #[.string ⟨#[]⟩, .int .i64 0]) w := by
  obtain ⟨i, hi, hz, _⟩ := info_parts info34
  simp [zeroValue, typeInfo, hi, hz]
def zc (n : Nat) : List Value := (Builtin.zeroCells #[.string ⟨#[]⟩, .int .i64 0] n).toList
theorem zc_len (n : Nat) : (zc n).length = n * 2 := by unfold zc; rw [Array.length_toList, size_zeroCells]; rfl
theorem zc_one (n : Nat) : ∀ v ∈ zc n, v.oneCell' = true := by
  intro v hv
  unfold zc Builtin.zeroCells at hv
  rw [Array.toList_map, List.mem_map] at hv
  obtain ⟨i, _, rfl⟩ := hv
  have h : i % 2 = 0 ∨ i % 2 = 1 := by omega
  show ((#[Value.string ⟨#[]⟩, Value.int .i64 0] : Array Value)[i % 2]!).oneCell' = true
  rcases h with h | h <;> rw [h] <;> rfl
theorem run_clear2 (w : World) (g o n c : Nat) (hn : 0 < n) (hc : ∀ j, j < n * 2 → (w.cell? ⟨g, o + j, none⟩).isSome = true) (hf : ∀ j, j < n * 2 → w.frozen? ⟨g, o + j, none⟩ = false) :
    ∀ ty, (Builtin.clear_ #[29] ty #[.slice (some ⟨g, o, none⟩) n c]).run Tryd.prog w = .ok (.tuple #[]) (w.setCells g o (zc n)) := by
  intro ty
  have hst := run_storeCells_cells (P := Tryd.prog) g o (zc n) 0 w (by rw [zc_len]; simpa using hc) (by rw [zc_len]; simpa using hf) (zc_one n)
  simp only [Nat.add_zero] at hst
  obtain ⟨m, rfl⟩ : ∃ m, n = m + 1 := ⟨n - 1, by omega⟩
  unfold zc at hst ⊢
  simp [Builtin.clear_, run_underlying Tryd.underlying29, zero34, Value.cells, hst]
theorem C_block {α : Type} {d : Kd α} {w : World} {g t : Nat} {cells : Array Value} {ps : List α} (hb : w.heap[g]? = some (.cells cells t (0, 0))) (hm : ps.length ≤ 9223372036854775807)
    (h : ∀ j p, ps[j]? = some p → ∃ c, c.length = d.sz ∧ d.K w p c ∧ ∀ i u, c[i]? = some u → cells[j * d.sz + i]? = some u) : d.C w (some ⟨g, 0, none⟩) ps.length ps := by
  refine ⟨rfl, hm, fun _ => ⟨⟨g, 0, none⟩, rfl, fun j p hj => ?_⟩⟩
  obtain ⟨c, h1, h2, h3⟩ := h j p hj
  refine ⟨c, h1, h2, fun i u hu => ?_⟩
  have := h3 i u hu
  rw [Addr.add_lit, Nat.zero_add, blk_cell hb]
  exact this
theorem C_of_cells {w : World} {g : Nat} {cur : Array Value} {l : List S34} (hb : w.heap[g]? = some (.cells cur 34 (0, 0))) (hm : l.length ≤ 9223372036854775807) (hc : ∀ m p, l[m]? = some p → CellsAt cur m p) : Kd.C k34 w (some ⟨g, 0, none⟩) l.length l := by
  refine C_block hb hm (fun j p hj => ?_)
  obtain ⟨h0, h1⟩ := hc j p hj
  refine ⟨[.string p.f0, .int .i64 p.f1], rfl, k34_mk w p, fun i u hu => ?_⟩
  match i, hu with
  | 0, hu => obtain rfl : Value.string p.f0 = u := by simpa using hu
             exact h0
  | 1, hu => obtain rfl : Value.int .i64 p.f1 = u := by simpa using hu
             exact h1
theorem cells_other {cur : Array Value} {m i : Nat} {p : S34} (h : CellsAt cur m p) (hne : m ≠ i) (a b : Value) : CellsAt ((cur.setIfInBounds (i * 2) a).setIfInBounds (i * 2 + 1) b) m p := by
  obtain ⟨h0, h1⟩ := h
  constructor
  · rw [Array.getElem?_setIfInBounds_ne (by omega), Array.getElem?_setIfInBounds_ne (by omega)]; exact h0
  · rw [Array.getElem?_setIfInBounds_ne (by omega), Array.getElem?_setIfInBounds_ne (by omega)]; exact h1
theorem cells_here {cur : Array Value} {i : Nat} (p : S34) (h : i * 2 + 1 < cur.size) : CellsAt ((cur.setIfInBounds (i * 2) (.string p.f0)).setIfInBounds (i * 2 + 1) (.int .i64 p.f1)) i p := by
  constructor
  · rw [Array.getElem?_setIfInBounds_ne (by omega), Array.getElem?_setIfInBounds_self_of_lt (by omega)]
  · rw [Array.getElem?_setIfInBounds_self_of_lt (by simpa using h)]
theorem full_step (l : List S34) (j : Nat) (h : j < l.length) : fullL (l.take (j + 1)) = fullL (l.take j) ++ (if emB l[j] = true then [] else [l[j]]) := by
  unfold fullL
  rw [List.take_succ_eq_append_getElem h, List.filter_append]
  congr 1
  cases e : emB l[j] <;> simp [List.filter, e]
set_option maxHeartbeats 4000000 in
set_option maxRecDepth 100000 in
theorem delete_calls (g c : Nat) (l : List S34) (w : World) (cur : Array Value) (hh : w.heap[g]? = some (.cells cur 34 (0, 0))) (hn : l.length ≤ c) (hcm : c ≤ maxLen) (hcs : cur.size = c * 2) (hc : ∀ m p, l[m]? = some p → CellsAt cur m p) :
    Calls Tryd.prog 39 #[.slice (some ⟨g, 0, none⟩) l.length c, .func (.func 40) #[] #[]] w fun e w' => e = .returned (.slice (some ⟨g, 0, none⟩) (fullL l).length c) ∧ w.grownBy w' (some g) ∧
      ∃ cur', w'.heap[g]? = some (.cells cur' 34 (0, 0)) ∧ cur'.size = c * 2 ∧ ∀ m p, (fullL l)[m]? = some p → CellsAt cur' m p := by
  have hm : l.length ≤ 9223372036854775807 := by unfold maxLen at hcm; omega
  have HC := Aside0.mk (C_of_cells hh hm hc)
  have HH := Aside0.mk hh
  have HCM := Aside0.mk hcm
  have HCS := Aside0.mk hcs
  have HX := Aside0.mk hc
  have hu := Tryd.underlying34
  clear hh hcm hcs hc
  go_enter Tryd.func39, Tryd.ntmps39
  go_wp2_with fail
  refine (cidx _ c l w HC.out).mono ?_
  rintro e w1 ⟨rfl, hb⟩
  have HB := Aside0.mk hb
  have HG : Aside0 (w.grownBy w1 (some g)) := ⟨hb.os, hb.tape, hb.output, hb.size, fun i hi _ => hb.block i hi⟩
  clear hb
  by_cases hi : l.findIdx emB < l.length
  · obtain ⟨i0, hi0⟩ : ∃ i0, l.findIdx emB = i0 := ⟨_, rfl⟩
    rw [hi0] at hi
    have ec : cat l = (i0 : Int) := by unfold cat; rw [hi0, if_pos hi]
    have hf := (List.findIdx_eq hi).1 hi0
    have EK : Aside0 (fullL (l.take (i0 + 1)) = l.take i0) := ⟨by
      rw [full_step l i0 hi, if_pos hf.1, List.append_nil]
      unfold fullL
      rw [List.filter_eq_self]
      intro x hx
      obtain ⟨j, hj, rfl⟩ := List.getElem_of_mem hx
      rw [List.length_take] at hj
      rw [List.getElem_take, hf.2 j (by omega)]; rfl⟩
    rw [ec]
    have q0 : ((i0 : Int) == -1) = false := beq_eq_false_iff_ne.2 (by omega)
    clear ec hf hi0
    have hw1 : IntKind.i64.wrap ((i0 : Int) + 1) = ((i0 + 1 : Nat) : Int) := by rw [i64_w]; unfold wrap64; omega
    go_wp2_with fail
    go_loopw [5, 6] (fun v5 v6 wr => ∃ i j : Nat, v5 = .int .i64 (i : Int) ∧ v6 = .int .i64 (j : Int) ∧ i < j ∧ j ≤ l.length ∧ Aside0 (i = (fullL (l.take j)).length) ∧ Aside0 (w.grownBy wr (some g)) ∧
      Aside0 (∃ cur', wr.heap[g]? = some (.cells cur' 34 (0, 0)) ∧ cur'.size = c * 2 ∧ (∀ m p, (fullL (l.take j))[m]? = some p → CellsAt cur' m p) ∧ (∀ m p, j ≤ m → l[m]? = some p → CellsAt cur' m p))) (fun _ v6 _ => l.length - (intOf v6).toNat)
    case atStart => exact ⟨i0, i0 + 1, rfl, by go_num, by omega, hi, ⟨by rw [EK.out, List.length_take]; omega⟩, HG, ⟨⟨cur, blk_below HH.out HB.out, HCS.out, by
      rw [EK.out]
      intro m p hp
      rw [List.getElem?_take] at hp
      split at hp
      · exact HX.out m p hp
      · exact absurd hp (by simp), fun m p _ hp => HX.out m p hp⟩⟩⟩
    case round =>
      clear HB HG q0 hw1 EK
      obtain ⟨i, j, rfl, rfl, hij, hjn, HI, HG, HS⟩ := hrel
      by_cases hlt : j < l.length
      · obtain ⟨cur', hg, hs, hk, ht⟩ := HS.out
        obtain ⟨x, hx⟩ : ∃ x, l[j] = x := ⟨_, rfl⟩
        have hjx : l[j]? = some x := by rw [← hx]; exact List.getElem?_eq_getElem hlt
        have hxx := ht j x (Nat.le_refl _) hjx
        have hx0 : wr.cell? ⟨g, j * 2, none⟩ = some (.string x.f0) := (blk_cell hg _).trans hxx.1
        have hx1 : wr.cell? ⟨g, j * 2 + 1, none⟩ = some (.int .i64 x.f1) := (blk_cell hg _).trans hxx.2
        have HJX := Aside0.mk hx
        have FS := Aside0.mk (full_step l j hlt)
        rw [hx] at FS
        have hgl : g < wr.heap.size := blk_lt hg
        clear hg hs hk ht hx hjx hxx
        go_wp2_with fail
        refine (em_calls x _).mono ?_
        rintro e w2 ⟨rfl, hb⟩
        have hv0 : w2.cell? ⟨wr.heap.size, 0, none⟩ = some (.string x.f0) := (blk_cell (blk_below (blk_new _ _) hb) 0).trans rfl
        have hv1 : w2.cell? ⟨wr.heap.size, 1, none⟩ = some (.int .i64 x.f1) := (blk_cell (blk_below (blk_new _ _) hb) 1).trans rfl
        have HG2 := Aside0.mk (gb_below (gb_below HG.out (below_alloc (Below.refl _ _) _)) hb)
        have HS2 : Aside0 (∃ cur', w2.heap[g]? = some (.cells cur' 34 (0, 0)) ∧ cur'.size = c * 2 ∧ (∀ m p, (fullL (l.take j))[m]? = some p → CellsAt cur' m p) ∧ (∀ m p, j ≤ m → l[m]? = some p → CellsAt cur' m p)) := ⟨by
          obtain ⟨cur', hg, h2⟩ := HS.out
          exact ⟨cur', blk_below (blk_alloc hg _) hb, h2⟩⟩
        have hwj : IntKind.i64.wrap ((j : Int) + 1) = ((j + 1 : Nat) : Int) := by rw [i64_w]; unfold wrap64; omega
        have hwi : IntKind.i64.wrap ((i : Int) + 1) = ((i + 1 : Nat) : Int) := by rw [i64_w]; unfold wrap64; omega
        clear hb HG HS hx0 hx1
        cases he : emB x with
        | true =>
          have F2 : Aside0 (fullL (l.take (j + 1)) = fullL (l.take j)) := ⟨by rw [FS.out, if_pos he, List.append_nil]⟩
          clear he FS HJX
          go_wp2
          go_roundw
          case rel => exact ⟨i, j + 1, rfl, by go_num, by omega, hlt, ⟨by rw [F2.out]; exact HI.out⟩, HG2, ⟨by
            obtain ⟨cur', hg, hs, hk, ht⟩ := HS2.out
            rw [F2.out]
            exact ⟨cur', hg, hs, hk, fun m p hm hp => ht m p (by omega) hp⟩⟩⟩
          case measure => simp [intOf]; omega
        | false =>
          have F2 : Aside0 (fullL (l.take (j + 1)) = fullL (l.take j) ++ [x]) := ⟨by rw [FS.out, if_neg (by rw [he]; decide)]⟩
          obtain ⟨y0, y1, hy0, hy1, hf0, hf1⟩ : ∃ y0 y1, w2.cell? ⟨g, i * 2, none⟩ = some y0 ∧ w2.cell? ⟨g, i * 2 + 1, none⟩ = some y1 ∧ w2.frozen? ⟨g, i * 2, none⟩ = false ∧ w2.frozen? ⟨g, i * 2 + 1, none⟩ = false := by
            obtain ⟨cur', hg, hs, hk, ht⟩ := HS2.out
            exact ⟨cur'[i * 2], cur'[i * 2 + 1], (blk_cell hg _).trans (Array.getElem?_eq_getElem (by omega)), (blk_cell hg _).trans (Array.getElem?_eq_getElem (by omega)), blk_frozen hg _, blk_frozen hg _⟩
          have p0 := eq_true (show (i : Int) < (l.length : Int) from by omega)
          have p1 := eq_true (show i < l.length from by omega)
          clear he FS HJX
          go_wp2
          go_roundw
          case rel => exact ⟨i + 1, j + 1, by go_num, by go_num, by omega, hlt, ⟨by rw [F2.out, List.length_append]; have := HI.out; simp only [List.length_singleton]; omega⟩, ⟨gb_set (gb_set HG2.out _ _) _ _⟩, ⟨by
            obtain ⟨cur', hg, hs, hk, ht⟩ := HS2.out
            rw [F2.out]
            refine ⟨_, blk_set (blk_set hg _ _) _ _, by simpa using hs, fun m p hp => ?_, fun m p hm hp => cells_other (ht m p (by omega) hp) (by omega) _ _⟩
            have hI := HI.out
            rcases Nat.lt_or_ge m (fullL (l.take j)).length with h1 | h1
            · rw [List.getElem?_append_left h1] at hp
              exact cells_other (hk m p hp) (by omega) _ _
            · rw [List.getElem?_append_right h1] at hp
              have hm : m = i := by
                have := (List.getElem?_eq_some_iff.1 hp).1
                simp at this
                omega
              subst hm
              obtain rfl : x = p := by rw [← hI, Nat.sub_self] at hp; simpa using hp
              exact cells_here x (by omega)⟩⟩
          case measure => simp [intOf]; omega
      · obtain rfl : j = l.length := by omega
        have HT : Aside0 (fullL (l.take l.length) = fullL l) := ⟨by rw [List.take_length]⟩
        have hcl : ∀ ty, (Builtin.clear_ #[29] ty #[.slice (some ⟨g, i * 2, none⟩) (l.length - i) (c - i)]).run Tryd.prog wr = .ok (.tuple #[]) (wr.setCells g (i * 2) (zc (l.length - i))) := by
          obtain ⟨cur', hg, hs, hk, ht⟩ := HS.out
          exact run_clear2 wr g (i * 2) _ _ (by omega) (fun t ht => by rw [blk_cell hg, Array.getElem?_eq_getElem (by omega)]; rfl) (fun t ht => blk_frozen hg _)
        obtain ⟨i34, hi34, _, hsz34, _⟩ := info_parts info34
        have hct := cut_from (P := Tryd.prog) 29 34 .i64 Tryd.underlying29 hi34 2 hsz34 (some ⟨g, 0, none⟩) l.length c (i : Int) (by omega) (by omega)
        have hne : ¬ c = (i : Int).toNat := by omega
        rw [if_neg hne] at hct
        simp only [Option.map_some, Int.toNat_natCast, Addr.add_lit, Nat.zero_add] at hct
        have hcu := cut_to (P := Tryd.prog) 29 34 .i64 Tryd.underlying29 hi34 (some ⟨g, 0, none⟩) l.length c (i : Int) (by omega) (by omega) hn
        simp only [Int.toNat_natCast] at hcu
        have p0 := eq_true (show (i : Int) ≤ (l.length : Int) from by omega)
        clear hi34 hsz34 hne hlt
        go_wp2
        go_ret
        refine ⟨?_, gb_cells HG.out _ _, ?_⟩
        · have hI := HI.out
          rw [HT.out] at hI
          rw [← hI]; rfl
        · obtain ⟨cur', hg, hs, hk, ht⟩ := HS.out
          obtain ⟨cur2, h1, h2, h3⟩ := setCells_row (zc (l.length - i)) (i * 2) wr cur' hg (by rw [zc_len]; omega)
          refine ⟨cur2, h1, by rw [h2]; exact hs, fun m p hp => ?_⟩
          have hI := HI.out
          rw [HT.out] at hI hk
          have hm : m < i := by have := (List.getElem?_eq_some_iff.1 hp).1; omega
          obtain ⟨a0, a1⟩ := hk m p hp
          have hsz : cur'.toList.length = cur'.size := Array.length_toList
          constructor
          · rw [← Array.getElem?_toList, h3, List.append_assoc, List.getElem?_append_left (by rw [List.length_take]; omega), List.getElem?_take, if_pos (by omega), Array.getElem?_toList]; exact a0
          · rw [← Array.getElem?_toList, h3, List.append_assoc, List.getElem?_append_left (by rw [List.length_take]; omega), List.getElem?_take, if_pos (by omega), Array.getElem?_toList]; exact a1
  · have ec : cat l = -1 := by unfold cat; rw [if_neg hi]
    have ef : fullL l = l := by
      unfold fullL
      rw [List.filter_eq_self]
      intro x hx
      have := List.findIdx_eq_length.1 (Nat.le_antisymm List.findIdx_le_length (Nat.le_of_not_lt hi)) x hx
      rw [this]; rfl
    have EF := Aside0.mk ef
    rw [ec]
    clear ef ec hi
    go_wp2
    go_ret
    exact ⟨by rw [EF.out]; rfl, HG.out, cur, blk_below HH.out HB.out, HCS.out, by rw [EF.out]; exact HX.out⟩
set_option maxHeartbeats 4000000 in
theorem delete_nil (w : World) : Calls Tryd.prog 39 #[.slice none 0 0, .func (.func 40) #[] #[]] w fun e w' => e = .returned (.slice none 0 0) ∧ Below w.heap.size w w' := by
  have HC : Aside0 (Kd.C k34 w none ([] : List S34).length []) := ⟨⟨rfl, Nat.zero_le _, fun h => absurd h (Nat.lt_irrefl _)⟩⟩
  go_enter Tryd.func39, Tryd.ntmps39
  go_wp2_with fail
  refine (cidx none 0 [] w HC.out).mono ?_
  rintro e w1 ⟨rfl, hb⟩
  have HB := Aside0.mk hb
  have ec : cat [] = -1 := rfl
  rw [ec]
  clear hb ec
  go_wp2
  go_ret
  exact ⟨rfl, HB.out⟩
/-- 'full' of a row of one's own: it is cut down where it lies; all else stays. -/
theorem full_own {base : Nat} {ok : Nat → Prop} {v : Value} {y : List S34} {w : World} (HO : Kd.R k34 34 w base ok v y) :
    Calls Tryd.prog 24 #[v] w fun e w' => ∃ v', e = .returned v' ∧ Kd.R k34 34 w' base ok v' (fullL y) ∧ w.grownBy w' v.ownBlock ∧ v'.ownBlock = v.ownBlock := by
  rcases own34 HO with ⟨rfl, rfl⟩ | ⟨g, cap, cur, rfl, hg, hok, hh, hnc, hcm, hcs, hc⟩
  · go_enter Tryd.func24, Tryd.ntmps24
    go_wp2_with fail
    refine (delete_nil _).mono ?_
    rintro e w1 ⟨rfl, hb⟩
    have HB := Aside0.mk hb
    clear hb
    go_wp2
    go_ret
    exact ⟨_, rfl, Kd.R_nil _ _ _ _ _, ⟨HB.out.os, HB.out.tape, HB.out.output, HB.out.size, fun i hi _ => HB.out.block i hi⟩, rfl⟩
  · have HC := Aside0.mk hc
    have HD := delete_calls g cap y w cur hh hnc hcm hcs hc
    have HH := Aside0.mk HD
    have HG := Aside0.mk hg
    have HK := Aside0.mk hok
    clear HD HO hc hh hcs hg hok
    go_enter Tryd.func24, Tryd.ntmps24
    go_wp2_with fail
    refine HH.out.mono ?_
    rintro e w1 ⟨rfl, hgb, cur', h1, h2, h3⟩
    have HE : Aside0 (Kd.R k34 34 w1 base ok (.slice (some ⟨g, 0, none⟩) (fullL y).length cap) (fullL y)) := ⟨pack34 HG.out HK.out h1 (Nat.le_trans (List.length_filter_le _ _) hnc) hcm h2 h3⟩
    have HF := Aside0.mk hgb
    clear h1 h2 h3 hgb HH HC
    go_wp2
    go_ret
    exact ⟨_, rfl, HE.out, HF.out, rfl⟩
end Go.Proofs.YtefejkhcbelahaaDoor.Q
