import Derived.Test.YtffldajbnhbkkaaDoorKv28
namespace Go.Proofs.YtffldajbnhbkkaaDoor.Q
open Go.RowKit Go.Proofs.YtffldajbnhbkkaaDoorW.PrintWords Go.Proofs.YtffldajbnhbkkaaDoorW.PrintLast Go.Proofs.YtffldajbnhbkkaaDoorW.PrintMore
set_option linter.unusedVariables false
set_option linter.unusedSimpArgs false
theorem info43 : (Tryd.prog.info? 43).map (fun i => (i.zero, i.size, i.bytes)) = some (some (.agg #[(.string ⟨#[]⟩), (.int .i64 0)]), 2, 24) := by kernel_rfl
def LeafPost (s : ByteArray) (l : List S31) (w : World) (e : Ending) (w' : World) : Prop := ∃ v0_ : Value, e = .returned (.tuple #[v0_, .int .i64 (leavesR s l).2]) ∧ Kd.R k43 43 w' w.heap.size (fun _ => True) v0_ (leavesR s l).1 ∧ Below w.heap.size w w'
/-- The world within Leaves: the box of what came in, the edges. -/
structure ES (W w : World) (gb : Nat) (s : ByteArray) (V v : Value) (E : List Int) : Prop where
  below : Below W.heap.size W w
  box : w.heap[gb]? = some (.cells #[.string s, V] 25 (0, 0))
  row : Kd.R (Kd.int .i64) 3 w W.heap.size (fun _ => True) v E
section
variable {W w w' : World} {gb : Nat} {s : ByteArray} {V v v' : Value} {E E' : List Int}
theorem ES.next (h : ES W w gb s V v E) (hb : Below w.heap.size w w') : ES W w' gb s V v E := ⟨below_step h.below hb, blk_below h.box hb, Kd.R_below h.row hb⟩
theorem ES.grown (h : ES W w gb s V v E) (hg : w.grownBy w' v.ownBlock) (hr : Kd.R (Kd.int .i64) 3 w' W.heap.size (fun _ => True) v' E') : ES W w' gb s V v' E' := by
  refine ⟨⟨hg.os.trans h.below.os, hg.tape.trans h.below.tape, hg.output.trans h.below.output, Nat.le_trans h.below.size hg.size, fun k hk => (hg.block k (Nat.lt_of_lt_of_le hk h.below.size) (fun e => ?_)).trans (h.below.block k hk)⟩, (hg.block gb (blk_lt h.box) (fun e => ?_)).trans h.box, hr⟩
  · have := (own_lt h.row e.symm).2; omega
  · obtain ⟨c', hc⟩ := Kd.R_typed h.row gb e.symm
    exact typ_ne h.box hc (by decide) rfl
theorem ES.other (h : ES W w gb s V v E) (hb : Below W.heap.size W w') (hg : ∀ (k : Nat) (c : Array Value) (ty : TypeId), ty ≠ 43 → w.heap[k]? = some (.cells c ty (0, 0)) → w'.heap[k]? = some (.cells c ty (0, 0))) : ES W w' gb s V v E :=
  ⟨hb, hg _ _ _ (by decide) h.box, R_typ h.row rfl (fun k hk ⟨c, hc⟩ => (hg _ _ _ (by decide) hc).trans hc.symm)⟩
end
theorem ES.at {W w : World} {gb g n cap : Nat} {s : ByteArray} {V : Value} {E : List Int} (h : ES W w gb s V (.slice (some ⟨g, 0, none⟩) n cap) E) (j : Nat) (hj : j < E.length) : w.cell? ⟨g, j, none⟩ = some (.int .i64 E[j]) := by
  obtain ⟨cur, hb, _⟩ := iblk h.row
  have h1 := (hb.holds j (by simpa using hj)).1
  rw [Nat.zero_add] at h1
  rw [h1]
  simp [hj]
/-- Between two edges. -/
structure Two (E : List Int) (s : ByteArray) (a b : Int) : Prop where
  a0 : 0 ≤ a
  ab : a ≤ b
  bs : b ≤ (s.size : Int)
theorem two_of {s : ByteArray} {l : List S31} (h : chkB s l = true) {E : List Int} (hE : E = edgesL s l) (j : Nat) (hj : j + 1 < E.length) : Two E s E[j] E[j + 1] := by
  subst hE
  have h1 := edges_in h _ (List.getElem_mem (show j < (edgesL s l).length by omega))
  have h2 := edges_in h _ (List.getElem_mem hj)
  exact ⟨h1.1, List.pairwise_iff_getElem.1 (edges_pair s l) j (j + 1) (by omega) hj (by omega), h2.2⟩
theorem R_new {α : Type} {d : Kd α} {e base : Nat} {w w' : World} {v : Value} {xs : List α} (h : d.R e w base (fun _ => True) v xs) (hE : d.E = []) (hb : Below w.heap.size w w') : d.R e w' base (fun k => k ≠ w.heap.size) v xs := by
  refine Kd.R_mono (Kd.R_far1 (Kd.R_below h hb) hE (g := w.heap.size) (fun e => ?_)) (fun k hk => hk.2)
  have := (own_lt h e.symm).1
  omega
theorem field_step (a b : Int) (l : List S31) (k : Nat) (h : k < l.length) (f : Int) : fieldGo a b (l.drop k) f = fieldGo a b (l.drop (k + 1)) (if l[k].f1 ≤ a then (if b ≤ l[k].f2 then l[k].f0 else f) else f) := by
  rw [List.drop_eq_getElem_cons h]; rfl
theorem field_put {a b : Int} {l : List S31} {k : Nat} {x : S31} {f r : Int} (h : fieldGo a b (l.drop (k + 1)) (if x.f1 ≤ a then (if b ≤ x.f2 then x.f0 else f) else f) = r) (h1 : x.f1 ≤ a) (h2 : b ≤ x.f2) : fieldGo a b (l.drop (k + 1)) x.f0 = r := by
  rw [if_pos h1, if_pos h2] at h; exact h
theorem field_skip {a b : Int} {l : List S31} {k : Nat} {x : S31} {f r : Int} (h : fieldGo a b (l.drop (k + 1)) (if x.f1 ≤ a then (if b ≤ x.f2 then x.f0 else f) else f) = r) (h1 : ¬ (x.f1 ≤ a ∧ b ≤ x.f2)) : fieldGo a b (l.drop (k + 1)) f = r := by
  by_cases c : x.f1 ≤ a
  · rw [if_pos c, if_neg (fun h2 => h1 ⟨c, h2⟩)] at h; exact h
  · rw [if_neg c] at h; exact h
theorem ES.set43 {W w : World} {gb gp : Nat} {s : ByteArray} {V v : Value} {E : List Int} {c : Array Value} (h : ES W w gb s V v E) (hp : w.heap[gp]? = some (.cells c 43 (0, 0))) (hg : W.heap.size ≤ gp) (u : Value) : ES W (w.setCell ⟨gp, 1, none⟩ u) gb s V v E :=
  h.other (below_set h.below hg) (fun k c' ty hty hk => blk_far hk (p := ⟨gp, 1, none⟩) (typ_ne hk hp hty) _)
theorem keep43 {base : Nat} {w w' : World} {v : Value} {xs : List S43} (h : Kd.R k43 43 w base (fun _ => True) v xs) (hg : w.grownBy w' v.ownBlock) (k : Nat) (c : Array Value) (ty : TypeId) (hty : ty ≠ 43) (hk : w.heap[k]? = some (.cells c ty (0, 0))) : w'.heap[k]? = some (.cells c ty (0, 0)) := by
  refine (hg.block k (blk_lt hk) (fun e => ?_)).trans hk
  obtain ⟨c', hc⟩ := Kd.R_typed h k e.symm
  exact typ_ne hk hc hty rfl
theorem two_C (W : World) (g : Nat) (a b : Int) (hv : W.heap[g]? = some (.cells #[.int .i64 a, .int .i64 b] 3 (0, 0))) : Kd.C (Kd.int .i64) W (some ⟨g, 0, none⟩) 2 [a, b] := by
  refine ⟨rfl, by omega, fun _ => ⟨⟨g, 0, none⟩, rfl, fun j y hy => ?_⟩⟩
  match j, hy with
  | 0, hy =>
    obtain rfl := Option.some.inj hy
    refine ⟨[.int .i64 a], rfl, rfl, fun i u hu => ?_⟩
    rw [add0, blk_cell hv]
    match i, hu with
    | 0, hu => exact hu
  | 1, hy =>
    obtain rfl := Option.some.inj hy
    refine ⟨[.int .i64 b], rfl, rfl, fun i u hu => ?_⟩
    rw [add0, blk_cell hv]
    match i, hu with
    | 0, hu => exact hu
theorem es_start (W w1 : World) (gb : Nat) (s : ByteArray) (V : Value) (a b : Int) (hb : Below W.heap.size W w1) (hx : w1.heap[gb]? = some (.cells #[.string s, V] 25 (0, 0))) :
    ES W (w1.alloc (.cells #[.int .i64 a, .int .i64 b] 3)) gb s V (.slice (some ⟨w1.heap.size, 0, none⟩) 2 2) [a, b] :=
  ⟨below_alloc hb _, blk_alloc hx _, R_ints (World.ownsRow_lit w1 #[.int .i64 a, .int .i64 b] 2 hb.size (by simp only [maxLen]; omega) rfl)⟩
set_option maxHeartbeats 40000000 in
set_option maxRecDepth 100000 in
theorem leaves_walk (s : ByteArray) (A : Option Addr) (c : Nat) (l : List S31) (W : World) (hG : Gd W) (hs : s.size < 1000000000) (hr : Kd.C k31 W A l.length l) (hc : l.length ≤ c) (hl : l.length < 100000000) :
    Calls Tryd.prog 18 #[.agg #[.string s, .slice A l.length c]] W (LeafPost s l W) := by
  have hu25 := Tryd.underlying25
  have hu31 := Tryd.underlying31
  have hbx := blk_new W (Obj.cells #[Value.string s, Value.slice A l.length c] 25)
  have hb1 := below_alloc (Below.refl W.heap.size W) (Obj.cells #[Value.string s, Value.slice A l.length c] 25)
  have CC := Aside0.mk (fun (w2 : World) (hW : Below W.heap.size W w2) => check_walk s A c l w2 (Gd.below hG hW) (by omega) (Kd.C_below hr hW) hc (by omega))
  have HR := Aside0.mk hr
  have HL := Aside0.mk hl
  have HSZ := Aside0.mk hs
  clear hG hs hr hc hl
  go_enter Tryd.func18, Tryd.ntmps18
  go_upto_region 1 with (fail)
  generalize W.alloc (Obj.cells #[Value.string s, Value.slice A l.length c] 25) = w1 at hbx hb1 ⊢
  generalize hgb : W.heap.size = gb at hbx ⊢
  have i0 : w1.cell? ⟨gb, 0, none⟩ = some (.string s) := (blk_cell hbx 0).trans rfl
  have i1 : w1.cell? ⟨gb, 1, none⟩ = some (.slice A l.length c) := (blk_cell hbx 1).trans rfl
  have HB1 := Aside0.mk hb1
  have HX1 := Aside0.mk hbx
  have HGB := Aside0.mk hgb
  clear hb1 hbx hgb
  cases hck : chkB s l with
  | false =>
    have HE : Aside0 (leavesR s l = ([], 170)) := ⟨by unfold leavesR; rw [hck]; rfl⟩
    unfold ChkPost at CC
    rw [hck] at CC
    go_wp2_with (go_at_call 15; refine (CC.out _ HB1.out).mono ?_; rintro e w2 ⟨rfl, hb⟩; have HB2 := Aside0.mk (below_step HB1.out hb); clear hb)
    go_ret2
    exact ⟨.slice none 0 0, by rw [HE.out]; rfl, by rw [HE.out]; exact Kd.R_nil _ _ _ _ _, HB2.out⟩
  | true =>
    have HE : Aside0 (leavesR s l = (leafGo s l (edgesL s l), 0)) := ⟨by unfold leavesR; rw [hck]; rfl⟩
    have HCK := Aside0.mk hck
    unfold ChkPost at CC
    rw [hck] at CC
    clear hck
    go_upto_region 3 with (go_at_call 15; refine (CC.out _ HB1.out).mono ?_; rintro e w2 ⟨rfl, hb⟩; have hx2 := blk_below HX1.out hb; have i0 : w2.cell? ⟨gb, 0, none⟩ = some (.string s) := (blk_cell hx2 0).trans rfl; have HX2 := Aside0.mk hx2; have HB2 := Aside0.mk (below_step HB1.out hb); clear hb hx2)
    go_upto_region 4 with (fail)
    have hes := es_start W w2 gb s (.slice A l.length c) 0 (s.size : Int) HB2.out HX2.out
    generalize w2.alloc (Obj.cells #[Value.int .i64 0, Value.int .i64 (s.size : Int)] 3) = w3 at hes ⊢
    generalize w2.heap.size = ge at hes ⊢
    have i1 : w3.cell? ⟨gb, 1, none⟩ = some (.slice A l.length c) := (blk_cell hes.box 1).trans rfl
    have HES := Aside0.mk hes
    clear hes
    go_upto_region 5 with (fail)
    go_loopw [4, 23] (fun v4 v23 wr => ∃ (i : Nat), v23 = .int .i64 i ∧ i ≤ l.length ∧ ES W wr gb s (.slice A l.length c) v4 ([0, (s.size : Int)] ++ flatL (l.take i))) (fun _ v23 _ => l.length - (Lib.intOf v23).toNat)
    case atStart => exact ⟨0, rfl, Nat.zero_le _, by rw [List.take_zero]; exact HES.out⟩
    case round =>
      obtain ⟨i, rfl, hi, hes⟩ := hrel
      by_cases hii : i < l.length
      · have hlt : (i : Int) < (l.length : Int) := Int.ofNat_lt.2 hii
        obtain ⟨ad, ea, c0, c1, c2⟩ := at_T31 HR.out (i : Int) (Int.natCast_nonneg i) hlt
        rw [rd31 l i hii, Int.toNat_natCast] at c0 c1 c2
        subst ea
        obtain ⟨x, hx⟩ : ∃ x, x = l[i] := ⟨_, rfl⟩
        rw [← hx] at c0 c1 c2
        replace c0 := (hes.below.cell (World.block_lt_of_cell? W _ c0)).trans c0
        replace c1 := (hes.below.cell (World.block_lt_of_cell? W _ c1)).trans c1
        replace c2 := (hes.below.cell (World.block_lt_of_cell? W _ c2)).trans c2
        have HFT : Aside0 (flatL (l.take (i + 1)) = flatL (l.take i) ++ [x.f1, x.f2]) := ⟨by rw [hx]; exact flat_take l i hii⟩
        have HWI := Aside0.mk (wrapIn hii (show l.length < 1000000000 by have := HL.out; omega))
        have HES2 := Aside0.mk hes
        have HII := Aside0.mk hii
        have HEL : Aside0 (([0, (s.size : Int)] ++ flatL (l.take i)).length ≤ 200000002) := ⟨by rw [List.length_append, flat_len, List.length_take]; have := HL.out; simp; omega⟩
        obtain ⟨B0, d0, eB⟩ := Kd.R_slice hes.row
        subst eB
        clear hes hii hi hx
        go_upto_region 7 with (fail)
        have he2 := HES2.out.next (below_alloc (Below.refl wr.heap.size wr) (Obj.cells #[Value.int .i64 x.f0, Value.int .i64 x.f1, Value.int .i64 x.f2] 31))
        have hx2 := blk_new wr (Obj.cells #[Value.int .i64 x.f0, Value.int .i64 x.f1, Value.int .i64 x.f2] 31)
        generalize wr.alloc (Obj.cells #[Value.int .i64 x.f0, Value.int .i64 x.f1, Value.int .i64 x.f2] 31) = w4 at he2 hx2 ⊢
        generalize wr.heap.size = gx at hx2 ⊢
        have k1 : w4.cell? ⟨gx, 1, none⟩ = some (.int .i64 x.f1) := (blk_cell hx2 1).trans rfl
        have k2 : w4.cell? ⟨gx, 2, none⟩ = some (.int .i64 x.f2) := (blk_cell hx2 2).trans rfl
        have HE4 := Aside0.mk he2
        clear he2 hx2 c0 c1 c2
        go_wp2_with (at_builtin; refine Kd.R_append_rows (Kd.int .i64) (Rr := (Kd.int .i64).K (w4.alloc (Obj.cells #[Value.int .i64 x.f1, Value.int .i64 x.f2] 3))) (w0 := W) W.heap.size rfl (.tmp 27) (.tmp 32) 48 3 (.int .i64 0) 8 rfl Tryd.underlying48 info3 rfl (by decide) (by omega) (.slice B0 ([0, (s.size : Int)] ++ flatL (l.take i)).length d0) ([0, (s.size : Int)] ++ flatL (l.take i)) [x.f1, x.f2] (some ⟨w4.heap.size, 0, none⟩) 2 2 (fun _ => True) (fun _ => False) rfl rfl ?aO ?aR (fun y cs h => h) (fun _ hk => hk.elim) (fun _ _ => trivial) ?aB ?aS ?aL ?_; (case aO => exact Kd.R_alloc HE4.out.row _); (case aR => exact two_C _ _ _ _ (blk_new w4 _)); (case aB => exact below_alloc HE4.out.below _); (case aS => exact (below_alloc HE4.out.below _).size); (case aL => have := HEL.out; omega); intro v5 w5 ho hb hg hat; have HE5 := Aside0.mk ((HE4.out.next (below_alloc (Below.refl _ _) _)).grown hg ho); clear ho hb hg hat)
        first
          | (go_roundw
             case rel => exact ⟨i + 1, by rw [HWI.out], HII.out, by rw [HFT.out]; exact HE5.out⟩
             case measure => rw [HWI.out]; exact Nat.sub_lt_sub_left HII.out (Nat.lt_succ_self i))
          | (refine ⟨⟨i + 1, by rw [HWI.out], HII.out, by rw [HFT.out]; exact HE5.out⟩, ?_⟩
             rw [HWI.out]; exact Nat.sub_lt_sub_left HII.out (Nat.lt_succ_self i))
      · have hlt : ¬ ((i : Int) < (l.length : Int)) := fun h => hii (Int.ofNat_lt.1 h)
        obtain ⟨E0, hE0⟩ : ∃ E0, E0 = [0, (s.size : Int)] ++ flatL l := ⟨_, rfl⟩
        rw [List.take_of_length_le (by omega), ← hE0] at hes
        have hEl : E0.length < 1000000000 := by rw [hE0, List.length_append, flat_len]; have := HL.out; simp; omega
        have hE2 : 2 ≤ E0.length := by rw [hE0, List.length_append]; simp
        obtain ⟨g, cap, eB, _⟩ := Kd.R_form hes.row (by omega)
        subst eB
        have hcp : E0.length ≤ cap := by
          obtain ⟨_, _, e', hle, _⟩ := Kd.R_reads hes.row
          injection e' with _ _ e'; rw [e']; exact hle
        have hsc := sort_c W.heap.size g cap E0 wr hes.row hEl
        have HE0 : Aside0 (edgesL s l = Lib.compact (sortI E0)) := ⟨by unfold edgesL; rw [hE0]⟩
        have HES2 := Aside0.mk hes
        have HEL := Aside0.mk hEl
        have HCP := Aside0.mk (⟨hE2, hcp⟩ : 2 ≤ E0.length ∧ E0.length ≤ cap)
        clear hes hi hii hE0 hEl hE2 hcp
        go_wp2_with fail
        go_at_call 39
        refine hsc.mono ?_
        rintro e w4 ⟨rfl, hr4, hg4⟩
        have he4 := HES2.out.grown hg4 hr4
        have hcc := compact_c W.heap.size g cap (sortI E0) w4 (by rw [sortI_len]; exact hr4) (by rw [sortI_len]; exact HEL.out)
        rw [sortI_len, ← HE0.out] at hcc
        have HE4 := Aside0.mk he4
        clear he4 hr4 hg4 hsc
        go_wp2_with fail
        go_at_call 40
        refine hcc.mono ?_
        rintro e w5 ⟨rfl, hr5, hg5⟩
        have HE5 := Aside0.mk (HE4.out.grown hg5 hr5)
        clear hr5 hg5 hcc
        have hcap1 : ¬ (1 = cap) := by have := HCP.out; omega
        have hcap2 : 1 ≤ cap := by have := HCP.out; omega
        have hep := edges_pos s l
        have hel := edges_le s l
        obtain ⟨E, hE⟩ : ∃ E, E = edgesL s l := ⟨_, rfl⟩
        rw [← hE] at hep hel HE5 ⊢
        have hep1 : 1 ≤ E.length := hep
        have HEP := Aside0.mk hep
        have HEL2 : Aside0 (E.length < 1000000000) := ⟨by have := HL.out; omega⟩
        have HEE := Aside0.mk hE
        clear hep hel hE
        go_upto_region 13 with (fail)
        go_loopw [7, 42] (fun v7 v42 wr => ∃ (j : Nat) (acc : List S43), v42 = .int .i64 j ∧ j + 1 ≤ E.length ∧ ES W wr gb s (.slice A l.length c) (.slice (some ⟨g, 0, none⟩) E.length cap) E ∧ Kd.R k43 43 wr W.heap.size (fun _ => True) v7 acc ∧ acc ++ leafGo s l (E.drop j) = leafGo s l E ∧ acc.length ≤ j) (fun _ v42 _ => E.length - (Lib.intOf v42).toNat)
        case atStart => exact ⟨0, [], rfl, HEP.out, HE5.out, Kd.R_nil _ _ _ _ _, by rw [List.drop_zero]; rfl, Nat.le_refl _⟩
        case round =>
          obtain ⟨j, acc, rfl, hj, hes, hr7, hgo, hacc⟩ := hrel
          by_cases hjj : j + 1 < E.length
          · have hs1 : (j : Int) < ((E.length - 1 : Nat) : Int) := by omega
            have hs2 : (j : Int) < (E.length : Int) - 1 := by omega
            have hs3 : (j : Int) < (E.length : Int) := by omega
            have hs4 : j < E.length - 1 := by omega
            have e1 := hes.at j (by omega)
            have e2 := hes.at (j + 1) hjj
            have e1a := fun (o : Obj) => (hes.next (below_alloc (Below.refl wr.heap.size wr) o)).at j (show j < E.length by omega)
            have i0a := fun (o : Obj) => (blk_cell (blk_alloc hes.box o) 0).trans (rfl : _ = some (Value.string s))
            have e3 : wr.cell? ⟨g, 1 + j, none⟩ = some (.int .i64 E[j + 1]) := by rw [Nat.add_comm]; exact e2
            have htw := two_of HCK.out HEE.out j hjj
            rw [leaf_step s l E j hjj] at hgo
            obtain ⟨a, hae⟩ : ∃ a, a = E[j] := ⟨_, rfl⟩
            obtain ⟨b, hbe⟩ : ∃ b, b = E[j + 1] := ⟨_, rfl⟩
            have HEJ : Aside0 (∀ h : j < E.length, E[j] = a) := ⟨fun _ => hae.symm⟩
            rw [← hae] at e1 hgo htw
            rw [← hbe] at e2 e3 hgo htw
            simp only [← hae] at e1a
            clear hae hbe
            obtain ⟨a0, ab, bs⟩ := htw
            have HES3 := Aside0.mk hes
            have HR7 := Aside0.mk hr7
            have HGO := Aside0.mk hgo
            have HAC := Aside0.mk hacc
            have HJJ := Aside0.mk hjj
            have HWI := Aside0.mk (wrapIn (show j < E.length by omega) HEL2.out)
            have i0 : wr.cell? ⟨gb, 0, none⟩ = some (.string s) := (blk_cell hes.box 0).trans rfl
            have i1 : wr.cell? ⟨gb, 1, none⟩ = some (.slice A l.length c) := (blk_cell hes.box 1).trans rfl
            clear hes hr7 hgo hacc hjj hj
            go_upto_region 15 with (fail)
            go_region
            have he6 := (HES3.out.next (below_alloc (Below.refl wr.heap.size wr) (Obj.cells #[Value.string (s.extract a.toNat b.toNat), Value.int .i64 0] 43))).next (below_drew1 (Below.refl _ _))
            have hp6 : (wr.alloc (Obj.cells #[Value.string (s.extract a.toNat b.toNat), Value.int .i64 0] 43)).drew.heap[wr.heap.size]? = some (.cells #[.string (s.extract a.toNat b.toNat), .int .i64 0] 43 (0, 0)) := blk_new wr _
            have hr6 := R_new HR7.out rfl (below_drew1 (below_alloc (Below.refl wr.heap.size wr) (Obj.cells #[Value.string (s.extract a.toNat b.toNat), Value.int .i64 0] 43)))
            have hbg : W.heap.size ≤ wr.heap.size := HES3.out.below.size
            generalize (wr.alloc (Obj.cells #[Value.string (s.extract a.toNat b.toNat), Value.int .i64 0] 43)).drew = w6 at he6 hp6 hr6 ⊢
            generalize wr.heap.size = gp at hp6 hr6 hbg ⊢
            have HE6 := Aside0.mk he6
            have HP6 := Aside0.mk hp6
            have HR6 := Aside0.mk hr6
            have HBG := Aside0.mk hbg
            have i1 : w6.cell? ⟨gb, 1, none⟩ = some (.slice A l.length c) := (blk_cell he6.box 1).trans rfl
            have hsb : s.extract a.toNat b.toNat = subS s a b := rfl
            rw [hsb] at HP6
            clear he6 hp6 hr6 hbg e1 e2 e3 e1a i0a i0 hs1 hs2 hs3 hs4 a0 ab bs hsb
            go_upto_region 17 with (fail)
            go_loopw [59] (fun v59 wr => ∃ (k : Nat) (f : Int), v59 = .int .i64 k ∧ k ≤ l.length ∧ ES W wr gb s (.slice A l.length c) (.slice (some ⟨g, 0, none⟩) E.length cap) E ∧ Kd.R k43 43 wr W.heap.size (fun k => k ≠ gp) u7 acc ∧ wr.heap[gp]? = some (.cells #[.string (subS s a b), .int .i64 f] 43 (0, 0)) ∧ fieldGo a b (l.drop k) f = fieldGo a b l 0) (fun v59 _ => l.length - (Lib.intOf v59).toNat)
            case atStart => exact ⟨0, 0, rfl, Nat.zero_le _, HE6.out, HR6.out, HP6.out, by rw [List.drop_zero]⟩
            case round =>
              obtain ⟨k, f, rfl, hk, hek, hrk, hpk, hfk⟩ := hrel
              by_cases hkk : k < l.length
              · have hlt : (k : Int) < (l.length : Int) := Int.ofNat_lt.2 hkk
                obtain ⟨adk, ea, c0, c1, c2⟩ := at_T31 HR.out (k : Int) (Int.natCast_nonneg k) hlt
                rw [rd31 l k hkk, Int.toNat_natCast] at c0 c1 c2
                subst ea
                rw [field_step a b l k hkk] at hfk
                obtain ⟨x, hx⟩ : ∃ x, x = l[k] := ⟨_, rfl⟩
                rw [← hx] at c0 c1 c2 hfk
                replace c0 := (hek.below.cell (World.block_lt_of_cell? W _ c0)).trans c0
                replace c1 := (hek.below.cell (World.block_lt_of_cell? W _ c1)).trans c1
                replace c2 := (hek.below.cell (World.block_lt_of_cell? W _ c2)).trans c2
                have HWK := Aside0.mk (wrapIn hkk (show l.length < 1000000000 by have := HL.out; omega))
                have HEK := Aside0.mk hek
                have HRK := Aside0.mk hrk
                have HPK := Aside0.mk hpk
                have HFK := Aside0.mk hfk
                have HKK := Aside0.mk hkk
                clear hek hrk hpk hfk hkk hk hx
                go_upto_region 19 with (fail)
                have he7 := HEK.out.next (below_alloc (Below.refl wr.heap.size wr) (Obj.cells #[Value.int .i64 x.f0, Value.int .i64 x.f1, Value.int .i64 x.f2] 31))
                have hp7 := blk_alloc HPK.out (Obj.cells #[Value.int .i64 x.f0, Value.int .i64 x.f1, Value.int .i64 x.f2] 31)
                have hr7 := Kd.R_alloc HRK.out (Obj.cells #[Value.int .i64 x.f0, Value.int .i64 x.f1, Value.int .i64 x.f2] 31)
                have hx7 := blk_new wr (Obj.cells #[Value.int .i64 x.f0, Value.int .i64 x.f1, Value.int .i64 x.f2] 31)
                generalize wr.alloc (Obj.cells #[Value.int .i64 x.f0, Value.int .i64 x.f1, Value.int .i64 x.f2] 31) = w7 at he7 hp7 hr7 hx7 ⊢
                generalize wr.heap.size = gx at hx7 ⊢
                have k0 : w7.cell? ⟨gx, 0, none⟩ = some (.int .i64 x.f0) := (blk_cell hx7 0).trans rfl
                have k1 : w7.cell? ⟨gx, 1, none⟩ = some (.int .i64 x.f1) := (blk_cell hx7 1).trans rfl
                have k2 : w7.cell? ⟨gx, 2, none⟩ = some (.int .i64 x.f2) := (blk_cell hx7 2).trans rfl
                have p1 : w7.cell? ⟨gp, 1, none⟩ = some (.int .i64 f) := (blk_cell hp7 1).trans rfl
                have p1f := blk_frozen hp7 1
                have hjE : j < E.length := by have := HJJ.out; omega
                have e1 := he7.at j hjE
                have hej : E[j] = a := HEJ.out hjE
                rw [hej] at e1
                have hjn : (j : Int) < (E.length : Int) := Int.ofNat_lt.2 hjE
                have HE7 := Aside0.mk he7
                have HP7 := Aside0.mk hp7
                have HR7k := Aside0.mk hr7
                clear he7 hp7 hr7 hx7 c0 c1 c2 hej hjE
                by_cases ha : x.f1 ≤ a
                · by_cases hb : b ≤ x.f2
                  · have HFP := Aside0.mk (field_put HFK.out ha hb)
                    go_wp2_with fail
                    go_quiet (fail)
                    go_wp2
                    go_roundw
                    case rel => exact ⟨k + 1, x.f0, by rw [HWK.out], HKK.out, (HE7.out.next (pw_below_drewN (Below.refl _ _) _)).set43 HP7.out HBG.out _, Kd.R_far (p := ⟨gp, 1, none⟩) (Kd.R_drewN HR7k.out _) (fun _ h => h) _, blk_put HP7.out 1 _ rfl, HFP.out⟩
                    case measure => rw [HWK.out]; exact Nat.sub_lt_sub_left HKK.out (Nat.lt_succ_self k)
                  · have HFP := Aside0.mk (field_skip HFK.out (fun h => hb h.2))
                    go_wp2_with fail
                    go_quiet (fail)
                    go_wp2
                    go_roundw
                    case rel => exact ⟨k + 1, f, by rw [HWK.out], HKK.out, HE7.out.next (pw_below_drewN (Below.refl _ _) _), Kd.R_drewN HR7k.out _, HP7.out, HFP.out⟩
                    case measure => rw [HWK.out]; exact Nat.sub_lt_sub_left HKK.out (Nat.lt_succ_self k)
                · have HFP := Aside0.mk (field_skip HFK.out (fun h => ha h.1))
                  have ha2 : decide (x.f1 ≤ a) = false := decide_eq_false ha
                  go_wp2_with fail
                  go_quiet (fail)
                  go_wp2
                  go_roundw
                  case rel => exact ⟨k + 1, f, by rw [HWK.out], HKK.out, HE7.out.next (pw_below_drewN (Below.refl _ _) _), Kd.R_drewN HR7k.out _, HP7.out, HFP.out⟩
                  case measure => rw [HWK.out]; exact Nat.sub_lt_sub_left HKK.out (Nat.lt_succ_self k)
              · have hlt : ¬ ((k : Int) < (l.length : Int)) := fun h => hkk (Int.ofNat_lt.1 h)
                have hff : fieldGo a b l 0 = f := by rw [← hfk, List.drop_of_length_le (by omega)]; rfl
                have p0 : wr.cell? ⟨gp, 0, none⟩ = some (.string (subS s a b)) := (blk_cell hpk 0).trans rfl
                have p1 : wr.cell? ⟨gp, 1, none⟩ = some (.int .i64 f) := (blk_cell hpk 1).trans rfl
                obtain ⟨A7, c7, e7⟩ := Kd.R_slice hrk
                subst e7
                have HEK := Aside0.mk hek
                have HRK := Aside0.mk (Kd.R_mono hrk (fun _ _ => trivial) : Kd.R k43 43 wr W.heap.size (fun _ => True) _ acc)
                have HFF := Aside0.mk hff
                clear hek hrk hpk hfk hkk hk hff
                go_wp2_with (at_builtin; refine Kd.R_append k43 (w0 := W) W.heap.size rfl (.tmp 80) (.tmp 82) 22 43 (.agg #[(.string ⟨#[]⟩), (.int .i64 0)]) 24 rfl Tryd.underlying22 info43 rfl (by decide) (by omega) (.slice A7 acc.length c7) acc ⟨subS s a b, f⟩ [.string (subS s a b), .int .i64 f] (fun _ => True) (fun _ => False) rfl rfl ?aP (fun _ hk => hk.elim) (fun _ _ => trivial) ?aO ?aB ?aS ?aL ?_; (case aP => exact k43_mkM _ _ _ _); (case aB => exact HEK.out.below); (case aO => exact HRK.out); (case aS => exact HEK.out.below.size); (case aL => have := HAC.out; have := HJJ.out; have := HEL2.out; omega); intro v8 w8 ho hb hg hat; have HR8 := Aside0.mk ho; have HE8 := Aside0.mk (HEK.out.other hb (keep43 HRK.out hg)); clear ho hb hg hat)
                go_roundw
                case rel => exact ⟨j + 1, acc ++ [⟨subS s a b, f⟩], by rw [HWI.out], HJJ.out, HE8.out, HR8.out, by rw [List.append_assoc, ← HGO.out, HFF.out]; rfl, by rw [List.length_append]; exact Nat.succ_le_succ HAC.out⟩
                case measure => rw [HWI.out]; exact Nat.sub_lt_sub_left (Nat.lt_of_succ_lt HJJ.out) (Nat.lt_succ_self j)
          · have hs1 : ¬ ((j : Int) < ((E.length - 1 : Nat) : Int)) := by omega
            have hs4 : ¬ (j < E.length - 1) := by omega
            have hfin : acc = leafGo s l E := by rw [← hgo, leaf_done s l E j (by omega), List.append_nil]
            have HFIN := Aside0.mk hfin
            have HES3 := Aside0.mk hes
            have HR7 := Aside0.mk hr7
            clear hes hr7 hgo hacc hjj hj hfin
            go_wp2
            go_ret2
            exact ⟨u7, by rw [HE.out]; rfl, by rw [HE.out, ← HEE.out, ← HFIN.out]; exact HR7.out, HES3.out.below⟩
end Go.Proofs.YtffldajbnhbkkaaDoor.Q
