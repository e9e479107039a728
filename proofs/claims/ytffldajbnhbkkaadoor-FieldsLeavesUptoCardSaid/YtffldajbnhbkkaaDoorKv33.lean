import Derived.Test.YtffldajbnhbkkaaDoorKv32
namespace Go.Proofs.YtffldajbnhbkkaaDoor.Q
open Go.RowKit Go.Proofs.YtffldajbnhbkkaaDoorW.PrintWords Go.Proofs.YtffldajbnhbkkaaDoorW.PrintLast Go.Proofs.YtffldajbnhbkkaaDoorW.PrintMore
set_option linter.unusedVariables false
set_option linter.unusedSimpArgs false
/-- What Insert leaves. -/
def InsPost (base : Nat) (v : Value) (r : List S31) (W : World) (e : Ending) (w' : World) : Prop := ∃ v', e = .returned v' ∧ Kd.R k31 31 w' base (fun _ => True) v' r ∧ W.grownBy w' v.ownBlock
theorem one_C (W : World) (gv : Nat) (x : S31) (hv : W.heap[gv]? = some (.cells #[.int .i64 x.f0, .int .i64 x.f1, .int .i64 x.f2] 31 (0, 0))) : Kd.C k31 W (some ⟨gv, 0, none⟩) 1 [x] := by
  refine ⟨rfl, by omega, fun _ => ⟨⟨gv, 0, none⟩, rfl, fun j y hy => ?_⟩⟩
  obtain ⟨hj, rfl⟩ := List.getElem?_eq_some_iff.1 hy
  obtain rfl : j = 0 := by simp at hj; exact hj
  refine ⟨[.int .i64 x.f0, .int .i64 x.f1, .int .i64 x.f2], rfl, k31_mk W _, fun i u hu => ?_⟩
  rw [add0, blk_cell hv]
  match i, hu with
  | 0, hu => exact hu
  | 1, hu => exact hu
  | 2, hu => exact hu
set_option maxHeartbeats 8000000 in
set_option maxRecDepth 100000 in
/-- At the end. -/
theorem insert_end (base gv : Nat) (v : Value) (l : List S31) (x : S31) (W : World) (hr : Kd.R k31 31 W base (fun _ => True) v l) (hv : W.heap[gv]? = some (.cells #[.int .i64 x.f0, .int .i64 x.f1, .int .i64 x.f2] 31 (0, 0))) (hb : base ≤ W.heap.size) (hl : l.length < 1000000000) :
    Calls Tryd.prog 33 #[v, .int .i64 l.length, .slice (some ⟨gv, 0, none⟩) 1 1] W (InsPost base v (l ++ [x]) W) := by
  have hu31 := Tryd.underlying31
  have hu23 := Tryd.underlying23
  obtain ⟨A, c, e, hle, hC⟩ := Kd.R_reads hr
  subst e
  rcases Nat.lt_or_eq_of_le hle with hlc | hlc
  · have HR := Aside0.mk hr
    have H1 := Aside0.mk (one_C W gv x hv)
    have HL := Aside0.mk hl
    have HB := Aside0.mk hb
    have hne : ¬ (l.length = c) := Nat.ne_of_lt hlc
    clear hr hv hl hb hC
    go_enter Tryd.func33, Tryd.ntmps33
    go_wp2_with (at_builtin; refine Kd.R_append_rows k31 (Rr := k31.K W) (w0 := W) base rfl (.tmp 23) (.tmp 24) 23 31 (.agg #[.int .i64 0, .int .i64 0, .int .i64 0]) 24 rfl Tryd.underlying23 info31 rfl (by decide) (by omega) (.slice A l.length c) l [x] (some ⟨gv, 0, none⟩) 1 1 (fun _ => True) (fun _ => False) rfl rfl ?aO ?aR (fun x cs h => KM31 x cs h) (fun _ hk => hk.elim) (fun _ _ => trivial) ?aB ?aS ?aL ?_; (case aO => exact HR.out); (case aR => exact H1.out); (case aB => exact Below.refl _ _); (case aS => exact HB.out); (case aL => have := HL.out; omega); intro v1 w1 ho hb hg hat)
    go_ret
    exact ⟨v1, rfl, ho, hg⟩
  · subst hlc
    have HR := Aside0.mk hr
    have H1 := Aside0.mk (one_C W gv x hv)
    have HL := Aside0.mk hl
    have HB := Aside0.mk hb
    clear hr hv hl hb hC
    go_enter Tryd.func33, Tryd.ntmps33
    go_wp2_with (at_builtin; refine Kd.R_append_rows k31 (Rr := k31.K W) (w0 := W) base rfl (.tmp 23) (.tmp 24) 23 31 (.agg #[.int .i64 0, .int .i64 0, .int .i64 0]) 24 rfl Tryd.underlying23 info31 rfl (by decide) (by omega) (.slice A l.length l.length) l [x] (some ⟨gv, 0, none⟩) 1 1 (fun _ => True) (fun _ => False) rfl rfl ?aO ?aR (fun x cs h => KM31 x cs h) (fun _ hk => hk.elim) (fun _ _ => trivial) ?aB ?aS ?aL ?_; (case aO => exact HR.out); (case aR => exact H1.out); (case aB => exact Below.refl _ _); (case aS => exact HB.out); (case aL => have := HL.out; omega); intro v1 w1 ho hb hg hat)
    go_ret
    exact ⟨v1, rfl, ho, hg⟩
theorem grown_setRow {W w : World} {g : Nat} (h : W.grownBy w (some g)) (cs : Array Value) : W.grownBy (w.setRow g cs) (some g) :=
  ⟨h.os, h.tape, h.output, by simpa [World.setRow] using h.size, fun k hk hne => (setRow_other w g k cs (fun e => hne (by rw [e]))).trans (h.block k hk hne)⟩
/-- The row behind both copies. -/
theorem room_take (l : List S31) (x : S31) (i c : Nat) (cur : List Value) (hi : i < l.length) (hs : cur.length = c * 3) (ht : cur.take (l.length * 3) = C3 l) (hroom : l.length + 1 ≤ c) (c1 c2 : List Value)
    (h1 : c1 = cur.take ((i + 1) * 3) ++ C3 (l.drop i) ++ cur.drop ((i + 1) * 3 + (C3 (l.drop i)).length)) (h2 : c2 = c1.take (i * 3) ++ C3 [x] ++ c1.drop (i * 3 + (C3 [x]).length)) :
    c1.length = c * 3 ∧ c2.length = c * 3 ∧ c2.take ((l.length + 1) * 3) = C3 (l.take i ++ x :: l.drop i) := by
  have hd : (C3 (l.drop i)).length = (l.length - i) * 3 := by rw [C3_len, List.length_drop]
  have hx : (C3 [x]).length = 3 := rfl
  have l1 : c1.length = c * 3 := by
    rw [h1, List.length_append, List.length_append, List.length_take, List.length_drop, hd, hs]; omega
  have l2 : c2.length = c * 3 := by
    rw [h2, List.length_append, List.length_append, List.length_take, List.length_drop, hx, l1]; omega
  refine ⟨l1, l2, ?_⟩
  have t1 : c1.take (i * 3) = C3 (l.take i) := by
    rw [h1, List.append_assoc, List.take_append_of_le_length (by rw [List.length_take, hs]; omega), List.take_take, Nat.min_eq_left (by omega), ← C3_take, ← ht, List.take_take, Nat.min_eq_left (by omega)]
  have d1 : (c1.drop (i * 3 + 3)).take ((l.length - i) * 3) = C3 (l.drop i) := by
    have e : (cur.take ((i + 1) * 3)).length = i * 3 + 3 := by rw [List.length_take, hs]; omega
    rw [h1, List.append_assoc, ← e, List.drop_left, List.take_append_of_le_length (by rw [hd]; exact Nat.le_refl _), List.take_of_length_le (by rw [hd]; exact Nat.le_refl _)]
  have tl : (C3 (l.take i)).length = i * 3 := by rw [C3_len, List.length_take]; omega
  rw [h2, hx, t1, C3_app, show x :: l.drop i = [x] ++ l.drop i from rfl, C3_app, List.append_assoc, List.take_append, tl, List.take_of_length_le (by rw [tl]; omega)]
  congr 1
  rw [List.take_append, hx, List.take_of_length_le (by rw [hx]; omega)]
  congr 1
  rw [show (l.length + 1) * 3 - i * 3 - 3 = (l.length - i) * 3 from by omega]
  exact d1
theorem ins_nums (n i : Nat) (hi : i < n) (hn : n < 1000000000) : wrap64 ((n : Int) + 1) = ((n + 1 : Nat) : Int) ∧ wrap64 ((i : Int) + 1) = ((i + 1 : Nat) : Int) := by unfold wrap64; omega
set_option maxHeartbeats 8000000 in
set_option maxRecDepth 100000 in
/-- Within, where there is room. -/
theorem insert_room (base gv g c i : Nat) (l : List S31) (x : S31) (W : World) (cur : Array Value) (hr : Blk W base g c cur l) (hv : W.heap[gv]? = some (.cells #[.int .i64 x.f0, .int .i64 x.f1, .int .i64 x.f2] 31 (0, 0))) (hgv : gv ≠ g) (hb : base ≤ W.heap.size) (hl : l.length < 1000000000) (hi : i < l.length) (hroom : l.length + 1 ≤ c) :
    Calls Tryd.prog 33 #[.slice (some ⟨g, 0, none⟩) l.length c, .int .i64 i, .slice (some ⟨gv, 0, none⟩) 1 1] W (InsPost base (.slice (some ⟨g, 0, none⟩) l.length c) (l.take i ++ x :: l.drop i) W) := by
  have hu31 := Tryd.underlying31
  have hu23 := Tryd.underlying23
  obtain ⟨n, hn⟩ : ∃ n, l.length = n := ⟨_, rfl⟩
  rw [hn] at hl hi hroom ⊢
  obtain ⟨e1, e2⟩ := ins_nums n i hi hl
  have hi1 : (i : Int) ≠ (n : Int) := by omega
  have hi2 : i ≤ c := by omega
  have hi3 : i ≤ n := by omega
  have hne1 : ¬ (i = c) := by omega
  have hne2 : ¬ (i + 1 = c) := by omega
  have hcap : ¬ ((c : Int) < ((n + 1 : Nat) : Int)) := by omega
  have hov : ∀ lb cb, Sem.run Tryd.prog (callFunc 50 #[.slice (some ⟨gv, 0, none⟩) 1 1, .slice (some ⟨g, (i + 1) * 3, none⟩) lb cb]) W = .ok (.value (.bool false)) W := fun lb cb => by
    rw [run_callFunc_extern Tryd.func50 (by kernel_rfl) (by kernel_rfl) (by kernel_rfl) (e := Extern.SlicesOverlaps.overlaps #[23, 23] #[4]) (by kernel_rfl),
      Lib.run_overlaps_apart W 23 4 31 Tryd.underlying23 3 Tryd.sizeOf31 ⟨gv, 0, none⟩ ⟨g, (i + 1) * 3, none⟩ 1 1 lb cb hgv 31 31 3 cur.size (by unfold World.shape?; rw [hv]; rfl) (by unfold World.shape?; rw [hr.blk]) (by rw [hr.size]; omega) (blk_frozen hv 0) (blk_frozen hv 3)]
    rfl
  obtain ⟨c1, hc1⟩ : ∃ c1, c1 = cur.toList.take ((i + 1) * 3) ++ C3 (l.drop i) ++ cur.toList.drop ((i + 1) * 3 + (C3 (l.drop i)).length) := ⟨_, rfl⟩
  obtain ⟨c2, hc2⟩ : ∃ c2, c2 = c1.take (i * 3) ++ C3 [x] ++ c1.drop (i * 3 + (C3 [x]).length) := ⟨_, rfl⟩
  have hcl : cur.toList.length = c * 3 := by rw [Array.length_toList]; exact hr.size
  obtain ⟨l1, l2, htk⟩ := room_take l x i c cur.toList (by rw [hn]; exact hi) hcl hr.take (by rw [hn]; exact hroom) c1 c2 hc1 hc2
  have hdl : (C3 (l.drop i)).length = (n - i) * 3 := by rw [C3_len, List.length_drop, hn]
  have hinf : (Tryd.prog.info? 31).map (·.size) = some 3 := by
    obtain ⟨i0, hi0, hz⟩ := Option.map_eq_some_iff.1 info31
    simp only [Prod.mk.injEq] at hz
    rw [hi0, Option.map_some, hz.2.1]
  have cp1 : ∀ ty, Sem.run Tryd.prog (Builtin.copy_ #[23, 23] ty #[.slice (some ⟨g, (i + 1) * 3, none⟩) (n - i) (c - (i + 1)), .slice (some ⟨g, i * 3, none⟩) (n + 1 - i) (c - i)]) W.drew = .ok (goInt ((n - i : Nat) : Int)) (W.drew.setRow g c1.toArray) := fun ty => by
    rw [hc1]
    exact run_copy3 W.drew 23 23 ty 31 3 g ((i + 1) * 3) (n - i) (c - (i + 1)) ⟨g, i * 3, none⟩ (n + 1 - i) (c - i) cur 31 (C3 (l.drop i)) Tryd.underlying23 hinf hr.blk (n - i) (by show min _ _ = _; omega) hdl
      (fun j u hu => by
        have := hr.at i j u hu
        rw [Addr.add_lit]; exact this) (by rw [hdl, hr.size]; omega) (C3_one _)
  have hb1 : (W.drew.setRow g c1.toArray).heap[g]? = some (.cells c1.toArray 31 (0, 0)) := setRow_heap W.drew g cur _ 31 _ hr.blk
  have hb2 : ((W.drew.setRow g c1.toArray).setRow g c2.toArray).heap[g]? = some (.cells c2.toArray 31 (0, 0)) := setRow_heap _ g c1.toArray _ 31 _ hb1
  have hv1 : (W.drew.setRow g c1.toArray).heap[gv]? = some (.cells #[.int .i64 x.f0, .int .i64 x.f1, .int .i64 x.f2] 31 (0, 0)) := (setRow_other W.drew g gv c1.toArray hgv).trans hv
  have cp2 : ∀ ty, Sem.run Tryd.prog (Builtin.copy_ #[23, 23] ty #[.slice (some ⟨g, i * 3, none⟩) (n + 1 - i) (c - i), .slice (some ⟨gv, 0, none⟩) 1 1]) (W.drew.setRow g c1.toArray) = .ok (goInt 1) ((W.drew.setRow g c1.toArray).setRow g c2.toArray) := fun ty => by
    have := run_copy3 (P := Tryd.prog) (W.drew.setRow g c1.toArray) 23 23 ty 31 3 g (i * 3) (n + 1 - i) (c - i) ⟨gv, 0, none⟩ 1 1 c1.toArray 31 (C3 [x]) Tryd.underlying23 hinf hb1 1 (by show min _ _ = _; omega) rfl
      (fun j u hu => by
        rw [add0, blk_cell hv1, List.getElem?_toArray]
        exact hu) (by show i * 3 + 3 ≤ c1.toArray.size; rw [List.size_toArray, l1]; omega) (C3_one _)
    rw [hc2]; exact this
  have HF := Aside0.mk (⟨hb2, hr.bas, by rw [List.length_append, List.length_cons, List.length_take, List.length_drop, hn]; omega, hr.max, by rw [List.size_toArray, l2], by
    rw [show (l.take i ++ x :: l.drop i).length = l.length + 1 from by rw [List.length_append, List.length_cons, List.length_take, List.length_drop, hn]; omega]
    exact htk⟩ : Blk ((W.drew.setRow g c1.toArray).setRow g c2.toArray) base g c c2.toArray (l.take i ++ x :: l.drop i))
  have HE : Aside0 ((l.take i ++ x :: l.drop i).length = n + 1) := ⟨by rw [List.length_append, List.length_cons, List.length_take, List.length_drop, hn]; omega⟩
  clear hr hv hl hn hc1 hc2 hcl htk hdl hb1 hb2 hv1 l1 l2 hinf
  go_enter Tryd.func33, Tryd.ntmps33
  go_wp2
  go_region
  all_goals (try go_wp2)
  all_goals go_ret
  all_goals
    refine ⟨.slice (some ⟨g, 0, none⟩) (n + 1) c, rfl, ?_, ?_⟩
    · have h := HF.out.row
      rw [HE.out] at h
      exact h
    · have h0 : W.grownBy W.drew (some g) := ⟨rfl, rfl, rfl, Nat.le_refl _, fun _ _ _ => rfl⟩
      exact grown_setRow (grown_setRow h0 _) _
end Go.Proofs.YtffldajbnhbkkaaDoor.Q
