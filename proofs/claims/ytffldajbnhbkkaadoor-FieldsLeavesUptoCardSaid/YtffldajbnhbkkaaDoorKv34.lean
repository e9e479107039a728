import Derived.Test.YtffldajbnhbkkaaDoorKv33
namespace Go.Proofs.YtffldajbnhbkkaaDoor.Q
open Go.RowKit Go.Proofs.YtffldajbnhbkkaaDoorW.PrintWords Go.Proofs.YtffldajbnhbkkaaDoorW.PrintLast Go.Proofs.YtffldajbnhbkkaaDoorW.PrintMore
set_option linter.unusedVariables false
set_option linter.unusedSimpArgs false
theorem zc_len (k : Nat) : (Builtin.zeroCells #[Value.int .i64 0, Value.int .i64 0, Value.int .i64 0] k).toList.length = k * 3 := by
  rw [Array.length_toList]; simp [Builtin.zeroCells]
/-- The new row behind both copies. -/
theorem grow_take (l : List S31) (x : S31) (i G : Nat) (row : List Value) (hi : i < l.length) (hG : l.length + 1 ≤ G) (hs : row.length = G * 3) (ht : row.take (i * 3) = C3 (l.take i)) (c1 c2 : List Value)
    (h1 : c1 = row.take (i * 3) ++ C3 [x] ++ row.drop (i * 3 + (C3 [x]).length)) (h2 : c2 = c1.take ((i + 1) * 3) ++ C3 (l.drop i) ++ c1.drop ((i + 1) * 3 + (C3 (l.drop i)).length)) :
    c1.length = G * 3 ∧ c2.length = G * 3 ∧ c2.take ((l.length + 1) * 3) = C3 (l.take i ++ x :: l.drop i) := by
  have hd : (C3 (l.drop i)).length = (l.length - i) * 3 := by rw [C3_len, List.length_drop]
  have hx : (C3 [x]).length = 3 := rfl
  have tl : (C3 (l.take i)).length = i * 3 := by rw [C3_len, List.length_take]; omega
  have l1 : c1.length = G * 3 := by
    rw [h1, List.length_append, List.length_append, List.length_take, List.length_drop, hx, hs]; omega
  have l2 : c2.length = G * 3 := by
    rw [h2, List.length_append, List.length_append, List.length_take, List.length_drop, hd, l1]; omega
  refine ⟨l1, l2, ?_⟩
  have t1 : c1.take ((i + 1) * 3) = C3 (l.take i) ++ C3 [x] := by
    rw [h1, ht]
    have e : (C3 (l.take i) ++ C3 [x]).length = (i + 1) * 3 := by rw [List.length_append, tl, hx]; omega
    rw [← e, List.take_left]
  rw [h2, t1, C3_app, show x :: l.drop i = [x] ++ l.drop i from rfl, C3_app, ← List.append_assoc]
  have e : (C3 (l.take i) ++ C3 [x] ++ C3 (l.drop i)).length = (l.length + 1) * 3 := by rw [List.length_append, List.length_append, tl, hx, hd]; omega
  rw [← e, List.take_left]
theorem cap_fits (n : Nat) (h : n < 1000000000) : n + 1 ≤ maxLen := by simp only [maxLen]; omega
theorem grow_nums (n i : Nat) (hi : i < n) (hn : n < 1000000000) : wrap64 ((n : Int) + 1) = (n : Int) + 1 ∧ wrap64 ((n : Int) + 1 - (i : Int)) = (n : Int) + 1 - (i : Int) ∧ (n : Int) + 1 - (i : Int) = ((n + 1 - i : Nat) : Int) := by unfold wrap64; omega
theorem grown_new {W w : World} {r : Option Nat} (h : W.grownBy w r) {g : Nat} (hg : W.heap.size ≤ g) (cs : Array Value) : W.grownBy (w.setRow g cs) r :=
  ⟨h.os, h.tape, h.output, by simpa [World.setRow] using h.size, fun k hk hne => (setRow_other w g k cs (by omega)).trans (h.block k hk hne)⟩
set_option maxHeartbeats 8000000 in
set_option maxRecDepth 100000 in
/-- Within, where there is no room. -/
theorem insert_grow (base gv g c i : Nat) (l : List S31) (x : S31) (W : World) (cur : Array Value) (hr : Blk W base g c cur l) (hv : W.heap[gv]? = some (.cells #[.int .i64 x.f0, .int .i64 x.f1, .int .i64 x.f2] 31 (0, 0))) (hb : base ≤ W.heap.size) (hl : l.length < 1000000000) (hi : i < l.length) (hroom : c < l.length + 1) :
    Calls Tryd.prog 33 #[.slice (some ⟨g, 0, none⟩) l.length c, .int .i64 i, .slice (some ⟨gv, 0, none⟩) 1 1] W (InsPost base (.slice (some ⟨g, 0, none⟩) l.length c) (l.take i ++ x :: l.drop i) W) := by
  have hu31 := Tryd.underlying31
  have hu23 := Tryd.underlying23
  obtain ⟨n, hn⟩ : ∃ n, l.length = n := ⟨_, rfl⟩
  have hcl := hr.len
  rw [hn] at hl hi hroom hcl ⊢
  have HNB := Aside0.mk hl
  obtain ⟨G, hG⟩ : ∃ G, G = grownCap W (n + 1) c 31 := ⟨_, rfl⟩
  have hGe : n + 1 ≤ G := by rw [hG]; exact grownCap_ge W (n + 1) c 31
  have HGM : Aside0 (G ≤ maxLen) := ⟨by rw [hG]; exact grownCap_le_maxLen W (n + 1) c 31 (cap_fits n hl)⟩
  obtain ⟨e1, e2⟩ := ins_nums n i hi hl
  have hi1 : (i : Int) ≠ (n : Int) := by omega
  have hi2 : i ≤ c := by omega
  have hi3 : i ≤ n := by omega
  have hne1 : ¬ (i = c) := by omega
  have hne2 : ¬ (i = G) := by omega
  have hne3 : ¬ (i + 1 = G) := by omega
  have hcap : ((c : Int) < ((n : Int) + 1)) := by omega
  have hcap2 : ((c : Int) < ((n + 1 : Nat) : Int)) := by omega
  obtain ⟨row, hrow⟩ : ∃ row : Array Value, row = (C3 (l.take i)).toArray ++ Builtin.zeroCells #[Value.int .i64 0, Value.int .i64 0, Value.int .i64 0] (n + 1 - i) ++ Builtin.zeroCells #[Value.int .i64 0, Value.int .i64 0, Value.int .i64 0] (G - (n + 1)) := ⟨_, rfl⟩
  have htl : (C3 (l.take i)).length = i * 3 := by rw [C3_len, List.length_take, hn]; omega
  have hrl : row.toList = C3 (l.take i) ++ ((Builtin.zeroCells #[Value.int .i64 0, Value.int .i64 0, Value.int .i64 0] (n + 1 - i)).toList ++ (Builtin.zeroCells #[Value.int .i64 0, Value.int .i64 0, Value.int .i64 0] (G - (n + 1))).toList) := by
    rw [hrow, Array.toList_append, Array.toList_append, List.append_assoc]
  have hrs : row.toList.length = G * 3 := by
    rw [hrl, List.length_append, List.length_append, zc_len, zc_len, htl]; omega
  have hrt : row.toList.take (i * 3) = C3 (l.take i) := by rw [hrl, ← htl, List.take_left]
  obtain ⟨c1, hc1⟩ : ∃ c1, c1 = row.toList.take (i * 3) ++ C3 [x] ++ row.toList.drop (i * 3 + (C3 [x]).length) := ⟨_, rfl⟩
  obtain ⟨c2, hc2⟩ : ∃ c2, c2 = c1.take ((i + 1) * 3) ++ C3 (l.drop i) ++ c1.drop ((i + 1) * 3 + (C3 (l.drop i)).length) := ⟨_, rfl⟩
  obtain ⟨l1, l2, htk⟩ := grow_take l x i G row.toList (by rw [hn]; exact hi) (by rw [hn]; exact hGe) hrs hrt c1 c2 hc1 hc2
  have hdl : (C3 (l.drop i)).length = (n - i) * 3 := by rw [C3_len, List.length_drop, hn]
  obtain ⟨i0, hi0, hz⟩ := Option.map_eq_some_iff.1 info31
  simp only [Prod.mk.injEq] at hz
  obtain ⟨hz0, hz1, hz2⟩ := hz
  have hinf : (Tryd.prog.info? 31).map (·.size) = some 3 := by rw [hi0, Option.map_some, hz1]
  have hold : (Builtin.firstCells i0.size i (.slice (some ⟨g, 0, none⟩) i c)).run Tryd.prog W.drew = .ok (C3 (l.take i)).toArray W.drew := by
    rw [hz1]
    refine run_firstCells_some W.drew 3 i ⟨g, 0, none⟩ i c (C3 (l.take i)) htl (fun j u hu => ?_)
    rw [add0]
    have hj := (List.getElem?_eq_some_iff.1 hu).1
    rw [← C3_take, List.getElem?_take] at hu
    split at hu
    · have := hr.at 0 j u (by rw [List.drop_zero]; exact hu)
      rw [Nat.zero_mul, Nat.zero_add] at this
      exact this
    · cases hu
  have happ : ∀ ty, Sem.run Tryd.prog (Builtin.append_ #[23, 3] ty #[.slice (some ⟨g, 0, none⟩) i c, .int .i64 ((n + 1 - i : Nat) : Int)]) W = .ok (.slice (some ⟨W.heap.size, 0, none⟩) (n + 1) G) (W.drew.alloc (.cells row 31)) := fun ty => by
    have h := Lib.run_append_grow_zeros W 23 3 ty 31 i0 _ .i64 .i64 Tryd.underlying23 Tryd.underlying3 hi0 hz0 (some ⟨g, 0, none⟩) i c (C3 (l.take i)) hold (n + 1 - i) (by omega) (by rw [hz1]; omega) (by omega) (by omega) (by rw [hz2]; omega) (by rw [hz2, show i + (n + 1 - i) = n + 1 from by omega]; exact growslice_fits hroom (by omega))
    rw [show i + (n + 1 - i) = n + 1 from by omega, ← hG] at h
    rw [hrow]
    exact h
  clear hG hrow hold hi0 hz0 hz1 hz2
  obtain ⟨H, hH⟩ : ∃ H, H = W.heap.size := ⟨_, rfl⟩
  obtain ⟨w1, hw1⟩ : ∃ w1, w1 = W.drew.alloc (.cells row 31) := ⟨_, rfl⟩
  have hbn : w1.heap[H]? = some (.cells row 31 (0, 0)) := by rw [hw1, hH]; exact blk_new W.drew _
  have hvn : w1.heap[gv]? = some (.cells #[.int .i64 x.f0, .int .i64 x.f1, .int .i64 x.f2] 31 (0, 0)) := by rw [hw1]; exact blk_alloc (w := W.drew) hv _
  have hgn : w1.heap[g]? = some (.cells cur 31 (0, 0)) := by rw [hw1]; exact blk_alloc (w := W.drew) hr.blk _
  have hvH : gv ≠ H := by have := blk_lt hv; omega
  have hgH : g ≠ H := by have := blk_lt hr.blk; omega
  have hgr1 : W.grownBy w1 (some g) := by rw [hw1]; exact ⟨rfl, rfl, rfl, by simp, fun k hk _ => (below_alloc (Below.refl W.drew.heap.size W.drew) _).block k hk⟩
  rw [← hw1, ← hH] at happ
  have hbnH : base ≤ H := by rw [hH]; exact hb
  have cp1 : ∀ ty, Sem.run Tryd.prog (Builtin.copy_ #[23, 23] ty #[.slice (some ⟨H, i * 3, none⟩) (n + 1 - i) (G - i), .slice (some ⟨gv, 0, none⟩) 1 1]) w1 = .ok (goInt 1) (w1.setRow H c1.toArray) := fun ty => by
    have := run_copy3 (P := Tryd.prog) w1 23 23 ty 31 3 H (i * 3) (n + 1 - i) (G - i) ⟨gv, 0, none⟩ 1 1 row 31 (C3 [x]) Tryd.underlying23 hinf hbn 1 (by show min _ _ = _; omega) rfl
      (fun j u hu => by
        rw [add0, blk_cell hvn, List.getElem?_toArray]
        exact hu) (by show i * 3 + 3 ≤ row.size; rw [← Array.length_toList, hrs]; omega) (C3_one _)
    rw [hc1]; exact this
  obtain ⟨w2, hw2⟩ : ∃ w2, w2 = w1.setRow H c1.toArray := ⟨_, rfl⟩
  rw [← hw2] at cp1
  have hb2 : w2.heap[H]? = some (.cells c1.toArray 31 (0, 0)) := by rw [hw2]; exact setRow_heap w1 H row _ 31 _ hbn
  have hg2 : w2.heap[g]? = some (.cells cur 31 (0, 0)) := by rw [hw2]; exact (setRow_other w1 H g c1.toArray hgH).trans hgn
  have hr2 : Blk w2.drew base g c cur l := ⟨hg2, hr.bas, hr.len, hr.max, hr.size, hr.take⟩
  have hgr2 : W.grownBy w2 (some g) := by rw [hw2]; exact grown_new hgr1 (Nat.le_of_eq hH.symm) _
  have cp2 : ∀ ty, Sem.run Tryd.prog (Builtin.copy_ #[23, 23] ty #[.slice (some ⟨H, (i + 1) * 3, none⟩) (n - i) (G - (i + 1)), .slice (some ⟨g, i * 3, none⟩) (n - i) (c - i)]) w2.drew = .ok (goInt ((n - i : Nat) : Int)) (w2.drew.setRow H c2.toArray) := fun ty => by
    have := run_copy3 (P := Tryd.prog) w2.drew 23 23 ty 31 3 H ((i + 1) * 3) (n - i) (G - (i + 1)) ⟨g, i * 3, none⟩ (n - i) (c - i) c1.toArray 31 (C3 (l.drop i)) Tryd.underlying23 hinf hb2 (n - i) (by show min _ _ = _; omega) hdl
      (fun j u hu => by
        have := hr2.at i j u hu
        rw [Addr.add_lit]; exact this) (by rw [hdl, List.size_toArray, l1]; omega) (C3_one _)
    rw [hc2]; exact this
  have hb3 : (w2.drew.setRow H c2.toArray).heap[H]? = some (.cells c2.toArray 31 (0, 0)) := setRow_heap w2.drew H c1.toArray _ 31 _ hb2
  have HGR : Aside0 (W.grownBy (w2.drew.setRow H c2.toArray) (some g)) := ⟨grown_new (w := w2.drew) ⟨hgr2.os, hgr2.tape, hgr2.output, hgr2.size, hgr2.block⟩ (Nat.le_of_eq hH.symm) _⟩
  have HE : Aside0 ((l.take i ++ x :: l.drop i).length = n + 1) := ⟨by rw [List.length_append, List.length_cons, List.length_take, List.length_drop, hn]; omega⟩
  have HF : Aside0 (Blk (w2.drew.setRow H c2.toArray) base H G c2.toArray (l.take i ++ x :: l.drop i)) := ⟨⟨hb3, hbnH, by rw [HE.out]; exact hGe, HGM.out, by rw [List.size_toArray, l2], by
    rw [HE.out, ← hn]; exact htk⟩⟩
  obtain ⟨e1', e3, e4⟩ := grow_nums n i hi HNB.out
  have happ2 : ∀ ty, Sem.run Tryd.prog (Builtin.append_ #[23, 3] ty #[.slice (some ⟨g, 0, none⟩) i c, .int .i64 ((n : Int) + 1 - (i : Int))]) W = .ok (.slice (some ⟨H, 0, none⟩) (n + 1) G) w1 := fun ty => by rw [e4]; exact happ ty
  clear e4 happ e1
  clear hr hv hl hn hc1 hc2 htk hdl hbn hb2 hb3 hvn hgn hg2 hr2 hgr1 hgr2 l1 l2 hinf hrl hrs hrt htl hw1 hw2 hH
  go_enter Tryd.func33, Tryd.ntmps33
  go_upto_region 9 with (fail)
  rw [e1']
  go_wp2_with (at_builtin; refine Kd.event_run rfl (v := .slice (some ⟨H, 0, none⟩) (n + 1) G) (w1 := w1) ?hr ?_; (case hr => (simp [execOp, resolve, invoke, builtin, Act.eval, Act.put, e3, happ2]; done)))
  go_region
  all_goals (try go_wp2)
  all_goals go_ret
  all_goals
    refine ⟨.slice (some ⟨H, 0, none⟩) (n + 1) G, rfl, ?_, HGR.out⟩
    have h := HF.out.row
    rw [HE.out] at h
    exact h
theorem insert_walk (base gv i : Nat) (v : Value) (l : List S31) (x : S31) (W : World) (hr : Kd.R k31 31 W base (fun _ => True) v l) (hv : W.heap[gv]? = some (.cells #[.int .i64 x.f0, .int .i64 x.f1, .int .i64 x.f2] 31 (0, 0))) (hgv : v.ownBlock ≠ some gv) (hb : base ≤ W.heap.size) (hl : l.length < 1000000000) (hi : i ≤ l.length) :
    Calls Tryd.prog 33 #[v, .int .i64 i, .slice (some ⟨gv, 0, none⟩) 1 1] W (InsPost base v (l.take i ++ x :: l.drop i) W) := by
  rcases Nat.lt_or_eq_of_le hi with h | h
  · obtain ⟨g, cap, e, _⟩ := Kd.R_form hr (by omega)
    subst e
    obtain ⟨cur, hbk, _⟩ := blk31 hr
    by_cases hc : l.length + 1 ≤ cap
    · exact insert_room base gv g cap i l x W cur hbk hv (fun e => hgv (by rw [e]; rfl)) hb hl h hc
    · exact insert_grow base gv g cap i l x W cur hbk hv hb hl h (by omega)
  · subst h
    rw [List.take_length, List.drop_length]
    exact insert_end base gv v l x W hr hv hb hl
/-- At its place it stands as_ putting has it. -/
theorem place_put : ∀ (l : List S31) (x : S31) (n : Nat), Place l x n n → l.take n ++ x :: l.drop n = HP.putL lt31 l x
  | [], x, n, h => by
    obtain rfl : n = 0 := by have := h.len; simpa using this
    rfl
  | y :: l, x, 0, h => by
    have : lt31 y x = false := h.hi 0 (Nat.succ_pos _) (Nat.le_refl _)
    unfold HP.putL
    rw [if_pos this]; rfl
  | y :: l, x, n + 1, h => by
    have h0 := h.lo 0 (Nat.succ_pos _) (Nat.succ_pos _)
    have ih := place_put l x n ⟨Nat.le_refl _, by have := h.len; rw [List.length_cons] at this; omega, fun j hj h2 => by
      have := h.lo (j + 1) (by rw [List.length_cons]; omega) (by omega)
      exact this, fun j hj h2 => by
      have := h.hi (j + 1) (by rw [List.length_cons]; omega) (by omega)
      exact this⟩
    conv => rhs; unfold HP.putL
    rw [if_neg (by rw [show lt31 y x = true from h0]; simp), ← ih]; rfl
theorem sortTo_all (l : List S31) : ∀ k, sortTo l k = true → ∀ j, j < k → lt31 (rd_T31 l ((j + 1 : Nat) : Int)) (rd_T31 l ((j : Nat) : Int)) = false
  | 0, _, j, hj => absurd hj (Nat.not_lt_zero _)
  | k + 1, h, j, hj => by
    unfold sortTo at h
    by_cases c : lt31 (rd_T31 l ((k + 1 : Nat) : Int)) (rd_T31 l ((k : Nat) : Int)) = true
    · rw [if_pos c] at h; cases h
    · rw [if_neg c] at h
      rcases Nat.lt_succ_iff_lt_or_eq.1 hj with h2 | h2
      · exact sortTo_all l k h j h2
      · subst h2; simpa using c
theorem sorted_of {l : List S31} (h : sortB l = true) : Sorted l := by
  have ha := sortTo_all l _ h
  intro i j hi hj hij
  induction j with
  | zero =>
    obtain rfl : i = 0 := by omega
    exact ord31.irr _
  | succ j ih =>
    rcases Nat.lt_or_eq_of_le hij with h2 | h2
    · have h1 := ha j (by omega)
      rw [rd31 l (j + 1) hj, rd31 l j (by omega)] at h1
      exact ord31.trans _ _ _ (ih (by omega) (by omega)) h1
    · subst h2; exact ord31.irr _
end Go.Proofs.YtffldajbnhbkkaaDoor.Q
