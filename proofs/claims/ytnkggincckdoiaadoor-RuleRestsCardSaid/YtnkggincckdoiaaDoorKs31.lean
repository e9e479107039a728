import Derived.Test.YtnkggincckdoiaaDoorKs0
import Derived.Lib.FrozenHead2
import Derived.Lib.ConvBytes
import Derived.Laws.BytesArg
namespace Go.Proofs.YtnkggincckdoiaaDoor.OB
open Go.RowKit Go.Proofs.YtnkggincckdoiaaDoorW.PrintWords
set_option linter.unusedVariables false
set_option linter.unusedSimpArgs false
/-- No cell of the row is frozen: a conversion's mark lies behind its cells. -/
def Free (n : Nat) (fz : Nat × Nat) : Prop := fz.2 = 0 ∨ n ≤ fz.1
theorem run_storeCells_atB (P : Program) (g o : Nat) (t : TypeId) (fz : Nat × Nat) : ∀ (vs : List Value) (i : Nat) (cur : Array Value) (w : World), w.heap[g]? = some (.cells cur t fz) → Free cur.size fz → o + i + vs.length ≤ cur.size → (∀ v ∈ vs, v.oneCell' = true) →
    (storeCells ⟨g, o, none⟩ vs i).run P w = .ok () (w.setRow g (cur.toList.take (o + i) ++ vs ++ cur.toList.drop (o + i + vs.length)).toArray)
  | [], i, cur, w, hg, _, _, _ => by
    simp only [storeCells, List.append_nil, List.length_nil, Nat.add_zero, List.take_append_drop, Array.toArray_toList]
    rw [setRow_self w g cur t fz hg]
    rfl
  | v :: rest, i, cur, w, hg, hfz, hl, h1 => by
    have hi : o + i < cur.size := by simp at hl; omega
    have hadd : (⟨g, o, none⟩ : Addr).add i = ⟨g, o + i, none⟩ := by unfold Addr.add; split <;> simp_all
    have hcell : w.cell? ⟨g, o + i, none⟩ = some cur[o + i] := by simp [World.cell?, hg, hi]
    have hfro : w.frozen? ⟨g, o + i, none⟩ = false := by
      obtain ⟨lo, hi'⟩ := fz
      simp only [World.frozen?, hg, Bool.and_eq_false_iff, decide_eq_false_iff_not]
      unfold Free at hfz
      simp only at hfz
      rcases hfz with h | h
      · right; omega
      · left; omega
    have hst : (store ((⟨g, o, none⟩ : Addr).add i) v).run P w = .ok () (w.setRow g (cur.setIfInBounds (o + i) v)) := by
      rw [hadd, run_store P w _ v _ (h1 v (by simp)), hcell]
      simp [hfro, setCell_eq_setRow w g (o + i) cur t fz v hg]
    have ih := run_storeCells_atB P g o t fz rest (i + 1) (cur.setIfInBounds (o + i) v) (w.setRow g (cur.setIfInBounds (o + i) v)) (setRow_heap w g cur _ t _ hg) (by simpa using hfz) (by simp at hl ⊢; omega) (fun x hx => h1 x (by simp [hx]))
    simp only [storeCells, Sem.run_bind, hst, Result.andThen_ok, ih, setRow_setRow]
    congr 3
    have e := list_seg_step cur.toList (o + i) v rest (by simp at hl ⊢; omega)
    simpa [Array.toList_setIfInBounds, Nat.add_assoc] using e
/-- The slice value v owns the bytes xs; nothing of its row is frozen. -/
def OwnB (w : World) (base : Nat) (e : TypeId) (v : Value) (xs : List Int) : Prop :=
  ∃ g cap cur fz, v = .slice (some ⟨g, 0, none⟩) xs.length cap ∧ base ≤ g ∧ w.heap[g]? = some (.cells cur e fz) ∧ Free cur.size fz ∧ xs.length ≤ cap ∧ cap ≤ maxLen ∧ cur.size = cap ∧ cur.toList.take xs.length = nums .u8 xs
section
variable {P : Program} {w : World} {base : Nat} {e : TypeId} {v : Value} {xs : List Int}
theorem OwnB.block (h : OwnB w base e v xs) : ∀ k, v.ownBlock = some k → base ≤ k ∧ k < w.heap.size := by
  obtain ⟨g, cap, cur, fz, rfl, hb, hg, _⟩ := h
  intro k hk
  simp [Value.ownBlock] at hk
  subst hk
  exact ⟨hb, (Array.getElem?_eq_some_iff.1 hg).1⟩
theorem OwnB.keep {w' : World} (h : OwnB w base e v xs) (hk : ∀ k, base ≤ k → k < w.heap.size → v.ownBlock = some k → w'.heap[k]? = w.heap[k]?) : OwnB w' base e v xs := by
  have hb := h.block
  obtain ⟨g, cap, cur, fz, rfl, hbg, hg, rest⟩ := h
  have h2 := hb g (by simp [Value.ownBlock])
  exact ⟨g, cap, cur, fz, rfl, hbg, (hk g hbg h2.2 (by simp [Value.ownBlock])).trans hg, rest⟩
theorem OwnB.alloc (h : OwnB w base e v xs) (o : Obj) : OwnB (w.alloc o) base e v xs := h.keep (fun k _ hk _ => (below_alloc (Below.refl w.heap.size w) o).block k hk)
theorem OwnB.drew (h : OwnB w base e v xs) : OwnB w.drew base e v xs := h
theorem OwnB.drewN (h : OwnB w base e v xs) (n : Nat) : OwnB (w.drewN n) base e v xs := h
theorem OwnB.below {w' : World} (h : OwnB w base e v xs) (hb : Below w.heap.size w w') : OwnB w' base e v xs := h.keep (fun k _ hk _ => hb.block k hk)
theorem OwnB.set {w : World} (h : OwnB w base e v xs) {p : Addr} (hp : p.block < base) (u : Value) : OwnB (w.setCell p u) base e v xs :=
  h.keep (fun k hk _ _ => Below.heap_setCell w p u k (by omega))
theorem OwnB.slice (h : OwnB w base e v xs) : ∃ g cap, v = .slice (some ⟨g, 0, none⟩) xs.length cap ∧ xs.length ≤ cap := by
  obtain ⟨g, cap, cur, fz, rfl, hbg, hg, _, hn, _⟩ := h
  exact ⟨g, cap, rfl, hn⟩
theorem OwnB.cells {g cap n : Nat} (h : OwnB w base e (.slice (some ⟨g, 0, none⟩) n cap) xs) (i : Nat) (hi : i < xs.length) : w.cell? ⟨g, i, none⟩ = some (.int .u8 (xs.getD i 0)) := by
  obtain ⟨g', cap', cur, fz, hv, hbg, hg, _, hn, _, hc, ht⟩ := h
  injection hv with h1 h2 h3
  injection h1 with h1
  injection h1 with h1
  subst h1
  rw [cell_of_row w g i cur e fz hg]
  have := congrArg (fun l => l[i]?) ht
  simp only [List.getElem?_take, nums, List.getElem?_map] at this
  rw [if_pos hi, List.getElem?_eq_getElem hi] at this
  simp only [Option.map_some] at this
  rw [← Array.getElem?_toList, this, List.getD_eq_getElem?_getD, List.getElem?_eq_getElem hi]
  rfl
theorem OwnB.reads {g cap n : Nat} (h : OwnB w base e (.slice (some ⟨g, 0, none⟩) n cap) xs) : n = xs.length ∧ ReadsInt w .u8 (some ⟨g, 0, none⟩) xs.length xs := by
  have hc := fun i hi => h.cells i hi
  obtain ⟨g', cap', cur, fz, hv, hbg, hg, _, hn, hm, _, ht⟩ := h
  injection hv with h1 h2 h3
  refine ⟨h2, rfl, by unfold maxLen at hm; omega, fun _ => ⟨_, rfl, fun j hj => ?_⟩⟩
  rw [add_plain]
  exact hc j hj
/-- What a conversion makes. -/
theorem OwnB.made (W : World) (e : TypeId) (s : ByteArray) (base : Nat) (hb : base ≤ W.heap.size) (hs : s.size ≤ maxLen) :
    OwnB (Lib.bytesWorld W e s) base e (.slice (some ⟨W.heap.size, 0, none⟩) (bytesOf s).length (grownCap W s.size 0 e)) (bytesOf s) := by
  have hge := grownCap_ge W s.size 0 e
  refine ⟨W.heap.size, _, _, _, rfl, hb, Lib.bytesWorld_at_new W e s, Or.inr (Nat.le_refl _), by rw [bytesOf_length]; exact hge, grownCap_le_maxLen _ _ _ _ hs, ?_, ?_⟩
  · have hd : s.data.size = s.size := rfl
    simp only [Lib.bytesCells, Array.size_append, Array.size_map, Array.size_replicate, hd]
    omega
  · rw [bytesOf_length, Lib.bytesCells, Array.toList_append, Array.toList_map, List.take_left' (by rw [List.length_map, Array.length_toList]; rfl)]
    simp [nums, bytesOf]
/-- One byte behind it: in place, or in a new row. -/
theorem run_append_B (t ty : TypeId) (i : TypeInfo) (ht : P.underlying t = some (.slice e)) (hi : P.info? e = some i) (hz : i.zero = some (.int .u8 0)) (hsize : i.size = 1) (hby : i.bytes = 1)
    (hown : OwnB w base e v xs) (a : Addr) (c : Nat) (x : Int) (hx : w.cell? a = some (.int .u8 x)) (hlen : xs.length < 140737488355328) (hbase : base ≤ w.heap.size) :
    ∃ v' w', (Builtin.append_ #[t, t] ty #[v, .slice (some a) 1 c]).run P w = .ok v' w' ∧ OwnB w' base e v' (xs ++ [x]) ∧ w.grownBy w' v.ownBlock ∧ (v'.ownBlock = v.ownBlock ∨ v'.ownBlock = some w.heap.size) := by
  obtain ⟨g, cap, cur, fz, rfl, hbg, hg, hfz, hnc, hcm, hcs, htake⟩ := hown
  have hnews : ∀ j u, [Value.int .u8 x][j]? = some u → w.cell? (a.add j) = some u := by
    intro j u hj
    rcases j with _ | j
    · obtain rfl := Option.some.inj hj
      simpa [Addr.add] using hx
    · simp at hj
  have hf := run_firstCells_some (P := P) w i.size 1 a 1 c [.int .u8 x] (by rw [hsize]; rfl) hnews
  have hl2 : (xs ++ [x]).length = xs.length + 1 := by simp
  by_cases hroom : xs.length + 1 ≤ cap
  · have hst := run_storeCells_atB P g xs.length e fz [.int .u8 x] 0 cur w hg hfz (by simp; omega) (by intro v hv; simp at hv; subst hv; rfl)
    simp only [Nat.add_zero, List.length_cons, List.length_nil, Nat.zero_add] at hst
    obtain ⟨R, hR⟩ : ∃ R, R = (cur.toList.take xs.length ++ [Value.int .u8 x] ++ cur.toList.drop (xs.length + 1)).toArray := ⟨_, rfl⟩
    rw [← hR] at hst
    have hRs : R.size = cur.size := by
      rw [hR]
      simp only [List.size_toArray, List.length_append, List.length_take, List.length_drop, Array.length_toList, List.length_cons, List.length_nil]
      omega
    have hRt : R.toList.take (xs ++ [x]).length = nums .u8 (xs ++ [x]) := by
      rw [hR, htake]
      simp only [nums, List.map_append, List.map_cons, List.map_nil]
      exact List.take_left' (by simp)
    refine ⟨.slice (some ⟨g, 0, none⟩) (xs ++ [x]).length cap, w.setRow g R, ?_, ⟨g, cap, R, fz, rfl, hbg, setRow_heap w g cur _ e _ hg, by rw [hRs]; exact hfz, by rw [hl2]; exact hroom, hcm, by rw [hRs]; exact hcs, hRt⟩, ⟨rfl, rfl, rfl, by simp, fun k _ hk => setRow_other w g k _ (fun e => hk (by simp [Value.ownBlock, e]))⟩, Or.inl rfl⟩
    rw [hsize] at hf
    simp [Builtin.append_, run_underlying ht, sizeOf, typeInfo, hi, hsize, Builtin.lenOf, hroom, hf, Addr.add_lit, hst]
  · have holds : ∀ j u, (nums .u8 xs)[j]? = some u → w.cell? ((⟨g, 0, none⟩ : Addr).add j) = some u := by
      intro j u hj
      rw [add_plain, cell_of_row w g j cur e fz hg, ← Array.getElem?_toList]
      rw [← htake, List.getElem?_take] at hj
      split at hj
      · exact hj
      · cases hj
    have hr := run_append_grow (P := P) w t ty e i (.int .u8 0) ht hi hz ⟨g, 0, none⟩ xs.length cap (nums .u8 xs) (by rw [hsize, nums_length]; omega) holds a 1 c [.int .u8 x] (by rw [hsize]; rfl) hnews (by omega) (by omega) (by rw [hby]; exact growslice_fits (by omega) (by omega))
    have hge := grownCap_ge w (xs.length + 1) cap e
    have hcm2 : grownCap w (xs.length + 1) cap e ≤ maxLen := grownCap_le_maxLen w (xs.length + 1) cap e (by unfold maxLen; omega)
    refine ⟨_, _, by rw [← hl2] at hr; exact hr, ⟨w.heap.size, _, _, (0, 0), by rw [← hl2], hbase, heap_alloc_new w.drew _, Or.inl rfl, by rw [hl2]; exact hge, hcm2, ?_, ?_⟩, ⟨rfl, rfl, rfl, by simp, fun k hk _ => (below_alloc (Below.refl w.drew.heap.size w.drew) _).block k hk⟩, Or.inr rfl⟩
    · have hz1 : (Value.int IntKind.u8 0).cells.size = 1 := rfl
      rw [hl2]
      simp only [Array.size_append, List.size_toArray, size_zeroCells, hz1, nums_length, List.length_cons, List.length_nil]
      omega
    · simp only [Array.toList_append, nums, List.map_append, List.map_cons, List.map_nil, List.append_assoc]
      rw [← List.append_assoc]
      exact List.take_left' (by simp)
theorem wpList_append_B {ops : Array Oper} {rest : List Oper} {o : Oper} {a : Act} {Q : Exit → Act → World → Prop} (hgd : o.guard = none) (s x : Operand) (t : TypeId)
    (ho : o.op = .call { callee := .builtin .append, args := #[s, x], argTypes := #[t, t] })
    (base : Nat) (e : TypeId) (i : TypeInfo) (ht : P.underlying t = some (.slice e)) (hi : P.info? e = some i) (hz : i.zero = some (.int .u8 0)) (hsize : i.size = 1) (hby : i.bytes = 1)
    (v : Value) (xs : List Int) (hs : a.eval s = v) (hown : OwnB w base e v xs) (ad : Addr) (c : Nat) (y : Int) (hx : a.eval x = .slice (some ad) 1 c) (hy : w.cell? ad = some (.int .u8 y)) (hlen : xs.length < 140737488355328) (hbase : base ≤ w.heap.size)
    (h : ∀ v' w', OwnB w' base e v' (xs ++ [y]) → w.grownBy w' v.ownBlock → (v'.ownBlock = v.ownBlock ∨ v'.ownBlock = some w.heap.size) → wpList P ops Q rest (a.put o.dst v') w') : wpList P ops Q (o :: rest) a w := by
  refine wpList_plain hgd fun K hK => ?_
  obtain ⟨v', w', hr, h2, h3, h4⟩ := run_append_B (P := P) t o.type i ht hi hz hsize hby hown ad c y hy hlen hbase
  unfold Oper.wp execOp
  simp only [ho, resolve, invoke, builtin, Sem.run_bind, Sem.run_pure, Result.andThen_ok, List.map_toArray, List.map_cons, List.map_nil, hs, hx, hr]
  exact hK _ _ (h v' w' h2 h3 h4)
/-- What is read of a row that stays: by its block alone. -/
def FR (W0 : World) (fb : Nat) (v : Value) (l : List Int) : Prop := ∃ A c, v = .slice A l.length c ∧ l.length ≤ c ∧ ∀ W' : World, W'.heap[fb]? = W0.heap[fb]? → ReadsInt W' .u8 A l.length l
theorem FR.of (h : OwnB w base e v xs) : ∃ fb, v.ownBlock = some fb ∧ FR w fb v xs := by
  have h0 := h
  obtain ⟨g, cap, cur, fz, rfl, hbg, hg, rest⟩ := h
  refine ⟨g, by simp [Value.ownBlock], _, _, rfl, rest.2.1, fun W' hW => ?_⟩
  have h2 : OwnB W' base e (.slice (some ⟨g, 0, none⟩) xs.length cap) xs := ⟨g, cap, cur, fz, rfl, hbg, hW.trans hg, rest⟩
  exact h2.reads.2
theorem FR.tail {fb : Nat} {x : Int} {l : List Int} {W0 : World} (h : FR W0 fb v (x :: l)) : ∃ A c, v = .slice A (l.length + 1) c ∧ l.length + 1 ≤ c ∧ FR W0 fb (.slice (if c = 1 then A else A.map (·.add 1)) l.length (c - 1)) l := by
  obtain ⟨A, c, rfl, hc, hr⟩ := h
  rw [List.length_cons] at hc hr
  refine ⟨A, c, rfl, hc, _, _, rfl, by omega, fun W' hW => ?_⟩
  have := (hr W' hW).drop_ (c := c) 1 (by omega) hc
  simpa using this
end
end Go.Proofs.YtnkggincckdoiaaDoor.OB
