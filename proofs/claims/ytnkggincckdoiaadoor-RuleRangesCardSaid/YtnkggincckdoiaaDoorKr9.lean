import Derived.Test.YtnkggincckdoiaaDoorKr8
import Derived.Laws.AppendOwn
import Derived.Laws.OwnMore
namespace Go.Proofs.YtnkggincckdoiaaDoor.Q
open Go.RowKit Go.Shelf Go.Proofs.YtnkggincckdoiaaDoorW.PrintWords Go.Proofs.YtnkggincckdoiaaDoorW.PrintLast Go.Proofs.YtnkggincckdoiaaDoorW.PrintMore
set_option linter.unusedVariables false
set_option linter.unusedSimpArgs false
attribute [local go_sem] Oper.semAt_some
/-- The reader of a text, or nothing: it gave up. -/
def PostRead (w : World) (o : Option (List ByteArray)) (e : Ending) (w' : World) : Prop :=
  match o with
  | some ts => ∃ r, e = .returned (.pointer (some ⟨r, 0, none⟩)) ∧ RS w w' r ts
  | none => e = .panicked wrongP ∧ Below w.heap.size w w'
theorem parts_new (s : ByteArray) (W : World) : Calls Tryd.prog 35 #[.string s] W fun e w' => e = .returned (.func (.func 45) #[] #[.pointer (some ⟨W.heap.size, 0, none⟩)]) ∧ w' = W.alloc (.cells #[.string s] 9) := by
  have hmf : ∀ (fn : Fn) (first cap : Array Value) (w : World), (Instr.makeFunc fn first cap).run Tryd.prog w = .ok (.func fn first cap) w := fun _ _ _ _ => rfl
  go_enter Tryd.func35, Tryd.ntmps35
  go_wp2
  go_ret
  exact ⟨rfl, rfl⟩
/-- In the loop: the variable, the reader, the text that is left, the parts so far. -/
structure RI (W0 W : World) (B gt gr gs : Nat) (s : ByteArray) (l : List ByteArray) : Prop where
  below : Below W0.heap.size W0 W
  rv : W.heap[gt]? = some (.cells #[.pointer (some ⟨gr, 0, none⟩)] 56 (0, 0))
  st : W.heap[gs]? = some (.cells #[.string s] 9 (0, 0))
  mem : ∃ v, W.heap[gr]? = some (.cells #[v] 60 (0, 0)) ∧ W.ownsRow B 9 1 v l.length (l.map Value.string)
  sz : B ≤ W.heap.size
structure RL (W0 : World) (B gt gr gs : Nat) : Prop where
  t : gt < B
  r : gr < B
  s : gs < B
  rt : gr ≠ gt
  rs : gr ≠ gs
  ts : gt ≠ gs
  b : W0.heap.size ≤ B
  t0 : W0.heap.size ≤ gt
  r0 : W0.heap.size ≤ gr
  s0 : W0.heap.size ≤ gs
theorem ownsRow_below {W W' : World} {base size n : Nat} {e : TypeId} {v : Value} {xs : List Value} (h : W.ownsRow base e size v n xs) (hb : Below W.heap.size W W') : W'.ownsRow base e size v n xs := by
  refine ⟨h.1, h.2.imp id ?_⟩
  rintro ⟨g, cap, cur, h1, h2, h3, h4⟩
  exact ⟨g, cap, cur, h1, h2, blk_below h3 hb, h4⟩
variable {W0 W W' : World} {B gt gr gs : Nat} {s : ByteArray} {l : List ByteArray}
theorem RI.next (h : RI W0 W B gt gr gs s l) (hb : Below W.heap.size W W') : RI W0 W' B gt gr gs s l := by
  obtain ⟨v, h1, h2⟩ := h.mem
  exact ⟨below_step h.below hb, blk_below h.rv hb, blk_below h.st hb, ⟨v, blk_below h1 hb, ownsRow_below h2 hb⟩, Nat.le_trans h.sz hb.size⟩
theorem ownsRow_other {W : World} {base size n : Nat} {e : TypeId} {v : Value} {xs : List Value} (h : W.ownsRow base e size v n xs) {a : Addr} (ha : a.block < base) (u : Value) : (W.setCell a u).ownsRow base e size v n xs := ownsRow_setCell_below h ha u
theorem RI.put (h : RI W0 W B gt gr gs s l) (L : RL W0 B gt gr gs) (t : ByteArray) : RI W0 (W.setCell ⟨gs, 0, none⟩ (.string t)) B gt gr gs t l := by
  obtain ⟨v, h1, h2⟩ := h.mem
  refine ⟨below_set h.below L.s0, (Below.heap_setCell W ⟨gs, 0, none⟩ _ gt L.ts).trans h.rv, blk_put h.st 0 _ rfl, ⟨v, (Below.heap_setCell W ⟨gs, 0, none⟩ _ gr L.rs).trans h1, ownsRow_other h2 L.s _⟩, by simpa using h.sz⟩
theorem RI.own (L : RL W0 B gt gr gs) : OwnFrom B (fun (β : ByteArray × List ByteArray) W => RI W0 W B gt gr gs β.1 β.2) := fun β X Y row hs hg hr => by
  obtain ⟨v, h1, h2⟩ := hs.mem
  have hk : ∀ k o, k < B → X.heap[k]? = some o → Y.heap[k]? = some o := fun k o hk h => (hg.block k (Nat.lt_of_lt_of_le hk hs.sz) (fun e => by have := (hr k e.symm).1; omega)).trans h
  refine ⟨hs.below.trans ⟨hg.os, hg.tape, hg.output, hg.size, fun k hk => hg.block k (Nat.lt_of_lt_of_le hk hs.below.size) (fun e => by have := (hr k e.symm).1; have := L.b; omega)⟩, hk _ _ L.t hs.rv, hk _ _ L.s hs.st, ⟨v, hk _ _ L.r h1, h2.kept hg ?_⟩, Nat.le_trans hs.sz hg.size⟩
  rcases h2.2 with ⟨rfl, _⟩ | ⟨g, cap, cur, rfl, _, hgc, _⟩
  · exact Or.inl rfl
  · refine Or.inr fun e => ?_
    obtain ⟨_, o, ho, hc⟩ := hr g e.symm
    rw [hgc] at ho
    cases ho
    cases hc
theorem three_new (w : World) (s : ByteArray) : ∃ w8, w8 = ((w.alloc (Obj.cells #[Value.slice none 0 0] 60)).alloc (Obj.cells #[Value.pointer (some { block := w.heap.size, off := 0 })] 56)).alloc (Obj.cells #[Value.string s] 9) ∧
    RI w w8 w8.heap.size (w.heap.size + 1) w.heap.size (w.heap.size + 1 + 1) s [] ∧ RL w w8.heap.size (w.heap.size + 1) w.heap.size (w.heap.size + 1 + 1) := by
  have h1 := blk_new w (Obj.cells #[Value.slice none 0 0] 60)
  have h2 := blk_new (w.alloc (Obj.cells #[Value.slice none 0 0] 60)) (Obj.cells #[Value.pointer (some { block := w.heap.size, off := 0 })] 56)
  have h3 := blk_new ((w.alloc (Obj.cells #[Value.slice none 0 0] 60)).alloc (Obj.cells #[Value.pointer (some { block := w.heap.size, off := 0 })] 56)) (Obj.cells #[Value.string s] 9)
  simp only [World.size_alloc] at h2 h3
  refine ⟨_, rfl, ⟨below_alloc (below_alloc (below_alloc (Below.refl _ _) _) _) _, blk_alloc h2 _, h3, ⟨_, blk_alloc (blk_alloc h1 _) _, World.ownsRow_nil _ _ _ _⟩, Nat.le_refl _⟩, ?_⟩
  constructor <;> (try simp only [World.size_alloc]) <;> omega
theorem toks_ne {k : Nat} {s : ByteArray} {ts : List ByteArray} (h : toks k s = some ts) : ∀ t ∈ ts, t ≠ ByteArray.empty ∧ t.size ≤ s.size := by
  induction k generalizing s ts with
  | zero => cases h
  | succ k ih =>
    rw [toks] at h
    split at h
    · cases h
    · rename_i n hn
      have hc := cutL_size s sBl
      split at h
      · cases h; intro t ht; cases ht
      · rename_i h0
        obtain ⟨us, hu, rfl⟩ := Option.map_eq_some_iff.1 h
        intro t ht
        have hp := tokN_pos hn h0
        have hl := tokN_le hn
        rcases List.mem_cons.1 ht with rfl | ht
        · refine ⟨fun e => ?_, ?_⟩
          · have := congrArg ByteArray.size e
            simp only [ByteArray.size_extract] at this
            have h3 : ByteArray.empty.size = 0 := rfl
            omega
          · simp only [ByteArray.size_extract]; omega
        · obtain ⟨h1, h2⟩ := ih hu t ht
          refine ⟨h1, Nat.le_trans h2 ?_⟩
          simp only [ByteArray.size_extract]; omega
theorem toks_len {k : Nat} {s : ByteArray} {ts : List ByteArray} (h : toks k s = some ts) : ts.length ≤ s.size := by
  induction k generalizing s ts with
  | zero => cases h
  | succ k ih =>
    rw [toks] at h
    split at h
    · cases h
    · rename_i n hn
      have hc := cutL_size s sBl
      split at h
      · cases h; exact Nat.zero_le _
      · rename_i h0
        obtain ⟨us, hu, rfl⟩ := Option.map_eq_some_iff.1 h
        have hp := tokN_pos hn h0
        have hl := tokN_le hn
        have := ih hu
        simp only [ByteArray.size_extract] at this
        simp only [List.length_cons]
        omega
theorem RI.rs {W0 W : World} {B gt gr gs : Nat} {s u : ByteArray} {ts : List ByteArray} (h : RI W0 W B gt gr gs u (ts ++ [ByteArray.empty])) (L : RL W0 B gt gr gs) (hne : ∀ t ∈ ts, t ≠ ByteArray.empty ∧ t.size ≤ s.size) (hlen : ts.length ≤ 1000000 ∧ s.size ≤ 1000000) : RS W0 W gr ts := by
  obtain ⟨v, h1, h2⟩ := h.mem
  have hl : (ts ++ [ByteArray.empty]).length = ts.length + 1 := by simp
  rw [hl] at h2
  refine ⟨h.below, L.r0, fun t ht => ⟨(hne t ht).1, Nat.le_trans (hne t ht).2 hlen.2⟩, by omega, ?_⟩
  rcases h2.2 with ⟨_, h0⟩ | ⟨g, cap, cur, rfl, hg, hgc, hn, _⟩
  · cases h0
  · refine ⟨g, 0, cap, by have := L.r; omega, hn, h1, fun j hj => ?_⟩
    have := h2.cells rfl j (.string ((ts ++ [ByteArray.empty]).getD j ByteArray.empty)) (by
      rw [List.getElem?_map, List.getElem?_eq_getElem (by rw [hl]; omega)]
      simp [List.getD_eq_getElem?_getD, List.getElem?_eq_getElem (show j < (ts ++ [ByteArray.empty]).length by rw [hl]; omega)])
    have e : (⟨g, 0, none⟩ : Addr).add j = ⟨g, 0 + j, none⟩ := by unfold Addr.add; split <;> simp_all
    rw [e] at this
    exact this
theorem res2 {tmps : Array Value} {w : World} {v : Value} (hp : tmps.getD 2 undef = v) : (results Tryd.f25 tmps).run Tryd.prog w = .ok v w := by
  have e : Tryd.f25.results = #[.tmp 2] := by kernel_rfl
  rw [Array.getD_eq_getD_getElem?] at hp
  subst hp
  simp only [results, e]
  go_simp
theorem stepIn_append {F : Fence} {n : Nat} {P : Program} {ops : Array Oper} {o : Oper} {a : Act} {w w' : World} {K : Act → World → Prop} {Q : Exit → Act → World → Prop} {E : Prop} {v' : Value}
    (hg : o.guard = none) (s x : Operand) (t : TypeId) (hop : o.op = Op.call { callee := Callee.builtin Builtin.append, args := #[s, x], argTypes := #[t, t] }) (v xv : Value) (hs : a.eval s = v) (hx : a.eval x = xv)
    (hrun : (Builtin.append_ #[t, t] o.type #[v, xv]).run P w = .ok v' w') (hK : K (a.put o.dst v') w') : if Region.wanted o (yielded ops a.tmps) = true then Oper.wpIn F n P o a w K Q else E := by
  have hw : Region.wanted o (yielded ops a.tmps) = true := by simp [Region.wanted, hg]
  rw [if_pos hw]
  unfold Oper.wpIn
  refine ⟨?_, ?_⟩
  · simp [Oper.about, hop, resolve, Target.leads, Sem.run_pure]
  · rw [Oper.semAt_plain F _ _ (by rw [hop]; intro c hc'; cases hc')]
    simp [execOp, hop, resolve, invoke, builtin, hs, hx, hrun, Result.andThen]
    exact hK
theorem with_any {F : Fence} {n : Nat} {P : Program} {md : Region.Mode} {ops : Array Oper} {Q : Exit → Act → World → Prop} {fuel : Nat} {listed : Array Bool} {a : Act} {w : World}
    (h : ∀ R : Nat → Array Bool → Act → World → Prop, (∀ f l a w, R f l a w → wpAnyIn F n P md ops Q f l a w) → (∀ f l a w, wpAnyIn F n P md ops Q f l a w → R f l a w) → R fuel listed a w) : wpAnyIn F n P md ops Q fuel listed a w :=
  h _ (fun _ _ _ _ h => h) (fun _ _ _ _ h => h)
theorem app_step {W0 W : World} {B gt gr gs : Nat} {β : ByteArray × List ByteArray} (L : RL W0 B gt gr gs) (h : RI W0 W B gt gr gs β.1 β.2) (t : ByteArray) (hl : β.2.length ≤ 1000000) (l : Nat) :
    ∃ v g2 c2 w', (Builtin.append_ #[58, 58] 58 #[v, Value.slice (some ⟨W.heap.size, 0, none⟩) 1 1]).run Tryd.prog (W.alloc (Obj.cells #[Value.string t] 9)).drew = .ok (.slice (some ⟨g2, 0, none⟩) (β.2.length + 1) c2) w' ∧
      W.cell? ⟨gt, 0, none⟩ = some (.pointer (some ⟨gr, 0, none⟩)) ∧ W.cell? ⟨gr, 0, none⟩ = some v ∧
      (W.alloc (Obj.cells #[Value.string t] 9)).cell? ⟨gt, 0, none⟩ = some (.pointer (some ⟨gr, 0, none⟩)) ∧ (W.alloc (Obj.cells #[Value.string t] 9)).cell? ⟨gr, 0, none⟩ = some v ∧
      w'.cell? ⟨gt, 0, none⟩ = some (.pointer (some ⟨gr, 0, none⟩)) ∧ w'.cell? ⟨gr, 0, none⟩ = some v ∧ w'.frozen? ⟨gr, 0, none⟩ = false ∧
      (KeepsFrom B W (w'.setCell ⟨gr, 0, none⟩ (.slice (some ⟨g2, 0, none⟩) (β.2.length + 1) c2)) ∧ True ∧ RI W0 (w'.setCell ⟨gr, 0, none⟩ (.slice (some ⟨g2, 0, none⟩) (β.2.length + 1) c2)) B gt gr gs β.1 (β.2 ++ [t])) := by
  obtain ⟨v, m1, m2⟩ := h.mem
  obtain ⟨i, hi, ei⟩ := Option.map_eq_some_iff.1 info9
  simp only [Prod.mk.injEq] at ei
  obtain ⟨e1, e2, e3⟩ := ei
  have hX : (W.alloc (Obj.cells #[Value.string t] 9)).drew.ownsRow B 9 1 v β.2.length (β.2.map Value.string) := (m2.alloc _).drew
  have hne : ∀ k, k < B → some k ≠ v.ownBlock := fun k hk e => by have := (m2.lt k e.symm).1; omega
  have hnew := blk_new W (Obj.cells #[Value.string t] 9)
  obtain ⟨v', w', hrun, ho, hg, hnil⟩ := run_append_own (P := Tryd.prog) (w := (W.alloc (Obj.cells #[Value.string t] 9)).drew) B 58 58 9 i (.string ⟨#[]⟩) 1 16 Tryd.underlying58 hi e1 e2 e3 rfl (by omega) v β.2.length _ hX ⟨W.heap.size, 0, none⟩ 1 1 [.string t] rfl
    (fun j u hu => by
      match j, hu with
      | 0, hu => cases hu; exact blk_cell hnew 0
      | j + 1, hu => simp at hu) (by intro u hu; simp only [List.mem_singleton] at hu; subst hu; rfl) (by simp only [maxLen]; omega) (by omega) (by have := h.sz; show B ≤ (W.alloc _).heap.size; simp only [World.size_alloc]; omega)
  have hk : ∀ k o, k < B → W.heap[k]? = some o → w'.heap[k]? = some o := fun k o hkB hko => (hg.block k (by have := h.sz; show k < (W.alloc _).heap.size; simp only [World.size_alloc]; omega) (hne k hkB)).trans (((below_alloc (Below.refl W.heap.size W) _).block k (Array.getElem?_eq_some_iff.1 hko).1).trans hko)
  have hsz : W.heap.size + 1 ≤ w'.heap.size := by have := hg.size; simpa using this
  rcases ho.2 with ⟨_, h0⟩ | ⟨g2, c2, cur, rfl, _, _⟩
  · omega
  · have hgr := hk _ _ L.r m1
    refine ⟨v, g2, c2, w', hrun, blk_cell h.rv 0, blk_cell m1 0, blk_cell (blk_alloc h.rv _) 0, blk_cell (blk_alloc m1 _) 0, blk_cell (hk _ _ L.t h.rv) 0, blk_cell hgr 0, blk_frozen hgr 0, ⟨?_, ?_⟩, trivial, ?_⟩
    · have := hsz; simp [World.setCell] ; omega
    · intro k o hB hko hc
      refine (Below.heap_setCell w' ⟨gr, 0, none⟩ _ k (by have := L.r; show k ≠ gr; omega)).trans ?_
      have hkl := (Array.getElem?_eq_some_iff.1 hko).1
      refine (hg.block k (by show k < (W.alloc _).heap.size; simp only [World.size_alloc]; omega) (fun e => ?_)).trans (((below_alloc (Below.refl W.heap.size W) _).block k hkl).trans hko)
      rcases m2.2 with ⟨rfl, _⟩ | ⟨g, cap, cur2, rfl, _, hgc, _⟩
      · cases e
      · cases e; rw [hgc] at hko; cases hko; cases hc
    · have hb : Below W0.heap.size W0 w' := h.below.trans ⟨hg.os, hg.tape, hg.output, by omega, fun k hk2 => by
        have hkW : k < W.heap.size := Nat.lt_of_lt_of_le hk2 h.below.size
        exact (hg.block k (by show k < (W.alloc _).heap.size; simp only [World.size_alloc]; omega) (hne k (by have := L.b; omega))).trans ((below_alloc (Below.refl W.heap.size W) _).block k hkW)⟩
      refine ⟨below_set hb L.r0, (Below.heap_setCell w' ⟨gr, 0, none⟩ _ gt (Ne.symm L.rt)).trans (hk _ _ L.t h.rv), (Below.heap_setCell w' ⟨gr, 0, none⟩ _ gs (Ne.symm L.rs)).trans (hk _ _ L.s h.st), ⟨_, blk_put hgr 0 _ rfl, ?_⟩, by have := h.sz; simp [World.setCell]; omega⟩
      have e : (β.2 ++ [t]).map Value.string = β.2.map Value.string ++ [.string t] := by simp
      rw [e, List.length_append]
      exact ownsRow_other ho L.r _
set_option maxHeartbeats 4000000 in
set_option maxRecDepth 100000 in
theorem read_in (s : ByteArray) (hs : s.size ≤ 1000000) (w : World) : Calls Tryd.prog 25 #[.string s] w fun e w' => PostRead w (toks (s.size + 1) s) e w' := by
  have PN := Aside0.mk (parts_new s)
  refine (callsIn_wide (n := 3)).1 ?_
  refine callsIn_of_wp_marks Tryd.func25 rfl trivial ?_ rfl
  simp only [Tryd.ntmps25, List.size_toArray, List.length_cons, List.length_nil, Nat.reduceAdd, Nat.reduceSub, Array.replicate_succ, Array.replicate_zero, List.push_toArray, List.append_toArray, List.nil_append, List.cons_append]
  gi_wp2_with (refine ⟨trivial, ?_⟩; gi_at_call 35; refine (callsIn_wide.2 (PN.out _)).mono ?_; rintro e w2 ⟨rfl, rfl⟩)
  obtain ⟨w8, hw8, HI8, HL8⟩ := three_new w s
  have hz1 : (w.alloc (Obj.cells #[Value.slice none 0 0] 60)).heap.size = w.heap.size + 1 := by simp
  have hz2 : ((w.alloc (Obj.cells #[Value.slice none 0 0] 60)).alloc (Obj.cells #[Value.pointer (some { block := w.heap.size, off := 0 })] 56)).heap.size = w.heap.size + 1 + 1 := by simp
  rw [← hw8]
  try rw [hz2]
  clear hw8 hz1 hz2
  generalize w.heap.size + 1 + 1 = gs at HI8 HL8 ⊢
  generalize w.heap.size + 1 = gt at HI8 HL8 ⊢
  obtain ⟨gr, hgr⟩ : ∃ gr, gr = w.heap.size := ⟨_, rfl⟩
  rw [← hgr] at HI8 HL8 ⊢
  clear hgr
  obtain ⟨B, hB⟩ : ∃ B, B = w8.heap.size := ⟨_, rfl⟩
  rw [← hB] at HI8 HL8
  refine RX.wpIn_rangeX (β := ByteArray × List ByteArray) (α := ByteArray) (n := 3) rfl (by decide) (gf := 45) (lb := #[.pointer (some ⟨gs, 0, none⟩)]) rfl trivial (enters_of Tryd.func45 (by kernel_rfl) rfl) (fun t => #[.string t]) (fun _ => rfl) (fun β t => ∃ n, tokN β.1 = some n ∧ t = β.1.extract 0 n ∧ β.2.length ≤ s.size) (fun β t => (β.1, β.2 ++ [t])) (fun β => ∃ ts, toks (s.size + 1) s = some ts ∧ β.2 = ts ++ [ByteArray.empty]) (s, []) (fun ch W' => ch = wrongP ∧ toks (s.size + 1) s = none ∧ ∃ β : ByteArray × List ByteArray, RI w W' B gt gr gs β.1 β.2) (Kp := fun _ _ => True) (fun _ _ => trivial) (fun _ _ _ _ _ _ _ => trivial) (fun β W' => RI w W' B gt gr gs β.1 β.2) (fun _ _ => False) (by rw [← hB]; exact RI.own HL8) (fun _ _ _ _ h _ _ => h) HI8 (fun t a' W' => a' = { tmps := #[Value.string s, undef, Value.pointer none, Value.pointer (some { block := gt, off := 0 }), .string t, Value.agg #[Value.slice none 0 0], Value.pointer (some { block := gr, off := 0 }), Value.string s, Value.func (Fn.func 45) #[] #[Value.pointer (some { block := gs, off := 0 })], .string t, undef, undef, undef, undef, undef, undef, undef, undef, undef, undef, undef], defers := [] }) (fun _ _ _ _ _ _ h _ _ => h) ?iter ?assign ?body ?done (fun _ _ _ _ h _ => h.elim) ?panic
  case iter =>
    intro l J Jx hJ hY W9 hi hj
    refine (parts_in B 1 l gs s hs (fun β W' => RI w W' B gt gr gs β.1 β.2) J (fun β W' h => ⟨h.st, h.sz⟩) (fun β W1 W2 h hb => h.next hb) (fun W1 W2 h hb => hJ W1 W2 h (RX.keeps_below hb)) (fun β u W' h => h.put HL8 u) (fun u W' h => hJ _ _ h ((KeepsOthers.setCell _ _ _).from _)) (fun β W' n hn hl hi hj => (hY β _ W' hi hj ⟨n, hn, rfl, hl⟩).mono fun e w hR => ?_) W9 hi hj).mono ?_
    · rcases hR with ⟨h1, h2, h3, _⟩ | ⟨_, ⟨_, h⟩, _⟩
      · exact ⟨h1, h2, h3⟩
      · exact h.elim
    · rintro e W' (⟨v, rfl, u, ts, h1, h2, h3⟩ | ⟨rfl, h1, h2, h3⟩)
      · exact Or.inl ⟨v, rfl, Or.inl ⟨(u, ts ++ [ByteArray.empty]), ⟨ts, h1, rfl⟩, h2, h3⟩⟩
      · exact Or.inr ⟨_, rfl, ⟨rfl, h1, h2⟩, h3⟩
  case assign =>
    rintro l β t W9 K hi hn hK
    have hK2 := Aside0.mk (hK _ W9 ((KeepsOthers.refl _).from _) trivial hi rfl)
    clear hK hi hn
    gi_wp2
    exact hK2.out
  case body =>
    rintro l β t _ W9 hl hi ⟨n, hn, ht, hb⟩ rfl
    obtain ⟨v, g2, c2, w', hrun, c0, c1, x0, x1, y0, y1, yf, hfin⟩ := app_step HL8 hi t (by omega) l
    have HFIN := Aside0.mk hfin
    clear hi hn ht hb hfin
    gi_wp2
    have hmx : Tryd.prog.follows .mixedOrders = true := by kernel_rfl
    refine wpIn_region_any hmx ?_
    change wpAnyIn _ _ _ _ _ _ _ _ _ (World.drew _)
    refine with_any ?_
    intro R hR hR'
    --BEGIN
    have S01234567 : R 3 #[true, true, true, true, true, true, true, true, false, false, false] { tmps := #[Value.string s, undef, Value.pointer none, Value.pointer (some ⟨gt, 0, none⟩), Value.string t, Value.agg #[Value.slice none 0 0], Value.pointer (some ⟨gr, 0, none⟩), Value.string s, Value.func (Fn.func 45) #[] #[Value.pointer (some ⟨gs, 0, none⟩)], Value.string t, Value.pointer (some ⟨gr, 0, none⟩), Value.pointer (some ⟨gr, 0, none⟩), Value.pointer (some ⟨gr, 0, none⟩), Value.pointer (some ⟨gr, 0, none⟩), v, Value.string t, Value.slice (some ⟨W9.heap.size, 0, none⟩) 1 1, Value.slice (some ⟨g2, 0, none⟩) (β.2.length + 1) c2, undef, undef, undef], defers := [] } w' := by
      refine hR' _ _ _ _ ?_
      refine wpAnyIn_ready (rs := [8]) (by kernel_rfl) (by simp) ?_
      refine AllReadyIn.cons rfl (fun K hK => ?_) AllReadyIn.nil
      go_simp
      refine hK _ _ ?_
      clear hK K
      refine wpAnyIn_ready (rs := [9]) (by kernel_rfl) (by simp) ?_
      refine AllReadyIn.cons rfl (fun K hK => ?_) AllReadyIn.nil
      go_simp
      refine hK _ _ ?_
      clear hK K
      refine wpAnyIn_ready (rs := [10]) (by kernel_rfl) (by simp) ?_
      refine AllReadyIn.cons rfl (fun K hK => ?_) AllReadyIn.nil
      go_simp
      refine hK _ _ ?_
      clear hK K
      refine wpAnyIn_done (by kernel_rfl) ?_ _
      exact ⟨hB ▸ HFIN.out.1, HFIN.out.2.1, HFIN.out.2.2⟩
    have S0123456 : R 4 #[true, true, true, true, true, true, true, false, false, false, false] { tmps := #[Value.string s, undef, Value.pointer none, Value.pointer (some ⟨gt, 0, none⟩), Value.string t, Value.agg #[Value.slice none 0 0], Value.pointer (some ⟨gr, 0, none⟩), Value.string s, Value.func (Fn.func 45) #[] #[Value.pointer (some ⟨gs, 0, none⟩)], Value.string t, Value.pointer (some ⟨gr, 0, none⟩), Value.pointer (some ⟨gr, 0, none⟩), Value.pointer (some ⟨gr, 0, none⟩), Value.pointer (some ⟨gr, 0, none⟩), v, Value.string t, Value.slice (some ⟨W9.heap.size, 0, none⟩) 1 1, undef, undef, undef, undef], defers := [] } (W9.alloc (Obj.cells #[Value.string t] 9)).drew := by
      refine hR' _ _ _ _ ?_
      refine wpAnyIn_ready (rs := [7]) (by kernel_rfl) (by simp) ?_
      refine AllReadyIn.cons rfl (fun K hK => ?_) ?_
      · refine stepIn_append rfl (.tmp 14) (.tmp 16) 58 rfl _ _ rfl rfl hrun ?_
        refine hK _ _ ?_
        exact hR _ _ _ _ S01234567
      exact AllReadyIn.nil
    have S1234567 : R 4 #[false, true, true, true, true, true, true, true, false, false, false] { tmps := #[Value.string s, undef, Value.pointer none, Value.pointer (some ⟨gt, 0, none⟩), Value.string t, Value.agg #[Value.slice none 0 0], Value.pointer (some ⟨gr, 0, none⟩), Value.string s, Value.func (Fn.func 45) #[] #[Value.pointer (some ⟨gs, 0, none⟩)], Value.string t, undef, Value.pointer (some ⟨gr, 0, none⟩), Value.pointer (some ⟨gr, 0, none⟩), Value.pointer (some ⟨gr, 0, none⟩), v, Value.string t, Value.slice (some ⟨W9.heap.size, 0, none⟩) 1 1, Value.slice (some ⟨g2, 0, none⟩) (β.2.length + 1) c2, undef, undef, undef], defers := [] } w' := by
      refine hR' _ _ _ _ ?_
      refine wpAnyIn_ready (rs := [0]) (by kernel_rfl) (by simp) ?_
      refine AllReadyIn.cons rfl (fun K hK => ?_) ?_
      · go_simp
        refine hK _ _ ?_
        exact hR _ _ _ _ S01234567
      exact AllReadyIn.nil
    have S012345 : R 5 #[true, true, true, true, true, true, false, false, false, false, false] { tmps := #[Value.string s, undef, Value.pointer none, Value.pointer (some ⟨gt, 0, none⟩), Value.string t, Value.agg #[Value.slice none 0 0], Value.pointer (some ⟨gr, 0, none⟩), Value.string s, Value.func (Fn.func 45) #[] #[Value.pointer (some ⟨gs, 0, none⟩)], Value.string t, Value.pointer (some ⟨gr, 0, none⟩), Value.pointer (some ⟨gr, 0, none⟩), Value.pointer (some ⟨gr, 0, none⟩), Value.pointer (some ⟨gr, 0, none⟩), v, Value.string t, undef, undef, undef, undef, undef], defers := [] } W9.drew := by
      refine hR' _ _ _ _ ?_
      refine wpAnyIn_ready (rs := [6]) (by kernel_rfl) (by simp) ?_
      refine AllReadyIn.cons rfl (fun K hK => ?_) ?_
      · go_simp
        refine hK _ _ ?_
        exact hR _ _ _ _ S0123456
      exact AllReadyIn.nil
    have S012356 : R 5 #[true, true, true, true, false, true, true, false, false, false, false] { tmps := #[Value.string s, undef, Value.pointer none, Value.pointer (some ⟨gt, 0, none⟩), Value.string t, Value.agg #[Value.slice none 0 0], Value.pointer (some ⟨gr, 0, none⟩), Value.string s, Value.func (Fn.func 45) #[] #[Value.pointer (some ⟨gs, 0, none⟩)], Value.string t, Value.pointer (some ⟨gr, 0, none⟩), Value.pointer (some ⟨gr, 0, none⟩), Value.pointer (some ⟨gr, 0, none⟩), Value.pointer (some ⟨gr, 0, none⟩), undef, Value.string t, Value.slice (some ⟨W9.heap.size, 0, none⟩) 1 1, undef, undef, undef, undef], defers := [] } (W9.alloc (Obj.cells #[Value.string t] 9)).drew := by
      refine hR' _ _ _ _ ?_
      refine wpAnyIn_ready (rs := [4]) (by kernel_rfl) (by simp) ?_
      refine AllReadyIn.cons rfl (fun K hK => ?_) ?_
      · go_simp
        refine hK _ _ ?_
        exact hR _ _ _ _ S0123456
      exact AllReadyIn.nil
    have S123456 : R 5 #[false, true, true, true, true, true, true, false, false, false, false] { tmps := #[Value.string s, undef, Value.pointer none, Value.pointer (some ⟨gt, 0, none⟩), Value.string t, Value.agg #[Value.slice none 0 0], Value.pointer (some ⟨gr, 0, none⟩), Value.string s, Value.func (Fn.func 45) #[] #[Value.pointer (some ⟨gs, 0, none⟩)], Value.string t, undef, Value.pointer (some ⟨gr, 0, none⟩), Value.pointer (some ⟨gr, 0, none⟩), Value.pointer (some ⟨gr, 0, none⟩), v, Value.string t, Value.slice (some ⟨W9.heap.size, 0, none⟩) 1 1, undef, undef, undef, undef], defers := [] } (W9.alloc (Obj.cells #[Value.string t] 9)).drew := by
      refine hR' _ _ _ _ ?_
      refine wpAnyIn_ready (rs := [0, 7]) (by kernel_rfl) (by simp) ?_
      refine AllReadyIn.cons rfl (fun K hK => ?_) ?_
      · go_simp
        refine hK _ _ ?_
        exact hR _ _ _ _ S0123456
      refine AllReadyIn.cons rfl (fun K hK => ?_) ?_
      · refine stepIn_append rfl (.tmp 14) (.tmp 16) 58 rfl _ _ rfl rfl hrun ?_
        refine hK _ _ ?_
        exact hR _ _ _ _ S1234567
      exact AllReadyIn.nil
    have S01234 : R 6 #[true, true, true, true, true, false, false, false, false, false, false] { tmps := #[Value.string s, undef, Value.pointer none, Value.pointer (some ⟨gt, 0, none⟩), Value.string t, Value.agg #[Value.slice none 0 0], Value.pointer (some ⟨gr, 0, none⟩), Value.string s, Value.func (Fn.func 45) #[] #[Value.pointer (some ⟨gs, 0, none⟩)], Value.string t, Value.pointer (some ⟨gr, 0, none⟩), Value.pointer (some ⟨gr, 0, none⟩), Value.pointer (some ⟨gr, 0, none⟩), Value.pointer (some ⟨gr, 0, none⟩), v, undef, undef, undef, undef, undef, undef], defers := [] } W9.drew := by
      refine hR' _ _ _ _ ?_
      refine wpAnyIn_ready (rs := [5]) (by kernel_rfl) (by simp) ?_
      refine AllReadyIn.cons rfl (fun K hK => ?_) ?_
      · go_simp
        refine hK _ _ ?_
        exact hR _ _ _ _ S012345
      exact AllReadyIn.nil
    have S01235 : R 6 #[true, true, true, true, false, true, false, false, false, false, false] { tmps := #[Value.string s, undef, Value.pointer none, Value.pointer (some ⟨gt, 0, none⟩), Value.string t, Value.agg #[Value.slice none 0 0], Value.pointer (some ⟨gr, 0, none⟩), Value.string s, Value.func (Fn.func 45) #[] #[Value.pointer (some ⟨gs, 0, none⟩)], Value.string t, Value.pointer (some ⟨gr, 0, none⟩), Value.pointer (some ⟨gr, 0, none⟩), Value.pointer (some ⟨gr, 0, none⟩), Value.pointer (some ⟨gr, 0, none⟩), undef, Value.string t, undef, undef, undef, undef, undef], defers := [] } W9.drew := by
      refine hR' _ _ _ _ ?_
      refine wpAnyIn_ready (rs := [4, 6]) (by kernel_rfl) (by simp) ?_
      refine AllReadyIn.cons rfl (fun K hK => ?_) ?_
      · go_simp
        refine hK _ _ ?_
        exact hR _ _ _ _ S012345
      refine AllReadyIn.cons rfl (fun K hK => ?_) ?_
      · go_simp
        refine hK _ _ ?_
        exact hR _ _ _ _ S012356
      exact AllReadyIn.nil
    have S01256 : R 6 #[true, true, true, false, false, true, true, false, false, false, false] { tmps := #[Value.string s, undef, Value.pointer none, Value.pointer (some ⟨gt, 0, none⟩), Value.string t, Value.agg #[Value.slice none 0 0], Value.pointer (some ⟨gr, 0, none⟩), Value.string s, Value.func (Fn.func 45) #[] #[Value.pointer (some ⟨gs, 0, none⟩)], Value.string t, Value.pointer (some ⟨gr, 0, none⟩), Value.pointer (some ⟨gr, 0, none⟩), Value.pointer (some ⟨gr, 0, none⟩), undef, undef, Value.string t, Value.slice (some ⟨W9.heap.size, 0, none⟩) 1 1, undef, undef, undef, undef], defers := [] } (W9.alloc (Obj.cells #[Value.string t] 9)).drew := by
      refine hR' _ _ _ _ ?_
      refine wpAnyIn_ready (rs := [3]) (by kernel_rfl) (by simp) ?_
      refine AllReadyIn.cons rfl (fun K hK => ?_) ?_
      · go_simp
        refine hK _ _ ?_
        exact hR _ _ _ _ S012356
      exact AllReadyIn.nil
    have S12345 : R 6 #[false, true, true, true, true, true, false, false, false, false, false] { tmps := #[Value.string s, undef, Value.pointer none, Value.pointer (some ⟨gt, 0, none⟩), Value.string t, Value.agg #[Value.slice none 0 0], Value.pointer (some ⟨gr, 0, none⟩), Value.string s, Value.func (Fn.func 45) #[] #[Value.pointer (some ⟨gs, 0, none⟩)], Value.string t, undef, Value.pointer (some ⟨gr, 0, none⟩), Value.pointer (some ⟨gr, 0, none⟩), Value.pointer (some ⟨gr, 0, none⟩), v, Value.string t, undef, undef, undef, undef, undef], defers := [] } W9.drew := by
      refine hR' _ _ _ _ ?_
      refine wpAnyIn_ready (rs := [0, 6]) (by kernel_rfl) (by simp) ?_
      refine AllReadyIn.cons rfl (fun K hK => ?_) ?_
      · go_simp
        refine hK _ _ ?_
        exact hR _ _ _ _ S012345
      refine AllReadyIn.cons rfl (fun K hK => ?_) ?_
      · go_simp
        refine hK _ _ ?_
        exact hR _ _ _ _ S123456
      exact AllReadyIn.nil
    have S12356 : R 6 #[false, true, true, true, false, true, true, false, false, false, false] { tmps := #[Value.string s, undef, Value.pointer none, Value.pointer (some ⟨gt, 0, none⟩), Value.string t, Value.agg #[Value.slice none 0 0], Value.pointer (some ⟨gr, 0, none⟩), Value.string s, Value.func (Fn.func 45) #[] #[Value.pointer (some ⟨gs, 0, none⟩)], Value.string t, undef, Value.pointer (some ⟨gr, 0, none⟩), Value.pointer (some ⟨gr, 0, none⟩), Value.pointer (some ⟨gr, 0, none⟩), undef, Value.string t, Value.slice (some ⟨W9.heap.size, 0, none⟩) 1 1, undef, undef, undef, undef], defers := [] } (W9.alloc (Obj.cells #[Value.string t] 9)).drew := by
      refine hR' _ _ _ _ ?_
      refine wpAnyIn_ready (rs := [0, 4]) (by kernel_rfl) (by simp) ?_
      refine AllReadyIn.cons rfl (fun K hK => ?_) ?_
      · go_simp
        refine hK _ _ ?_
        exact hR _ _ _ _ S012356
      refine AllReadyIn.cons rfl (fun K hK => ?_) ?_
      · go_simp
        refine hK _ _ ?_
        exact hR _ _ _ _ S123456
      exact AllReadyIn.nil
    have S0123 : R 7 #[true, true, true, true, false, false, false, false, false, false, false] { tmps := #[Value.string s, undef, Value.pointer none, Value.pointer (some ⟨gt, 0, none⟩), Value.string t, Value.agg #[Value.slice none 0 0], Value.pointer (some ⟨gr, 0, none⟩), Value.string s, Value.func (Fn.func 45) #[] #[Value.pointer (some ⟨gs, 0, none⟩)], Value.string t, Value.pointer (some ⟨gr, 0, none⟩), Value.pointer (some ⟨gr, 0, none⟩), Value.pointer (some ⟨gr, 0, none⟩), Value.pointer (some ⟨gr, 0, none⟩), undef, undef, undef, undef, undef, undef, undef], defers := [] } W9.drew := by
      refine hR' _ _ _ _ ?_
      refine wpAnyIn_ready (rs := [4, 5]) (by kernel_rfl) (by simp) ?_
      refine AllReadyIn.cons rfl (fun K hK => ?_) ?_
      · go_simp
        refine hK _ _ ?_
        exact hR _ _ _ _ S01234
      refine AllReadyIn.cons rfl (fun K hK => ?_) ?_
      · go_simp
        refine hK _ _ ?_
        exact hR _ _ _ _ S01235
      exact AllReadyIn.nil
    have S0125 : R 7 #[true, true, true, false, false, true, false, false, false, false, false] { tmps := #[Value.string s, undef, Value.pointer none, Value.pointer (some ⟨gt, 0, none⟩), Value.string t, Value.agg #[Value.slice none 0 0], Value.pointer (some ⟨gr, 0, none⟩), Value.string s, Value.func (Fn.func 45) #[] #[Value.pointer (some ⟨gs, 0, none⟩)], Value.string t, Value.pointer (some ⟨gr, 0, none⟩), Value.pointer (some ⟨gr, 0, none⟩), Value.pointer (some ⟨gr, 0, none⟩), undef, undef, Value.string t, undef, undef, undef, undef, undef], defers := [] } W9.drew := by
      refine hR' _ _ _ _ ?_
      refine wpAnyIn_ready (rs := [3, 6]) (by kernel_rfl) (by simp) ?_
      refine AllReadyIn.cons rfl (fun K hK => ?_) ?_
      · go_simp
        refine hK _ _ ?_
        exact hR _ _ _ _ S01235
      refine AllReadyIn.cons rfl (fun K hK => ?_) ?_
      · go_simp
        refine hK _ _ ?_
        exact hR _ _ _ _ S01256
      exact AllReadyIn.nil
    have S0156 : R 7 #[true, true, false, false, false, true, true, false, false, false, false] { tmps := #[Value.string s, undef, Value.pointer none, Value.pointer (some ⟨gt, 0, none⟩), Value.string t, Value.agg #[Value.slice none 0 0], Value.pointer (some ⟨gr, 0, none⟩), Value.string s, Value.func (Fn.func 45) #[] #[Value.pointer (some ⟨gs, 0, none⟩)], Value.string t, Value.pointer (some ⟨gr, 0, none⟩), Value.pointer (some ⟨gr, 0, none⟩), undef, undef, undef, Value.string t, Value.slice (some ⟨W9.heap.size, 0, none⟩) 1 1, undef, undef, undef, undef], defers := [] } (W9.alloc (Obj.cells #[Value.string t] 9)).drew := by
      refine hR' _ _ _ _ ?_
      refine wpAnyIn_ready (rs := [2]) (by kernel_rfl) (by simp) ?_
      refine AllReadyIn.cons rfl (fun K hK => ?_) ?_
      · go_simp
        refine hK _ _ ?_
        exact hR _ _ _ _ S01256
      exact AllReadyIn.nil
    have S1234 : R 7 #[false, true, true, true, true, false, false, false, false, false, false] { tmps := #[Value.string s, undef, Value.pointer none, Value.pointer (some ⟨gt, 0, none⟩), Value.string t, Value.agg #[Value.slice none 0 0], Value.pointer (some ⟨gr, 0, none⟩), Value.string s, Value.func (Fn.func 45) #[] #[Value.pointer (some ⟨gs, 0, none⟩)], Value.string t, undef, Value.pointer (some ⟨gr, 0, none⟩), Value.pointer (some ⟨gr, 0, none⟩), Value.pointer (some ⟨gr, 0, none⟩), v, undef, undef, undef, undef, undef, undef], defers := [] } W9.drew := by
      refine hR' _ _ _ _ ?_
      refine wpAnyIn_ready (rs := [0, 5]) (by kernel_rfl) (by simp) ?_
      refine AllReadyIn.cons rfl (fun K hK => ?_) ?_
      · go_simp
        refine hK _ _ ?_
        exact hR _ _ _ _ S01234
      refine AllReadyIn.cons rfl (fun K hK => ?_) ?_
      · go_simp
        refine hK _ _ ?_
        exact hR _ _ _ _ S12345
      exact AllReadyIn.nil
    have S1235 : R 7 #[false, true, true, true, false, true, false, false, false, false, false] { tmps := #[Value.string s, undef, Value.pointer none, Value.pointer (some ⟨gt, 0, none⟩), Value.string t, Value.agg #[Value.slice none 0 0], Value.pointer (some ⟨gr, 0, none⟩), Value.string s, Value.func (Fn.func 45) #[] #[Value.pointer (some ⟨gs, 0, none⟩)], Value.string t, undef, Value.pointer (some ⟨gr, 0, none⟩), Value.pointer (some ⟨gr, 0, none⟩), Value.pointer (some ⟨gr, 0, none⟩), undef, Value.string t, undef, undef, undef, undef, undef], defers := [] } W9.drew := by
      refine hR' _ _ _ _ ?_
      refine wpAnyIn_ready (rs := [0, 4, 6]) (by kernel_rfl) (by simp) ?_
      refine AllReadyIn.cons rfl (fun K hK => ?_) ?_
      · go_simp
        refine hK _ _ ?_
        exact hR _ _ _ _ S01235
      refine AllReadyIn.cons rfl (fun K hK => ?_) ?_
      · go_simp
        refine hK _ _ ?_
        exact hR _ _ _ _ S12345
      refine AllReadyIn.cons rfl (fun K hK => ?_) ?_
      · go_simp
        refine hK _ _ ?_
        exact hR _ _ _ _ S12356
      exact AllReadyIn.nil
    have S1256 : R 7 #[false, true, true, false, false, true, true, false, false, false, false] { tmps := #[Value.string s, undef, Value.pointer none, Value.pointer (some ⟨gt, 0, none⟩), Value.string t, Value.agg #[Value.slice none 0 0], Value.pointer (some ⟨gr, 0, none⟩), Value.string s, Value.func (Fn.func 45) #[] #[Value.pointer (some ⟨gs, 0, none⟩)], Value.string t, undef, Value.pointer (some ⟨gr, 0, none⟩), Value.pointer (some ⟨gr, 0, none⟩), undef, undef, Value.string t, Value.slice (some ⟨W9.heap.size, 0, none⟩) 1 1, undef, undef, undef, undef], defers := [] } (W9.alloc (Obj.cells #[Value.string t] 9)).drew := by
      refine hR' _ _ _ _ ?_
      refine wpAnyIn_ready (rs := [0, 3]) (by kernel_rfl) (by simp) ?_
      refine AllReadyIn.cons rfl (fun K hK => ?_) ?_
      · go_simp
        refine hK _ _ ?_
        exact hR _ _ _ _ S01256
      refine AllReadyIn.cons rfl (fun K hK => ?_) ?_
      · go_simp
        refine hK _ _ ?_
        exact hR _ _ _ _ S12356
      exact AllReadyIn.nil
    have S012 : R 8 #[true, true, true, false, false, false, false, false, false, false, false] { tmps := #[Value.string s, undef, Value.pointer none, Value.pointer (some ⟨gt, 0, none⟩), Value.string t, Value.agg #[Value.slice none 0 0], Value.pointer (some ⟨gr, 0, none⟩), Value.string s, Value.func (Fn.func 45) #[] #[Value.pointer (some ⟨gs, 0, none⟩)], Value.string t, Value.pointer (some ⟨gr, 0, none⟩), Value.pointer (some ⟨gr, 0, none⟩), Value.pointer (some ⟨gr, 0, none⟩), undef, undef, undef, undef, undef, undef, undef, undef], defers := [] } W9.drew := by
      refine hR' _ _ _ _ ?_
      refine wpAnyIn_ready (rs := [3, 5]) (by kernel_rfl) (by simp) ?_
      refine AllReadyIn.cons rfl (fun K hK => ?_) ?_
      · go_simp
        refine hK _ _ ?_
        exact hR _ _ _ _ S0123
      refine AllReadyIn.cons rfl (fun K hK => ?_) ?_
      · go_simp
        refine hK _ _ ?_
        exact hR _ _ _ _ S0125
      exact AllReadyIn.nil
    have S015 : R 8 #[true, true, false, false, false, true, false, false, false, false, false] { tmps := #[Value.string s, undef, Value.pointer none, Value.pointer (some ⟨gt, 0, none⟩), Value.string t, Value.agg #[Value.slice none 0 0], Value.pointer (some ⟨gr, 0, none⟩), Value.string s, Value.func (Fn.func 45) #[] #[Value.pointer (some ⟨gs, 0, none⟩)], Value.string t, Value.pointer (some ⟨gr, 0, none⟩), Value.pointer (some ⟨gr, 0, none⟩), undef, undef, undef, Value.string t, undef, undef, undef, undef, undef], defers := [] } W9.drew := by
      refine hR' _ _ _ _ ?_
      refine wpAnyIn_ready (rs := [2, 6]) (by kernel_rfl) (by simp) ?_
      refine AllReadyIn.cons rfl (fun K hK => ?_) ?_
      · go_simp
        refine hK _ _ ?_
        exact hR _ _ _ _ S0125
      refine AllReadyIn.cons rfl (fun K hK => ?_) ?_
      · go_simp
        refine hK _ _ ?_
        exact hR _ _ _ _ S0156
      exact AllReadyIn.nil
    have S056 : R 8 #[true, false, false, false, false, true, true, false, false, false, false] { tmps := #[Value.string s, undef, Value.pointer none, Value.pointer (some ⟨gt, 0, none⟩), Value.string t, Value.agg #[Value.slice none 0 0], Value.pointer (some ⟨gr, 0, none⟩), Value.string s, Value.func (Fn.func 45) #[] #[Value.pointer (some ⟨gs, 0, none⟩)], Value.string t, Value.pointer (some ⟨gr, 0, none⟩), undef, undef, undef, undef, Value.string t, Value.slice (some ⟨W9.heap.size, 0, none⟩) 1 1, undef, undef, undef, undef], defers := [] } (W9.alloc (Obj.cells #[Value.string t] 9)).drew := by
      refine hR' _ _ _ _ ?_
      refine wpAnyIn_ready (rs := [1]) (by kernel_rfl) (by simp) ?_
      refine AllReadyIn.cons rfl (fun K hK => ?_) ?_
      · go_simp
        refine hK _ _ ?_
        exact hR _ _ _ _ S0156
      exact AllReadyIn.nil
    have S123 : R 8 #[false, true, true, true, false, false, false, false, false, false, false] { tmps := #[Value.string s, undef, Value.pointer none, Value.pointer (some ⟨gt, 0, none⟩), Value.string t, Value.agg #[Value.slice none 0 0], Value.pointer (some ⟨gr, 0, none⟩), Value.string s, Value.func (Fn.func 45) #[] #[Value.pointer (some ⟨gs, 0, none⟩)], Value.string t, undef, Value.pointer (some ⟨gr, 0, none⟩), Value.pointer (some ⟨gr, 0, none⟩), Value.pointer (some ⟨gr, 0, none⟩), undef, undef, undef, undef, undef, undef, undef], defers := [] } W9.drew := by
      refine hR' _ _ _ _ ?_
      refine wpAnyIn_ready (rs := [0, 4, 5]) (by kernel_rfl) (by simp) ?_
      refine AllReadyIn.cons rfl (fun K hK => ?_) ?_
      · go_simp
        refine hK _ _ ?_
        exact hR _ _ _ _ S0123
      refine AllReadyIn.cons rfl (fun K hK => ?_) ?_
      · go_simp
        refine hK _ _ ?_
        exact hR _ _ _ _ S1234
      refine AllReadyIn.cons rfl (fun K hK => ?_) ?_
      · go_simp
        refine hK _ _ ?_
        exact hR _ _ _ _ S1235
      exact AllReadyIn.nil
    have S125 : R 8 #[false, true, true, false, false, true, false, false, false, false, false] { tmps := #[Value.string s, undef, Value.pointer none, Value.pointer (some ⟨gt, 0, none⟩), Value.string t, Value.agg #[Value.slice none 0 0], Value.pointer (some ⟨gr, 0, none⟩), Value.string s, Value.func (Fn.func 45) #[] #[Value.pointer (some ⟨gs, 0, none⟩)], Value.string t, undef, Value.pointer (some ⟨gr, 0, none⟩), Value.pointer (some ⟨gr, 0, none⟩), undef, undef, Value.string t, undef, undef, undef, undef, undef], defers := [] } W9.drew := by
      refine hR' _ _ _ _ ?_
      refine wpAnyIn_ready (rs := [0, 3, 6]) (by kernel_rfl) (by simp) ?_
      refine AllReadyIn.cons rfl (fun K hK => ?_) ?_
      · go_simp
        refine hK _ _ ?_
        exact hR _ _ _ _ S0125
      refine AllReadyIn.cons rfl (fun K hK => ?_) ?_
      · go_simp
        refine hK _ _ ?_
        exact hR _ _ _ _ S1235
      refine AllReadyIn.cons rfl (fun K hK => ?_) ?_
      · go_simp
        refine hK _ _ ?_
        exact hR _ _ _ _ S1256
      exact AllReadyIn.nil
    have S156 : R 8 #[false, true, false, false, false, true, true, false, false, false, false] { tmps := #[Value.string s, undef, Value.pointer none, Value.pointer (some ⟨gt, 0, none⟩), Value.string t, Value.agg #[Value.slice none 0 0], Value.pointer (some ⟨gr, 0, none⟩), Value.string s, Value.func (Fn.func 45) #[] #[Value.pointer (some ⟨gs, 0, none⟩)], Value.string t, undef, Value.pointer (some ⟨gr, 0, none⟩), undef, undef, undef, Value.string t, Value.slice (some ⟨W9.heap.size, 0, none⟩) 1 1, undef, undef, undef, undef], defers := [] } (W9.alloc (Obj.cells #[Value.string t] 9)).drew := by
      refine hR' _ _ _ _ ?_
      refine wpAnyIn_ready (rs := [0, 2]) (by kernel_rfl) (by simp) ?_
      refine AllReadyIn.cons rfl (fun K hK => ?_) ?_
      · go_simp
        refine hK _ _ ?_
        exact hR _ _ _ _ S0156
      refine AllReadyIn.cons rfl (fun K hK => ?_) ?_
      · go_simp
        refine hK _ _ ?_
        exact hR _ _ _ _ S1256
      exact AllReadyIn.nil
    have S01 : R 9 #[true, true, false, false, false, false, false, false, false, false, false] { tmps := #[Value.string s, undef, Value.pointer none, Value.pointer (some ⟨gt, 0, none⟩), Value.string t, Value.agg #[Value.slice none 0 0], Value.pointer (some ⟨gr, 0, none⟩), Value.string s, Value.func (Fn.func 45) #[] #[Value.pointer (some ⟨gs, 0, none⟩)], Value.string t, Value.pointer (some ⟨gr, 0, none⟩), Value.pointer (some ⟨gr, 0, none⟩), undef, undef, undef, undef, undef, undef, undef, undef, undef], defers := [] } W9.drew := by
      refine hR' _ _ _ _ ?_
      refine wpAnyIn_ready (rs := [2, 5]) (by kernel_rfl) (by simp) ?_
      refine AllReadyIn.cons rfl (fun K hK => ?_) ?_
      · go_simp
        refine hK _ _ ?_
        exact hR _ _ _ _ S012
      refine AllReadyIn.cons rfl (fun K hK => ?_) ?_
      · go_simp
        refine hK _ _ ?_
        exact hR _ _ _ _ S015
      exact AllReadyIn.nil
    have S05 : R 9 #[true, false, false, false, false, true, false, false, false, false, false] { tmps := #[Value.string s, undef, Value.pointer none, Value.pointer (some ⟨gt, 0, none⟩), Value.string t, Value.agg #[Value.slice none 0 0], Value.pointer (some ⟨gr, 0, none⟩), Value.string s, Value.func (Fn.func 45) #[] #[Value.pointer (some ⟨gs, 0, none⟩)], Value.string t, Value.pointer (some ⟨gr, 0, none⟩), undef, undef, undef, undef, Value.string t, undef, undef, undef, undef, undef], defers := [] } W9.drew := by
      refine hR' _ _ _ _ ?_
      refine wpAnyIn_ready (rs := [1, 6]) (by kernel_rfl) (by simp) ?_
      refine AllReadyIn.cons rfl (fun K hK => ?_) ?_
      · go_simp
        refine hK _ _ ?_
        exact hR _ _ _ _ S015
      refine AllReadyIn.cons rfl (fun K hK => ?_) ?_
      · go_simp
        refine hK _ _ ?_
        exact hR _ _ _ _ S056
      exact AllReadyIn.nil
    have S12 : R 9 #[false, true, true, false, false, false, false, false, false, false, false] { tmps := #[Value.string s, undef, Value.pointer none, Value.pointer (some ⟨gt, 0, none⟩), Value.string t, Value.agg #[Value.slice none 0 0], Value.pointer (some ⟨gr, 0, none⟩), Value.string s, Value.func (Fn.func 45) #[] #[Value.pointer (some ⟨gs, 0, none⟩)], Value.string t, undef, Value.pointer (some ⟨gr, 0, none⟩), Value.pointer (some ⟨gr, 0, none⟩), undef, undef, undef, undef, undef, undef, undef, undef], defers := [] } W9.drew := by
      refine hR' _ _ _ _ ?_
      refine wpAnyIn_ready (rs := [0, 3, 5]) (by kernel_rfl) (by simp) ?_
      refine AllReadyIn.cons rfl (fun K hK => ?_) ?_
      · go_simp
        refine hK _ _ ?_
        exact hR _ _ _ _ S012
      refine AllReadyIn.cons rfl (fun K hK => ?_) ?_
      · go_simp
        refine hK _ _ ?_
        exact hR _ _ _ _ S123
      refine AllReadyIn.cons rfl (fun K hK => ?_) ?_
      · go_simp
        refine hK _ _ ?_
        exact hR _ _ _ _ S125
      exact AllReadyIn.nil
    have S15 : R 9 #[false, true, false, false, false, true, false, false, false, false, false] { tmps := #[Value.string s, undef, Value.pointer none, Value.pointer (some ⟨gt, 0, none⟩), Value.string t, Value.agg #[Value.slice none 0 0], Value.pointer (some ⟨gr, 0, none⟩), Value.string s, Value.func (Fn.func 45) #[] #[Value.pointer (some ⟨gs, 0, none⟩)], Value.string t, undef, Value.pointer (some ⟨gr, 0, none⟩), undef, undef, undef, Value.string t, undef, undef, undef, undef, undef], defers := [] } W9.drew := by
      refine hR' _ _ _ _ ?_
      refine wpAnyIn_ready (rs := [0, 2, 6]) (by kernel_rfl) (by simp) ?_
      refine AllReadyIn.cons rfl (fun K hK => ?_) ?_
      · go_simp
        refine hK _ _ ?_
        exact hR _ _ _ _ S015
      refine AllReadyIn.cons rfl (fun K hK => ?_) ?_
      · go_simp
        refine hK _ _ ?_
        exact hR _ _ _ _ S125
      refine AllReadyIn.cons rfl (fun K hK => ?_) ?_
      · go_simp
        refine hK _ _ ?_
        exact hR _ _ _ _ S156
      exact AllReadyIn.nil
    have S56 : R 9 #[false, false, false, false, false, true, true, false, false, false, false] { tmps := #[Value.string s, undef, Value.pointer none, Value.pointer (some ⟨gt, 0, none⟩), Value.string t, Value.agg #[Value.slice none 0 0], Value.pointer (some ⟨gr, 0, none⟩), Value.string s, Value.func (Fn.func 45) #[] #[Value.pointer (some ⟨gs, 0, none⟩)], Value.string t, undef, undef, undef, undef, undef, Value.string t, Value.slice (some ⟨W9.heap.size, 0, none⟩) 1 1, undef, undef, undef, undef], defers := [] } (W9.alloc (Obj.cells #[Value.string t] 9)).drew := by
      refine hR' _ _ _ _ ?_
      refine wpAnyIn_ready (rs := [0, 1]) (by kernel_rfl) (by simp) ?_
      refine AllReadyIn.cons rfl (fun K hK => ?_) ?_
      · go_simp
        refine hK _ _ ?_
        exact hR _ _ _ _ S056
      refine AllReadyIn.cons rfl (fun K hK => ?_) ?_
      · go_simp
        refine hK _ _ ?_
        exact hR _ _ _ _ S156
      exact AllReadyIn.nil
    have S0 : R 10 #[true, false, false, false, false, false, false, false, false, false, false] { tmps := #[Value.string s, undef, Value.pointer none, Value.pointer (some ⟨gt, 0, none⟩), Value.string t, Value.agg #[Value.slice none 0 0], Value.pointer (some ⟨gr, 0, none⟩), Value.string s, Value.func (Fn.func 45) #[] #[Value.pointer (some ⟨gs, 0, none⟩)], Value.string t, Value.pointer (some ⟨gr, 0, none⟩), undef, undef, undef, undef, undef, undef, undef, undef, undef, undef], defers := [] } W9.drew := by
      refine hR' _ _ _ _ ?_
      refine wpAnyIn_ready (rs := [1, 5]) (by kernel_rfl) (by simp) ?_
      refine AllReadyIn.cons rfl (fun K hK => ?_) ?_
      · go_simp
        refine hK _ _ ?_
        exact hR _ _ _ _ S01
      refine AllReadyIn.cons rfl (fun K hK => ?_) ?_
      · go_simp
        refine hK _ _ ?_
        exact hR _ _ _ _ S05
      exact AllReadyIn.nil
    have S1 : R 10 #[false, true, false, false, false, false, false, false, false, false, false] { tmps := #[Value.string s, undef, Value.pointer none, Value.pointer (some ⟨gt, 0, none⟩), Value.string t, Value.agg #[Value.slice none 0 0], Value.pointer (some ⟨gr, 0, none⟩), Value.string s, Value.func (Fn.func 45) #[] #[Value.pointer (some ⟨gs, 0, none⟩)], Value.string t, undef, Value.pointer (some ⟨gr, 0, none⟩), undef, undef, undef, undef, undef, undef, undef, undef, undef], defers := [] } W9.drew := by
      refine hR' _ _ _ _ ?_
      refine wpAnyIn_ready (rs := [0, 2, 5]) (by kernel_rfl) (by simp) ?_
      refine AllReadyIn.cons rfl (fun K hK => ?_) ?_
      · go_simp
        refine hK _ _ ?_
        exact hR _ _ _ _ S01
      refine AllReadyIn.cons rfl (fun K hK => ?_) ?_
      · go_simp
        refine hK _ _ ?_
        exact hR _ _ _ _ S12
      refine AllReadyIn.cons rfl (fun K hK => ?_) ?_
      · go_simp
        refine hK _ _ ?_
        exact hR _ _ _ _ S15
      exact AllReadyIn.nil
    have S5 : R 10 #[false, false, false, false, false, true, false, false, false, false, false] { tmps := #[Value.string s, undef, Value.pointer none, Value.pointer (some ⟨gt, 0, none⟩), Value.string t, Value.agg #[Value.slice none 0 0], Value.pointer (some ⟨gr, 0, none⟩), Value.string s, Value.func (Fn.func 45) #[] #[Value.pointer (some ⟨gs, 0, none⟩)], Value.string t, undef, undef, undef, undef, undef, Value.string t, undef, undef, undef, undef, undef], defers := [] } W9.drew := by
      refine hR' _ _ _ _ ?_
      refine wpAnyIn_ready (rs := [0, 1, 6]) (by kernel_rfl) (by simp) ?_
      refine AllReadyIn.cons rfl (fun K hK => ?_) ?_
      · go_simp
        refine hK _ _ ?_
        exact hR _ _ _ _ S05
      refine AllReadyIn.cons rfl (fun K hK => ?_) ?_
      · go_simp
        refine hK _ _ ?_
        exact hR _ _ _ _ S15
      refine AllReadyIn.cons rfl (fun K hK => ?_) ?_
      · go_simp
        refine hK _ _ ?_
        exact hR _ _ _ _ S56
      exact AllReadyIn.nil
    have Sx : R 11 #[false, false, false, false, false, false, false, false, false, false, false] { tmps := #[Value.string s, undef, Value.pointer none, Value.pointer (some ⟨gt, 0, none⟩), Value.string t, Value.agg #[Value.slice none 0 0], Value.pointer (some ⟨gr, 0, none⟩), Value.string s, Value.func (Fn.func 45) #[] #[Value.pointer (some ⟨gs, 0, none⟩)], Value.string t, undef, undef, undef, undef, undef, undef, undef, undef, undef, undef, undef], defers := [] } W9.drew := by
      refine hR' _ _ _ _ ?_
      refine wpAnyIn_ready (rs := [0, 1, 5]) (by kernel_rfl) (by simp) ?_
      refine AllReadyIn.cons rfl (fun K hK => ?_) ?_
      · go_simp
        refine hK _ _ ?_
        exact hR _ _ _ _ S0
      refine AllReadyIn.cons rfl (fun K hK => ?_) ?_
      · go_simp
        refine hK _ _ ?_
        exact hR _ _ _ _ S1
      refine AllReadyIn.cons rfl (fun K hK => ?_) ?_
      · go_simp
        refine hK _ _ ?_
        exact hR _ _ _ _ S5
      exact AllReadyIn.nil
    --END
    exact Sx
  case done =>
    rintro D ⟨u, l⟩ W9 hD ⟨ts, hts, rfl⟩ hi hK
    have r0 := (blk_cell hi.rv 0).trans (rfl : _ = some (Value.pointer (some ⟨gr, 0, none⟩)))
    gi_wp2
    have hi2 := (RI.own HL8).putObj (s := (u, ts ++ [ByteArray.empty])) (.deferred none) hi (by omega) hK rfl
    refine ⟨by simp, .inl ⟨_, _, rfl, run_takeDeferred hK, ?_⟩⟩
    exact ⟨_, res2 rfl, gr, rfl, hi2.rs HL8 (toks_ne hts) (by have := toks_len hts; omega)⟩
  case panic =>
    rintro D ch W9 hD ⟨rfl, hts, ⟨u, l⟩, hi⟩ hK
    have hi2 := (RI.own HL8).putObj (s := (u, l)) (.deferred none) hi (by omega) hK rfl
    show bodyPostM _ _ _ _ _ (Exit.panic wrongP) _ _
    rw [hts]
    refine ⟨by simp, .inl ⟨_, _, rfl, run_takeDeferred hK, ?_⟩⟩
    exact ⟨rfl, hi2.below⟩
end Go.Proofs.YtnkggincckdoiaaDoor.Q
