import Derived.Test.YtffldajbnhbkkaaDoorKv18
import Derived.Test.YtffldajbnhbkkaaDoorKv19
namespace Go.Proofs.YtffldajbnhbkkaaDoor.Q
open Go.RowKit Go.Proofs.YtffldajbnhbkkaaDoorW.PrintWords Go.Proofs.YtffldajbnhbkkaaDoorW.PrintLast Go.Proofs.YtffldajbnhbkkaaDoorW.PrintMore
set_option linter.unusedVariables false
set_option linter.unusedSimpArgs false
/-- A row stays where its block stays: by its type. -/
theorem R_typ {α : Type} {d : Kd α} {e : Nat} {w w1 : World} {base : Nat} {ok : Nat → Prop} {v : Value} {xs : List α} (h : d.R e w base ok v xs) (hE : d.E = []) (hm : ∀ k, k < w.heap.size → (∃ cells, w.heap[k]? = some (.cells cells e (0, 0))) → w1.heap[k]? = w.heap[k]?) : d.R e w1 base ok v xs := by
  refine Kd.R_mono (Kd.R_move (Kd.R_bound h) (fun k hk => ?_)) (fun _ hk => hk.1)
  obtain ⟨_, _, h3, q, hq, cells, hc⟩ := hk
  rw [hE] at hq
  obtain rfl := List.mem_singleton.1 hq
  exact hm k h3 ⟨cells, hc⟩
theorem typ_ne {w : World} {j k : Nat} {c c' : Array Value} {t t' : TypeId} (h : w.heap[j]? = some (.cells c t (0, 0))) (h' : w.heap[k]? = some (.cells c' t' (0, 0))) (ht : t ≠ t') : j ≠ k := by
  intro e; subst e
  rw [h] at h'; injection h' with h'; injection h' with _ h'; exact ht h'
def wA : Option (Int × Int) → Int
  | none => 0
  | some p => p.1
def wB : Option (Int × Int) → Int
  | none => 0
  | some p => p.2
/-- The world within Build: the result's cell, the whole digits' span, the heap, the text. -/
structure BS (w0 W : World) (g2 gw gh : Nat) (t : Value) (T : List UInt8) (v : Value) (hl : List S31) (st : Option (Int × Int)) : Prop where
  below : Below w0.heap.size w0 W
  out : W.heap[g2]? = some (.cells #[.string ⟨#[]⟩, .slice none 0 0] 25 (0, 0))
  whole : W.heap[gw]? = some (.cells #[.int .i64 2, .int .i64 (wA st), .int .i64 (wB st)] 31 (0, 0))
  heap : HS W w0.heap.size gh v hl
  text : Kd.R (Kd.int .u8) 5 W w0.heap.size (fun _ => True) t (bb T)
  ne : v.ownBlock ≠ some gw
  bw : w0.heap.size ≤ gw
  b2 : w0.heap.size ≤ g2
  pos : ∀ p, st = some p → 0 < p.2
section
variable {w0 W w' : World} {g2 gw gh : Nat} {t : Value} {T : List UInt8} {v v' : Value} {hl hl' : List S31} {st : Option (Int × Int)}
theorem BS.alloc (h : BS w0 W g2 gw gh t T v hl st) (o : Obj) : BS w0 (W.alloc o) g2 gw gh t T v hl st :=
  ⟨below_alloc h.below o, blk_alloc h.out o, blk_alloc h.whole o, ⟨blk_alloc h.heap.var o, Kd.R_alloc h.heap.row o, h.heap.bas⟩, Kd.R_alloc h.text o, h.ne, h.bw, h.b2, h.pos⟩
theorem BS.drewN (h : BS w0 W g2 gw gh t T v hl st) (n : Nat) : BS w0 (W.drewN n) g2 gw gh t T v hl st :=
  ⟨pw_below_drewN h.below n, h.out, h.whole, ⟨h.heap.var, Kd.R_drewN h.heap.row n, h.heap.bas⟩, Kd.R_drewN h.text n, h.ne, h.bw, h.b2, h.pos⟩
theorem BS.next (h : BS w0 W g2 gw gh t T v hl st) (hb : Below W.heap.size W w') : BS w0 w' g2 gw gh t T v hl st :=
  ⟨below_step h.below hb, blk_below h.out hb, blk_below h.whole hb, ⟨blk_below h.heap.var hb, Kd.R_below h.heap.row hb, h.heap.bas⟩, Kd.R_below h.text hb, h.ne, h.bw, h.b2, h.pos⟩
/-- A block of another kind than a heap's stays. -/
theorem Bes.far (h : HS W w0.heap.size gh v hl) (hb : Bes gh v W w') {k : Nat} {c : Array Value} {ty : TypeId} (hk : W.heap[k]? = some (.cells c ty (0, 0))) (h1 : ty ≠ 54) (h2 : ty ≠ 31 ∨ v.ownBlock ≠ some k) : w'.heap[k]? = some (.cells c ty (0, 0)) := by
  refine (hb.block k (blk_lt hk) (typ_ne hk h.var h1) ?_).trans hk
  rcases h2 with h2 | h2
  · intro e
    obtain ⟨c', hc⟩ := Kd.R_typed h.row k e
    exact typ_ne hk hc h2 rfl
  · exact h2
theorem BS.heaped (h : BS w0 W g2 gw gh t T v hl st) (hs : HS w' w0.heap.size gh v' hl') (hb : Bes gh v W w') (ha : At W.heap.size v v') : BS w0 w' g2 gw gh t T v' hl' st := by
  refine ⟨?_, Bes.far h.heap hb h.out (by decide) (Or.inl (by decide)), Bes.far h.heap hb h.whole (by decide) (Or.inr h.ne), hs, R_typ h.text rfl (fun k hk ⟨c, hc⟩ => (Bes.far h.heap hb hc (by decide) (Or.inl (by decide))).trans hc.symm), ?_, h.bw, h.b2, h.pos⟩
  · refine ⟨hb.os.trans h.below.os, hb.tape.trans h.below.tape, hb.output.trans h.below.output, Nat.le_trans h.below.size hb.size, fun k hk => (hb.block k (Nat.lt_of_lt_of_le hk h.below.size) ?_ ?_).trans (h.below.block k hk)⟩
    · have := h.heap.bas; omega
    · intro e
      have hx := (Kd.R_bound h.heap.row).1 k e
      have := hx.2.1
      omega
  · have hlt := blk_lt h.whole
    rcases ha with e | ⟨q, e, hq⟩
    · rw [e]; exact h.ne
    · rw [e]; intro e2; injection e2 with e2; omega
theorem BS.texted (h : BS w0 W g2 gw gh t T v hl st) {t' : Value} {T' : List UInt8} (hb : Below w0.heap.size w0 w') (hg : W.grownBy w' t.ownBlock) (ht : Kd.R (Kd.int .u8) 5 w' w0.heap.size (fun _ => True) t' (bb T')) : BS w0 w' g2 gw gh t' T' v hl st := by
  have far : ∀ (k : Nat) (c : Array Value) (ty : TypeId), ty ≠ 5 → W.heap[k]? = some (.cells c ty (0, 0)) → w'.heap[k]? = some (.cells c ty (0, 0)) := by
    intro k c ty hty hk
    refine (hg.block k (blk_lt hk) (fun e => ?_)).trans hk
    obtain ⟨c', hc⟩ := Kd.R_typed h.text k e.symm
    exact typ_ne hk hc hty rfl
  exact ⟨hb, far _ _ _ (by decide) h.out, far _ _ _ (by decide) h.whole, ⟨far _ _ _ (by decide) h.heap.var, R_typ h.heap.row rfl (fun k hk ⟨c, hc⟩ => (far _ _ _ (by decide) hc).trans hc.symm), h.heap.bas⟩, ht, h.ne, h.bw, h.b2, h.pos⟩
theorem BS.wholed (h : BS w0 W g2 gw gh t T v hl st) {st' : Option (Int × Int)} (hb : ∀ k, k ≠ gw → w'.heap[k]? = W.heap[k]?) (hs : w'.heap.size = W.heap.size) (ho : w'.os = W.os) (hta : w'.tape = W.tape) (hou : w'.output = W.output)
    (hw : w'.heap[gw]? = some (.cells #[.int .i64 2, .int .i64 (wA st'), .int .i64 (wB st')] 31 (0, 0))) (hp : ∀ p, st' = some p → 0 < p.2) : BS w0 w' g2 gw gh t T v hl st' := by
  have far : ∀ (k : Nat) (c : Array Value) (ty : TypeId), ty ≠ 31 → W.heap[k]? = some (.cells c ty (0, 0)) → w'.heap[k]? = some (.cells c ty (0, 0)) := fun k c ty hty hk => (hb k (typ_ne hk h.whole hty)).trans hk
  refine ⟨⟨ho.trans h.below.os, hta.trans h.below.tape, hou.trans h.below.output, by rw [hs]; exact h.below.size, fun k hk => (hb k (by have := h.bw; omega)).trans (h.below.block k hk)⟩, far _ _ _ (by decide) h.out, hw, ⟨far _ _ _ (by decide) h.heap.var, ?_, h.heap.bas⟩, R_typ h.text rfl (fun k hk ⟨c, hc⟩ => (far _ _ _ (by decide) hc).trans hc.symm), h.ne, h.bw, h.b2, hp⟩
  refine Kd.R_mono (Kd.R_step (Kd.R_far1 h.heap.row rfl (fun e => h.ne e.symm)) (fun k hk hlt => hb k hk.2)) (fun k hk => hk.1)
/-- What is neither a heap's variable nor a row of spans stays. -/
def KT (W w' : World) : Prop := ∀ (k : Nat) (c : Array Value) (ty : TypeId), ty ≠ 54 → ty ≠ 31 → W.heap[k]? = some (.cells c ty (0, 0)) → w'.heap[k]? = some (.cells c ty (0, 0))
theorem BS.keep5 (h : BS w0 W g2 gw gh t T v hl st) (hg : W.grownBy w' t.ownBlock) {k : Nat} {c : Array Value} {ty : TypeId} (hty : ty ≠ 5) (hk : W.heap[k]? = some (.cells c ty (0, 0))) : w'.heap[k]? = some (.cells c ty (0, 0)) := by
  refine (hg.block k (blk_lt hk) (fun e => ?_)).trans hk
  obtain ⟨c', hc⟩ := Kd.R_typed h.text k e.symm
  exact typ_ne hk hc hty rfl
theorem push_b (h : BS w0 W g2 gw gh t T v hl st) (hn : hl.length < 1000000000) (x0 x1 x2 : Int) :
    Calls Tryd.prog 23 #[.iface 56 (.pointer (some ⟨gh, 0, none⟩)), .iface 31 (.agg #[.int .i64 x0, .int .i64 x1, .int .i64 x2])] W fun e w' => e = .returned (.tuple #[]) ∧ ∃ v', BS w0 w' g2 gw gh t T v' (HP.pushL lt31 hl ⟨x0, x1, x2⟩) st ∧ KT W w' := by
  refine (heap_push w0.heap.size gh v hl x0 x1 x2 W h.heap hn).mono ?_
  rintro e w2 ⟨rfl, v2, h2, hb2, ha2⟩
  exact ⟨rfl, v2, h.heaped h2 hb2 ha2, fun k c ty h1 h3 hk => Bes.far h.heap hb2 hk h1 (Or.inl h3)⟩
end
set_option maxHeartbeats 2000000 in
set_option maxRecDepth 100000 in
theorem end_b {w0 W : World} {g2 gw gh : Nat} {t : Value} {T : List UInt8} {v : Value} {hl : List S31} {st : Option (Int × Int)} (h : BS w0 W g2 gw gh t T v hl st) (hn : hl.length < 1000000000) :
    Calls Tryd.prog 22 #[.pointer (some ⟨gw, 0, none⟩), .pointer (some ⟨gh, 0, none⟩)] W fun e w' => e = .returned (.tuple #[]) ∧ ∃ v', BS w0 w' g2 gw gh t T v' (HP.pushes lt31 hl (flush st)) none ∧ KT W w' := by
  have hu31 := Tryd.underlying31
  have c0 : W.cell? ⟨gw, 0, none⟩ = some (.int .i64 2) := (blk_cell h.whole 0).trans rfl
  have c1 : W.cell? ⟨gw, 1, none⟩ = some (.int .i64 (wA st)) := (blk_cell h.whole 1).trans rfl
  have c2 : W.cell? ⟨gw, 2, none⟩ = some (.int .i64 (wB st)) := (blk_cell h.whole 2).trans rfl
  have f1 : W.frozen? ⟨gw, 1, none⟩ = false := blk_frozen h.whole 1
  have f2 : W.frozen? ⟨gw, 2, none⟩ = false := blk_frozen h.whole 2
  have HH := Aside0.mk h
  cases st with
  | none =>
    have hb : ¬ (0 : Int) < wB none := by decide
    have hb2 : wB none = 0 := rfl
    rw [hb2] at c2
    clear h
    go_enter Tryd.func22, Tryd.ntmps22
    go_wp2
    go_end0
    refine ⟨rfl, ⟨v, HH.out.wholed (fun k hk => ?_) ?_ rfl rfl rfl ?_ (fun p hp => by cases hp)⟩, fun k c ty h1 h3 hk => ?_⟩
    · exact (Below.heap_setCell _ ⟨gw, 2, none⟩ _ k hk).trans (Below.heap_setCell _ ⟨gw, 1, none⟩ _ k hk)
    · simp [World.setCell]
    · exact blk_put (blk_put HH.out.whole 1 _ rfl) 2 _ rfl
    · exact blk_far (blk_far hk (p := ⟨gw, 1, none⟩) (typ_ne hk HH.out.whole h3) _) (p := ⟨gw, 2, none⟩) (typ_ne hk HH.out.whole h3) _
  | some p =>
    obtain ⟨pa, pb⟩ := p
    have hb : 0 < pb := h.pos (pa, pb) rfl
    have hp := push_b h hn 2 pa pb
    replace c1 : W.cell? ⟨gw, 1, none⟩ = some (.int .i64 pa) := c1
    replace c2 : W.cell? ⟨gw, 2, none⟩ = some (.int .i64 pb) := c2
    clear h
    go_enter Tryd.func22, Tryd.ntmps22
    go_wp2_with (go_at_call 23; refine hp.mono ?_; rintro e w2 ⟨rfl, v2, h2, k2⟩; have KK := Aside0.mk k2; clear k2; have g1 := blk_frozen h2.whole 1; have g2 := blk_frozen h2.whole 2; have k1 : w2.cell? ⟨gw, 1, none⟩ = some (.int .i64 pa) := (blk_cell h2.whole 1).trans rfl; have k2 : w2.cell? ⟨gw, 2, none⟩ = some (.int .i64 pb) := (blk_cell h2.whole 2).trans rfl; have H2 := Aside0.mk h2; clear h2)
    go_end0
    refine ⟨rfl, v2, H2.out.wholed (fun k hk => ?_) ?_ rfl rfl rfl ?_ (fun p hp => by cases hp), fun k c ty h1 h3 hk => ?_⟩
    · exact (Below.heap_setCell _ ⟨gw, 2, none⟩ _ k hk).trans (Below.heap_setCell _ ⟨gw, 1, none⟩ _ k hk)
    · simp [World.setCell]
    · exact blk_put (blk_put H2.out.whole 1 _ rfl) 2 _ rfl
    · have hk2 := KK.out k c ty h1 h3 hk
      exact blk_far (blk_far hk2 (p := ⟨gw, 1, none⟩) (typ_ne hk2 H2.out.whole h3) _) (p := ⟨gw, 2, none⟩) (typ_ne hk2 H2.out.whole h3) _
end Go.Proofs.YtffldajbnhbkkaaDoor.Q
