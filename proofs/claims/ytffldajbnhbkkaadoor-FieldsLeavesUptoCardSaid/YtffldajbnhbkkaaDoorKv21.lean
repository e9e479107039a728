import Derived.Test.YtffldajbnhbkkaaDoorKv20
import Derived.Laws.ResultCell
namespace Go.Proofs.YtffldajbnhbkkaaDoor.Q
open Go.RowKit Go.Proofs.YtffldajbnhbkkaaDoorW.PrintWords Go.Proofs.YtffldajbnhbkkaaDoorW.PrintLast Go.Proofs.YtffldajbnhbkkaaDoorW.PrintMore
set_option linter.unusedVariables false
set_option linter.unusedSimpArgs false
theorem pushes_len (xs : List S31) : ∀ hl : List S31, (HP.pushes lt31 hl xs).length = hl.length + xs.length := by
  induction xs with
  | nil => intro hl; rfl
  | cons x xs ih =>
    intro hl
    show (HP.pushes lt31 (HP.pushL lt31 hl x) xs).length = _
    rw [ih, HP.push_len, List.length_cons]; omega
theorem flush_len (st : Option (Int × Int)) : (flush st).length ≤ 1 := by
  cases st with
  | none => exact Nat.zero_le _
  | some p => exact Nat.le_refl _
theorem evs_len : ∀ (ps : List S43) (n : Int) (st : Option (Int × Int)), (evs ps n st).length ≤ 2 * ps.length + 1
  | [], n, st => flush_len st
  | p :: ps, n, st => by
    unfold evs
    have h0 := evs_len ps n st
    have h1 := evs_len ps (n + p.f0.size) (some (firstOf n st, n + p.f0.size))
    have h2 := evs_len ps (n + p.f0.size) st
    have h3 := evs_len ps (n + p.f0.size) none
    have h4 := flush_len st
    rw [List.length_cons]
    split
    · omega
    · split
      · omega
      · split
        · rw [List.length_cons]; omega
        · rw [List.length_append, List.length_append]
          by_cases c : p.f1 = 0
          · rw [if_pos c]; simp only [List.length_nil]; omega
          · rw [if_neg c]; simp only [List.length_cons, List.length_nil]
            cases st with
            | none => simp only [flush, List.length_nil]; omega
            | some q => simp only [flush, List.length_cons, List.length_nil]; omega
/-- What is left to do at the i-th piece. -/
structure Left (l : List S43) (i : Nat) (T : List UInt8) (hl : List S31) (st : Option (Int × Int)) : Prop where
  le : i ≤ l.length
  ok : (l.take i).all okP = true
  txt : T ++ textP (l.drop i) = textP l
  hp : HP.pushes lt31 hl (evs (l.drop i) T.length st) = HP.pushes lt31 [] (evs l 0 none)
/-- What Build tells. -/
def buildR (l : List S43) : ByteArray × List S31 × Int := if l.all okP = true then (mkS (textP l), HP.drainL lt31 (HP.pushes lt31 [] (evs l 0 none)).length (HP.pushes lt31 [] (evs l 0 none)), 0) else (⟨#[]⟩, [], 170)
theorem Left.start (l : List S43) : Left l 0 [] [] none := ⟨Nat.zero_le _, rfl, by rw [List.drop_zero]; rfl, by rw [List.drop_zero]; rfl⟩
section
variable {l : List S43} {i : Nat} {T : List UInt8} {hl : List S31} {st : Option (Int × Int)}
theorem Left.len (h : Left l i T hl st) (h2 : l.length ≤ 400000) : hl.length < 900000 := by
  have e := congrArg List.length h.hp
  rw [pushes_len, pushes_len, List.length_nil] at e
  have := evs_len l 0 none
  omega
theorem Left.tlen (h : Left l i T hl st) (hT : (textP l).length ≤ 2000000) (hi : i < l.length) : T.length + l[i].f0.size ≤ 2000000 := by
  have e := congrArg List.length h.txt
  rw [List.drop_eq_getElem_cons hi, textP_cons, List.length_append, List.length_append, slenF] at e
  omega
theorem Left.bad (h : Left l i T hl st) (hi : i < l.length) (hb : okP l[i] = false) : buildR l = (⟨#[]⟩, [], 170) := by
  have e : l.all okP = false := by
    cases c : l.all okP with
    | false => rfl
    | true =>
      rw [List.all_eq_true] at c
      rw [c l[i] (List.getElem_mem hi)] at hb; cases hb
  unfold buildR
  rw [if_neg (by rw [e]; simp)]
theorem Left.done (h : Left l i T hl st) (hi : i = l.length) : T = textP l ∧ l.all okP = true ∧ HP.pushes lt31 hl (flush st) = HP.pushes lt31 [] (evs l 0 none) := by
  subst hi
  have h1 := h.txt
  have h2 := h.ok
  have h3 := h.hp
  rw [List.drop_length] at h1 h3
  rw [List.take_length] at h2
  exact ⟨(List.append_nil T).symm.trans h1, h2, h3⟩
theorem Left.ok1 (h : Left l i T hl st) (hi : i < l.length) (ho : okP l[i] = true) : (l.take (i + 1)).all okP = true := by
  rw [List.take_succ_eq_append_getElem hi, List.all_append, h.ok]
  show (true && (okP l[i] && true)) = true
  rw [ho]; rfl
theorem Left.txt1 (h : Left l i T hl st) (hi : i < l.length) : (T ++ l[i].f0.data.toList) ++ textP (l.drop (i + 1)) = textP l := by
  rw [← h.txt, List.drop_eq_getElem_cons hi, textP_cons, List.append_assoc]
theorem tl_len (T : List UInt8) (s : ByteArray) : ((T ++ s.data.toList).length : Int) = (T.length : Int) + (s.size : Int) := by
  rw [List.length_append, slenF]; omega
theorem Left.empty (h : Left l i T hl st) (hi : i < l.length) (ho : okP l[i] = true) (hs : l[i].f0.size = 0) : Left l (i + 1) T hl st := by
  have e : l[i].f0.data.toList = [] := by rw [← List.length_eq_zero_iff, slenF]; exact hs
  refine ⟨hi, h.ok1 hi ho, ?_, ?_⟩
  · have := h.txt1 hi
    rw [e, List.append_nil] at this; exact this
  · rw [← h.hp, List.drop_eq_getElem_cons hi]
    conv => rhs; unfold evs
    rw [if_pos hs]
theorem Left.whole (h : Left l i T hl st) (hi : i < l.length) (ho : okP l[i] = true) (hs : l[i].f0.size ≠ 0) (h2 : l[i].f1 = 2) : Left l (i + 1) (T ++ l[i].f0.data.toList) hl (some (firstOf T.length st, T.length + l[i].f0.size)) := by
  refine ⟨hi, h.ok1 hi ho, h.txt1 hi, ?_⟩
  rw [← h.hp, List.drop_eq_getElem_cons hi, tl_len]
  conv => rhs; unfold evs
  rw [if_neg hs, if_pos h2]
theorem Left.group (h : Left l i T hl st) (hi : i < l.length) (ho : okP l[i] = true) (hs : l[i].f0.size ≠ 0) (h3 : l[i].f1 = 3) : Left l (i + 1) (T ++ l[i].f0.data.toList) (HP.pushL lt31 hl ⟨3, T.length, T.length + l[i].f0.size⟩) st := by
  refine ⟨hi, h.ok1 hi ho, h.txt1 hi, ?_⟩
  rw [← h.hp, List.drop_eq_getElem_cons hi, tl_len]
  conv => rhs; unfold evs
  rw [if_neg hs, if_neg (by rw [h3]; decide), if_pos h3]; rfl
theorem pushes_app (xs ys : List S31) (hl : List S31) : HP.pushes lt31 hl (xs ++ ys) = HP.pushes lt31 (HP.pushes lt31 hl xs) ys := List.foldl_append ..
theorem Left.lit (h : Left l i T hl st) (hi : i < l.length) (ho : okP l[i] = true) (hs : l[i].f0.size ≠ 0) (h0 : l[i].f1 = 0) : Left l (i + 1) (T ++ l[i].f0.data.toList) (HP.pushes lt31 hl (flush st)) none := by
  refine ⟨hi, h.ok1 hi ho, h.txt1 hi, ?_⟩
  rw [← h.hp, List.drop_eq_getElem_cons hi, tl_len]
  conv => rhs; unfold evs
  rw [if_neg hs, if_neg (by rw [h0]; decide), if_neg (by rw [h0]; decide), if_pos h0, pushes_app]; rfl
theorem Left.other (h : Left l i T hl st) (hi : i < l.length) (ho : okP l[i] = true) (hs : l[i].f0.size ≠ 0) (h0 : l[i].f1 ≠ 0) (h2 : l[i].f1 ≠ 2) (h3 : l[i].f1 ≠ 3) :
    Left l (i + 1) (T ++ l[i].f0.data.toList) (HP.pushL lt31 (HP.pushes lt31 hl (flush st)) ⟨l[i].f1, T.length, T.length + l[i].f0.size⟩) none := by
  refine ⟨hi, h.ok1 hi ho, h.txt1 hi, ?_⟩
  rw [← h.hp, List.drop_eq_getElem_cons hi, tl_len]
  conv => rhs; unfold evs
  rw [if_neg hs, if_neg h2, if_neg h3, if_neg h0, pushes_app]; rfl
end
end Go.Proofs.YtffldajbnhbkkaaDoor.Q

namespace Go.Proofs.YtffldajbnhbkkaaDoor.Q
open Go.RowKit Go.Proofs.YtffldajbnhbkkaaDoorW.PrintWords Go.Proofs.YtffldajbnhbkkaaDoorW.PrintLast Go.Proofs.YtffldajbnhbkkaaDoorW.PrintMore
set_option linter.unusedVariables false
set_option linter.unusedSimpArgs false
theorem load25 (g : Nat) (w : World) (s : ByteArray) (v : Value) (h : w.heap[g]? = some (.cells #[.string s, v] 25 (0, 0))) : (loadVar 25 ⟨g, 0, none⟩).run Tryd.prog w = .ok (.agg #[.string s, v]) w := by
  have hu := Tryd.underlying25
  have ha := Tryd.isAgg25
  have hz := Tryd.sizeOf25
  have c0 : w.cell? ⟨g, 0, none⟩ = some (.string s) := (blk_cell h 0).trans rfl
  have c1 : w.cell? ⟨g, 1, none⟩ = some v := (blk_cell h 1).trans rfl
  go_simp
theorem ret_box {Q : Ending → World → Prop} {tmps : Array Value} {w : World} {g : Nat} {s : ByteArray} {v : Value} (hp : tmps.getD 2 undef = .pointer (some ⟨g, 0, none⟩)) (h : w.heap[g]? = some (.cells #[.string s, v] 25 (0, 0)))
    (hQ : Q (.returned (.tuple #[.agg #[.string s, v], tmps.getD 3 undef])) w) : bodyPost Tryd.prog Tryd.f8 Q Exit.ret { tmps := tmps, defers := [] } w := by
  refine bodyPost_ret ?_ rfl hQ
  have e : Tryd.f8.results = #[.cell 2 25, .tmp 3] := by kernel_rfl
  rw [results_cell_tmp e, hp]
  have := load25 g w s v h
  simp only [asAddr, Sem.run_pure, Result.andThen_ok, this]
end Go.Proofs.YtffldajbnhbkkaaDoor.Q

namespace Go.Proofs.YtffldajbnhbkkaaDoor.Q
open Go.RowKit Go.Proofs.YtffldajbnhbkkaaDoorW.PrintWords Go.Proofs.YtffldajbnhbkkaaDoorW.PrintLast Go.Proofs.YtffldajbnhbkkaaDoorW.PrintMore
set_option linter.unusedVariables false
set_option linter.unusedSimpArgs false
/-- The world while the heap is told. -/
structure DS (w0 W : World) (g2 go gh : Nat) (s : ByteArray) (v : Value) (hl : List S31) (vo : Value) (xs : List S31) : Prop where
  below : Below w0.heap.size w0 W
  out : W.heap[g2]? = some (.cells #[.string ⟨#[]⟩, .slice none 0 0] 25 (0, 0))
  res : W.heap[go]? = some (.cells #[.string s, vo] 25 (0, 0))
  heap : HS W w0.heap.size gh v hl
  row : Kd.R k31 31 W w0.heap.size (fun k => some k ≠ v.ownBlock) vo xs
  b2 : w0.heap.size ≤ g2
  bo : w0.heap.size ≤ go
  ne : go ≠ g2
section
variable {w0 W w' : World} {g2 go gh : Nat} {s : ByteArray} {v v' vo vo' : Value} {hl hl' xs xs' : List S31}
theorem DS.drewN (h : DS w0 W g2 go gh s v hl vo xs) (n : Nat) : DS w0 (W.drewN n) g2 go gh s v hl vo xs :=
  ⟨pw_below_drewN h.below n, h.out, h.res, ⟨h.heap.var, Kd.R_drewN h.heap.row n, h.heap.bas⟩, Kd.R_drewN h.row n, h.b2, h.bo, h.ne⟩
theorem own_lt {α : Type} {d : Kd α} {e base : Nat} {ok : Nat → Prop} {vv : Value} {ys : List α} (h : d.R e W base ok vv ys) {k : Nat} (hk : vv.ownBlock = some k) : k < W.heap.size ∧ base ≤ k := by
  have hx := (Kd.R_bound h).1 k hk
  exact ⟨hx.2.2.1, hx.2.1⟩
theorem DS.popped (h : DS w0 W g2 go gh s v hl vo xs) (hs : HS w' w0.heap.size gh v' hl') (hb : Bes gh v W w') (ha : At W.heap.size v v') : DS w0 w' g2 go gh s v' hl' vo xs := by
  refine ⟨?_, Bes.far h.heap hb h.out (by decide) (Or.inl (by decide)), Bes.far h.heap hb h.res (by decide) (Or.inl (by decide)), hs, ?_, h.b2, h.bo, h.ne⟩
  · refine ⟨hb.os.trans h.below.os, hb.tape.trans h.below.tape, hb.output.trans h.below.output, Nat.le_trans h.below.size hb.size, fun k hk => (hb.block k (Nat.lt_of_lt_of_le hk h.below.size) ?_ ?_).trans (h.below.block k hk)⟩
    · have := h.heap.bas; omega
    · intro e
      have := own_lt h.heap.row e
      omega
  · refine Kd.R_mono (Kd.R_move (Kd.R_bound h.row) (fun k hk => ?_)) (fun k hk => ?_)
    · obtain ⟨h1, _, h3, q, hq, cells, hc⟩ := hk
      obtain rfl := List.mem_singleton.1 hq
      exact hb.block k h3 (typ_ne hc h.heap.var (by decide)) (fun e => h1 e.symm)
    · rcases ha with e | ⟨q, e, hq⟩
      · rw [e]; exact hk.1
      · rw [e]; intro e2; injection e2 with e2
        have := hk.2.2.1
        omega
theorem DS.appended (h : DS w0 W g2 go gh s v hl vo xs) (hb : Below w0.heap.size w0 w') (hg : W.grownBy w' vo.ownBlock) (hr : Kd.R k31 31 w' w0.heap.size (fun k => some k ≠ v.ownBlock) vo' xs') : DS w0 (w'.setCell ⟨go, 1, none⟩ vo') g2 go gh s v hl vo' xs' := by
  have far : ∀ (k : Nat) (c : Array Value) (ty : TypeId), ty ≠ 31 → W.heap[k]? = some (.cells c ty (0, 0)) → w'.heap[k]? = some (.cells c ty (0, 0)) := by
    intro k c ty hty hk
    refine (hg.block k (blk_lt hk) (fun e => ?_)).trans hk
    obtain ⟨c', hc⟩ := Kd.R_typed h.row k e.symm
    exact typ_ne hk hc hty rfl
  have hres := far _ _ _ (by decide) h.res
  refine ⟨below_set hb h.bo, blk_far (far _ _ _ (by decide) h.out) h.ne.symm _, blk_put hres 1 _ rfl, ⟨blk_far (far _ _ _ (by decide) h.heap.var) (fun e => ?_) _, ?_, h.heap.bas⟩, ?_, h.b2, h.bo, h.ne⟩
  · exact typ_ne h.heap.var h.res (by decide) e
  · have hrow : Kd.R k31 31 w' w0.heap.size (fun k => k ≠ gh) v hl := by
      exact Kd.R_grown2 h.heap.row rfl hg (fun k e => h.row.1 k e)
    exact R_typ hrow rfl (fun k hk ⟨c, hc⟩ => Below.heap_setCell _ ⟨go, 1, none⟩ _ k (typ_ne hc hres (by decide)))
  · exact R_typ hr rfl (fun k hk ⟨c, hc⟩ => Below.heap_setCell _ ⟨go, 1, none⟩ _ k (typ_ne hc hres (by decide)))
theorem BS.drain {gw : Nat} {t : Value} {T : List UInt8} {st : Option (Int × Int)} (h : BS w0 W g2 gw gh t T v hl st) (s : ByteArray) : DS w0 (W.alloc (.cells #[.string s, .slice none 0 0] 25)) g2 W.heap.size gh s v hl (.slice none 0 0) [] :=
  ⟨below_alloc h.below _, blk_alloc h.out _, blk_new W _, ⟨blk_alloc h.heap.var _, Kd.R_alloc h.heap.row _, h.heap.bas⟩, Kd.R_nil _ _ _ _ _, h.b2, h.below.size, fun e => by have := blk_lt h.out; omega⟩
theorem DS.drew (h : DS w0 W g2 go gh s v hl vo xs) : DS w0 W.drew g2 go gh s v hl vo xs :=
  ⟨below_drew1 h.below, h.out, h.res, ⟨h.heap.var, Kd.R_drew h.heap.row, h.heap.bas⟩, Kd.R_drew h.row, h.b2, h.bo, h.ne⟩
theorem DS.res_grown (h : DS w0 W g2 go gh s v hl vo xs) (hg : W.grownBy w' vo.ownBlock) : w'.heap[go]? = some (.cells #[.string s, vo] 25 (0, 0)) := by
  refine (hg.block go (blk_lt h.res) (fun e => ?_)).trans h.res
  obtain ⟨c', hc⟩ := Kd.R_typed h.row go e.symm
  exact typ_ne h.res hc (by decide) rfl
open Classical in
theorem drain_len (hl : List S31) : (HP.drainL lt31 hl.length hl).length = hl.length := (HP.drain_perm lt31 hl.length hl rfl).length_eq
theorem told_le {hl xs h0 : List S31} (h : xs ++ HP.drainL lt31 hl.length hl = HP.drainL lt31 h0.length h0) (hl0 : h0.length < 1000000000) : (xs.length + 1) * 24 ≤ 140737488355328 := by
  have e := congrArg List.length h
  rw [List.length_append, drain_len, drain_len] at e
  omega
theorem told_next {hl xs h0 : List S31} {x : S31} (hx : ∃ h : 0 < hl.length, x = hl[0]) (hp : 0 < hl.length) (h : xs ++ HP.drainL lt31 hl.length hl = HP.drainL lt31 h0.length h0) : (xs ++ [x]) ++ HP.drainL lt31 (HP.popL lt31 hl hp).length (HP.popL lt31 hl hp) = HP.drainL lt31 h0.length h0 := by
  obtain ⟨_, rfl⟩ := hx
  obtain ⟨n, hn⟩ : ∃ n, hl.length = n + 1 := Nat.exists_eq_add_one_of_ne_zero (by omega)
  rw [← h, List.append_assoc]
  congr 1
  rw [HP.pop_len, hn]
  conv => rhs; unfold HP.drainL
  rw [dif_pos hp]; rfl
theorem told_done {hl xs h0 : List S31} (hz : hl.length = 0) (h : xs ++ HP.drainL lt31 hl.length hl = HP.drainL lt31 h0.length h0) : xs = HP.drainL lt31 h0.length h0 := by
  rw [← h, hz]
  exact (List.append_nil xs).symm
theorem pop_less (hl : List S31) (hp : 0 < hl.length) (h : hl.length < 1000000000) : (HP.popL lt31 hl hp).length < 1000000000 := by rw [HP.pop_len]; omega
/-- How many there are yet. -/
def lenAt (w : World) (gh : Nat) : Nat := match w.cell? ⟨gh, 0, none⟩ with
  | some (.slice _ n _) => n
  | _ => 0
theorem pop_meas {hl : List S31} {w w' : World} {gh : Nat} (hp : 0 < hl.length) (h : lenAt w gh = hl.length) (h' : lenAt w' gh = (HP.popL lt31 hl hp).length) : lenAt w' gh < lenAt w gh := by
  rw [h, h', HP.pop_len]; omega
theorem HS.lenAt {base : Nat} (h : HS W base gh v hl) : lenAt W gh = hl.length := by
  obtain ⟨A, c, rfl⟩ := Kd.R_slice h.row
  unfold Q.lenAt
  rw [(blk_cell h.var 0).trans rfl]; rfl
end
end Go.Proofs.YtffldajbnhbkkaaDoor.Q
