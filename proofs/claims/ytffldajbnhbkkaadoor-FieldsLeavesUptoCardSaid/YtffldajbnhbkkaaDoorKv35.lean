import Derived.Test.YtffldajbnhbkkaaDoorKv34
namespace Go.Proofs.YtffldajbnhbkkaaDoor.Q
open Go.RowKit Go.Proofs.YtffldajbnhbkkaaDoorW.PrintWords Go.Proofs.YtffldajbnhbkkaaDoorW.PrintLast Go.Proofs.YtffldajbnhbkkaaDoorW.PrintMore
set_option linter.unusedVariables false
set_option linter.unusedSimpArgs false
def wrapOk (s : ByteArray) (l : List S31) (x : S31) : Bool := chkB s l && (decide (1 ≤ x.f0) && (decide (x.f0 < 18) && (stretchB s x.f1 x.f2 && !findX x l)))
/-- What Wrap tells. -/
def wrapR (s : ByteArray) (l : List S31) (x : S31) : ByteArray × List S31 × Int := if wrapOk s l x = true then (s, HP.putL lt31 l x, 0) else (⟨#[]⟩, [], 170)
def WrapPost (s : ByteArray) (l : List S31) (x : S31) (w : World) (e : Ending) (w' : World) : Prop := ∃ v1_ : Value, e = .returned (.tuple #[.agg #[.string (wrapR s l x).1, v1_], .int .i64 (wrapR s l x).2.2]) ∧ Kd.R k31 31 w' w.heap.size (fun _ => True) v1_ (wrapR s l x).2.1 ∧ Below w.heap.size w w'
/-- The world within Wrap: the boxes of what came in, of the result, of the span. -/
structure WS (W w : World) (bi bo bx : Nat) (s : ByteArray) (V : Value) (x : S31) : Prop where
  below : Below W.heap.size W w
  inp : w.heap[bi]? = some (.cells #[.string s, V] 25 (0, 0))
  out : w.heap[bo]? = some (.cells #[.string ⟨#[]⟩, .slice none 0 0] 25 (0, 0))
  spa : w.heap[bx]? = some (.cells #[.int .i64 x.f0, .int .i64 x.f1, .int .i64 x.f2] 31 (0, 0))
  bas : W.heap.size ≤ bo
theorem WS.next {W w w' : World} {bi bo bx : Nat} {s : ByteArray} {V : Value} {x : S31} (h : WS W w bi bo bx s V x) (hb : Below w.heap.size w w') : WS W w' bi bo bx s V x := ⟨below_step h.below hb, blk_below h.inp hb, blk_below h.out hb, blk_below h.spa hb, h.bas⟩
theorem ws_start (W : World) (s : ByteArray) (V : Value) (x : S31) : WS W (((W.alloc (.cells #[.string s, V] 25)).alloc (.cells #[.string ⟨#[]⟩, .slice none 0 0] 25)).alloc (.cells #[.int .i64 x.f0, .int .i64 x.f1, .int .i64 x.f2] 31)) W.heap.size (W.heap.size + 1) (W.heap.size + 1 + 1) s V x := by
  obtain ⟨h1, h2⟩ := two_blocks W #[.string s, V] #[.string ⟨#[]⟩, .slice none 0 0] 25 25
  refine ⟨below_alloc (below_alloc (below_alloc (Below.refl _ _) _) _) _, blk_alloc h1 _, blk_alloc h2 _, ?_, Nat.le_succ _⟩
  have := blk_new ((W.alloc (.cells #[.string s, V] 25)).alloc (.cells #[.string ⟨#[]⟩, .slice none 0 0] 25)) (.cells #[.int .i64 x.f0, .int .i64 x.f1, .int .i64 x.f2] 31)
  have e : ((W.alloc (.cells #[.string s, V] 25)).alloc (.cells #[.string ⟨#[]⟩, .slice none 0 0] 25)).heap.size = W.heap.size + 1 + 1 := by simp
  rw [e] at this; exact this
theorem ret_box13 {Q : Ending → World → Prop} {tmps : Array Value} {w : World} {g : Nat} {s : ByteArray} {v : Value} (hp : tmps.getD 8 undef = .pointer (some ⟨g, 0, none⟩)) (h : w.heap[g]? = some (.cells #[.string s, v] 25 (0, 0)))
    (hQ : Q (.returned (.tuple #[.agg #[.string s, v], tmps.getD 9 undef])) w) : bodyPost Tryd.prog Tryd.f13 Q Exit.ret { tmps := tmps, defers := [] } w := by
  refine bodyPost_ret ?_ rfl hQ
  have e : Tryd.f13.results = #[.cell 8 25, .tmp 9] := by kernel_rfl
  rw [results_cell_tmp e, hp]
  have := load25 g w s v h
  simp only [asAddr, Sem.run_pure, Result.andThen_ok, this]
theorem wrap_bad {s : ByteArray} {l : List S31} {V : Value} {x : S31} {W w : World} {bi bo bx : Nat} (h : wrapOk s l x = false) (hw : WS W w bi bo bx s V x) (a b : Value) : WrapPost s l x W (.returned (.tuple #[.agg #[.string ⟨#[]⟩, .slice none 0 0], .int .i64 170])) ((w.setCell ⟨bo, 0, none⟩ a).setCell ⟨bo, 1, none⟩ b) := by
  have e : wrapR s l x = (⟨#[]⟩, [], 170) := by unfold wrapR; rw [if_neg (by rw [h]; simp)]
  refine ⟨.slice none 0 0, by rw [e], by rw [e]; exact Kd.R_nil _ _ _ _ _, below_set (below_set hw.below hw.bas) hw.bas⟩
/-- What holds of a copy: its row is new. -/
structure Cp (W cur w6 : World) (l : List S31) (v : Value) : Prop where
  row : Kd.R k31 31 w6 W.heap.size (fun _ => True) v l
  own : ∀ k, v.ownBlock = some k → cur.heap.size ≤ k ∧ k < w6.heap.size
  bel : Below cur.heap.size cur w6
theorem clone_c (W cur : World) (A : Option Addr) (c : Nat) (l : List S31) (hW : Below W.heap.size W cur) (hr : Kd.C k31 W A l.length l) (hc : l.length ≤ c) (hl : l.length < 1000000000) :
    Calls Tryd.prog 34 #[.slice A l.length c] cur fun e w' => ∃ v, e = .returned v ∧ Cp W cur w' l v := by
  refine (clone_walk A c l cur (Kd.C_below hr hW) hc hl).mono ?_
  rintro e w' ⟨v, rfl, h, hb⟩
  exact ⟨v, rfl, R31 (own_less (own31 h) hW.size) (fun _ _ => trivial), fun k hk => ⟨(own_lt h hk).2, (own_lt h hk).1⟩, hb⟩
theorem cp_ne1 {W cur w6 : World} {l : List S31} {v : Value} (h : Cp W cur w6 l v) : v.ownBlock ≠ some w6.heap.size := fun e => absurd (h.own _ e).2 (Nat.lt_irrefl _)
theorem cp_ne2 {W w5 w6 : World} {l : List S31} {v : Value} {o : Obj} (h : Cp W (w5.alloc o).drew w6 l v) : v.ownBlock ≠ some w5.heap.size := fun e => by
  have := (h.own _ e).1
  have e2 : (w5.alloc o).drew.heap.size = w5.heap.size + 1 := by simp
  omega
theorem wrap_grown {W cur w7 : World} {bo : Nat} {v : Value} (hb : Below W.heap.size W cur) (ho : cur.heap[bo]? = some (.cells #[.string ⟨#[]⟩, .slice none 0 0] 25 (0, 0))) (hv : ∀ k, v.ownBlock = some k → W.heap.size ≤ k ∧ bo < k) (hg : cur.grownBy w7 v.ownBlock) : w7.heap[bo]? = some (.cells #[.string ⟨#[]⟩, .slice none 0 0] 25 (0, 0)) ∧ Below W.heap.size W w7 := by
  refine ⟨(hg.block bo (blk_lt ho) (fun e => ?_)).trans ho, hg.os.trans hb.os, hg.tape.trans hb.tape, hg.output.trans hb.output, Nat.le_trans hb.size hg.size, fun k hk => (hg.block k (Nat.lt_of_lt_of_le hk hb.size) (fun e => ?_)).trans (hb.block k hk)⟩
  · have := (hv bo e.symm).2; omega
  · have := (hv k e.symm).1; omega
theorem box_grown {cur w7 : World} {bi : Nat} {v : Value} {o : Obj} (ho : cur.heap[bi]? = some o) (hv : ∀ k, v.ownBlock = some k → bi < k) (hg : cur.grownBy w7 v.ownBlock) : w7.heap[bi]? = some o :=
  (hg.block bi (blk_lt ho) (fun e => Nat.lt_irrefl _ (hv bi e.symm))).trans ho
theorem ins_len {l : List S31} {x : S31} {n : Nat} (h : n ≤ l.length) : (l.take n ++ x :: l.drop n).length = l.length + 1 := by rw [List.length_append, List.length_cons, List.length_take, List.length_drop]; omega
theorem wrap_good {s : ByteArray} {l : List S31} {x : S31} {W w7 : World} {bo : Nat} {v : Value} (h : wrapOk s l x = true) (hb : Below W.heap.size W w7) (ho : w7.heap[bo]? = some (.cells #[.string ⟨#[]⟩, .slice none 0 0] 25 (0, 0))) (hbo : W.heap.size ≤ bo) {n : Nat} (hp : Place l x n n) (hr : Kd.R k31 31 w7 W.heap.size (fun _ => True) v (l.take n ++ x :: l.drop n)) (a b : Value) :
    WrapPost s l x W (.returned (.tuple #[.agg #[.string s, v], .int .i64 0])) ((w7.setCell ⟨bo, 0, none⟩ a).setCell ⟨bo, 1, none⟩ b) := by
  have e : wrapR s l x = (s, HP.putL lt31 l x, 0) := by unfold wrapR; rw [if_pos h]
  refine ⟨v, by rw [e], ?_, below_set (below_set hb hbo) hbo⟩
  rw [e, ← place_put l x n hp]
  refine R_typ hr rfl (fun k hk ⟨c, hc⟩ => ?_)
  have hne : k ≠ bo := typ_ne hc ho (by decide)
  exact (Below.heap_setCell _ ⟨bo, 1, none⟩ _ k hne).trans (Below.heap_setCell _ ⟨bo, 0, none⟩ _ k hne)
set_option maxHeartbeats 40000000 in
set_option maxRecDepth 100000 in
theorem wrap_walk (s : ByteArray) (A : Option Addr) (c : Nat) (l : List S31) (x : S31) (W : World) (hG : Gd W) (hs : s.size ≤ 9223372036854775807) (hr : Kd.C k31 W A l.length l) (hc : l.length ≤ c) (hl : l.length < 1000000000) :
    Calls Tryd.prog 13 #[.agg #[.string s, .slice A l.length c], .int .i64 x.f0, .int .i64 x.f1, .int .i64 x.f2] W (WrapPost s l x W) := by
  have hu25 := Tryd.underlying25
  have hu31 := Tryd.underlying31
  have hws := ws_start W s (.slice A l.length c) x
  have CC := Aside0.mk (fun (w2 : World) (hW : Below W.heap.size W w2) => check_walk s A c l w2 (Gd.below hG hW) hs (Kd.C_below hr hW) hc hl)
  have FC := Aside0.mk (fun (w2 : World) (hW : Below W.heap.size W w2) (bx : Nat) (hx : w2.heap[bx]? = _) => contains_walk x bx A c l w2 (Kd.C_below hr hW) hc hl hx)
  have SC := Aside0.mk (stretch_walk s x.f1 x.f2)
  have BC := Aside0.mk (fun (w2 : World) (hW : Below W.heap.size W w2) (hs : Sorted l) => bsearch_walk x A c l w2 (Kd.C_below hr hW) hc hl hs)
  have LC := Aside0.mk (fun (w2 : World) (hW : Below W.heap.size W w2) => clone_c W w2 A c l hW hr hc hl)
  have HR := Aside0.mk hr
  have HL := Aside0.mk hl
  have HCL := Aside0.mk hc
  clear hG hs hr hc hl
  go_enter Tryd.func13, Tryd.ntmps13
  go_upto_region 2 with (fail)
  generalize (((W.alloc (.cells #[.string s, .slice A l.length c] 25)).alloc (.cells #[.string ⟨#[]⟩, .slice none 0 0] 25)).alloc (.cells #[.int .i64 x.f0, .int .i64 x.f1, .int .i64 x.f2] 31)) = w1 at hws ⊢
  generalize W.heap.size + 1 + 1 = bx at hws ⊢
  generalize W.heap.size + 1 = bo at hws ⊢
  generalize W.heap.size = bi at hws ⊢
  have i0 : w1.cell? ⟨bi, 0, none⟩ = some (.string s) := (blk_cell hws.inp 0).trans rfl
  have i1 : w1.cell? ⟨bi, 1, none⟩ = some (.slice A l.length c) := (blk_cell hws.inp 1).trans rfl
  have o0 : w1.cell? ⟨bo, 0, none⟩ = some (.string ⟨#[]⟩) := (blk_cell hws.out 0).trans rfl
  have o1 : w1.cell? ⟨bo, 1, none⟩ = some (.slice none 0 0) := (blk_cell hws.out 1).trans rfl
  have p0 : w1.cell? ⟨bo, 0, none⟩ = some (.string ⟨#[]⟩) := o0
  have q0 := blk_frozen hws.out 0
  have q1 := blk_frozen hws.out 1
  have x0 := (blk_cell hws.spa 0).trans (rfl : _ = some (Value.int .i64 x.f0))
  have x1 := (blk_cell hws.spa 1).trans (rfl : _ = some (Value.int .i64 x.f1))
  have x2 := (blk_cell hws.spa 2).trans (rfl : _ = some (Value.int .i64 x.f2))
  have WS1 := Aside0.mk hws
  clear hws
  cases hc : chkB s l with
  | false =>
    have HBAD : Aside0 (wrapOk s l x = false) := ⟨by unfold wrapOk; rw [hc]; rfl⟩
    unfold ChkPost at CC
    rw [hc] at CC
    go_wp2_with (go_at_call 15; refine (CC.out _ WS1.out.below).mono ?_; rintro e w2 ⟨rfl, hb⟩; have hw' := WS1.out.next hb; have i0 : w2.cell? ⟨bi, 0, none⟩ = some (.string s) := (blk_cell hw'.inp 0).trans rfl; have i1 : w2.cell? ⟨bi, 1, none⟩ = some (.slice A l.length c) := (blk_cell hw'.inp 1).trans rfl; have o0 : w2.cell? ⟨bo, 0, none⟩ = some (.string ⟨#[]⟩) := (blk_cell hw'.out 0).trans rfl; have o1 : w2.cell? ⟨bo, 1, none⟩ = some (.slice none 0 0) := (blk_cell hw'.out 1).trans rfl; have p0 : w2.cell? ⟨bo, 0, none⟩ = some (.string ⟨#[]⟩) := o0; have q0 := blk_frozen hw'.out 0; have q1 := blk_frozen hw'.out 1; have x0 := (blk_cell hw'.spa 0).trans (rfl : _ = some (Value.int .i64 x.f0)); have x1 := (blk_cell hw'.spa 1).trans (rfl : _ = some (Value.int .i64 x.f1)); have x2 := (blk_cell hw'.spa 2).trans (rfl : _ = some (Value.int .i64 x.f2)); have WS2 := Aside0.mk hw'; clear hb hw')
    (try simp only [Exit.inBlock, Exit.then])
    refine ret_box13 rfl (blk_put (blk_put WS2.out.out 0 _ rfl) 1 _ rfl) ?_
    exact wrap_bad HBAD.out WS2.out _ _
  | true =>
    unfold ChkPost at CC
    rw [hc] at CC
    by_cases n0 : x.f0 < 1
    · have HBAD : Aside0 (wrapOk s l x = false) := ⟨by unfold wrapOk; rw [hc, decide_eq_false (show ¬ 1 ≤ x.f0 by omega)]; rfl⟩
      go_wp2_with (go_at_call 15; refine (CC.out _ WS1.out.below).mono ?_; rintro e w2 ⟨rfl, hb⟩; have hw' := WS1.out.next hb; have i0 : w2.cell? ⟨bi, 0, none⟩ = some (.string s) := (blk_cell hw'.inp 0).trans rfl; have i1 : w2.cell? ⟨bi, 1, none⟩ = some (.slice A l.length c) := (blk_cell hw'.inp 1).trans rfl; have o0 : w2.cell? ⟨bo, 0, none⟩ = some (.string ⟨#[]⟩) := (blk_cell hw'.out 0).trans rfl; have o1 : w2.cell? ⟨bo, 1, none⟩ = some (.slice none 0 0) := (blk_cell hw'.out 1).trans rfl; have p0 : w2.cell? ⟨bo, 0, none⟩ = some (.string ⟨#[]⟩) := o0; have q0 := blk_frozen hw'.out 0; have q1 := blk_frozen hw'.out 1; have x0 := (blk_cell hw'.spa 0).trans (rfl : _ = some (Value.int .i64 x.f0)); have x1 := (blk_cell hw'.spa 1).trans (rfl : _ = some (Value.int .i64 x.f1)); have x2 := (blk_cell hw'.spa 2).trans (rfl : _ = some (Value.int .i64 x.f2)); have WS2 := Aside0.mk hw'; clear hb hw')
      (try simp only [Exit.inBlock, Exit.then])
      refine ret_box13 rfl (blk_put (blk_put WS2.out.out 0 _ rfl) 1 _ rfl) ?_
      exact wrap_bad HBAD.out WS2.out _ _
    · by_cases n1 : 18 ≤ x.f0
      · have HBAD : Aside0 (wrapOk s l x = false) := ⟨by unfold wrapOk; rw [hc, decide_eq_false (show ¬ x.f0 < 18 by omega), Bool.false_and, Bool.and_false]; rfl⟩
        go_wp2_with (go_at_call 15; refine (CC.out _ WS1.out.below).mono ?_; rintro e w2 ⟨rfl, hb⟩; have hw' := WS1.out.next hb; have i0 : w2.cell? ⟨bi, 0, none⟩ = some (.string s) := (blk_cell hw'.inp 0).trans rfl; have i1 : w2.cell? ⟨bi, 1, none⟩ = some (.slice A l.length c) := (blk_cell hw'.inp 1).trans rfl; have o0 : w2.cell? ⟨bo, 0, none⟩ = some (.string ⟨#[]⟩) := (blk_cell hw'.out 0).trans rfl; have o1 : w2.cell? ⟨bo, 1, none⟩ = some (.slice none 0 0) := (blk_cell hw'.out 1).trans rfl; have p0 : w2.cell? ⟨bo, 0, none⟩ = some (.string ⟨#[]⟩) := o0; have q0 := blk_frozen hw'.out 0; have q1 := blk_frozen hw'.out 1; have x0 := (blk_cell hw'.spa 0).trans (rfl : _ = some (Value.int .i64 x.f0)); have x1 := (blk_cell hw'.spa 1).trans (rfl : _ = some (Value.int .i64 x.f1)); have x2 := (blk_cell hw'.spa 2).trans (rfl : _ = some (Value.int .i64 x.f2)); have WS2 := Aside0.mk hw'; clear hb hw')
        (try simp only [Exit.inBlock, Exit.then])
        refine ret_box13 rfl (blk_put (blk_put WS2.out.out 0 _ rfl) 1 _ rfl) ?_
        exact wrap_bad HBAD.out WS2.out _ _
      · cases hst : stretchB s x.f1 x.f2 with
        | false =>
          have HBAD : Aside0 (wrapOk s l x = false) := ⟨by unfold wrapOk; rw [hst, Bool.false_and, Bool.and_false, Bool.and_false, Bool.and_false]⟩
          rw [hst] at SC
          go_wp2_with (first | (go_at_call 15; refine (CC.out _ WS1.out.below).mono ?_; rintro e w2 ⟨rfl, hb⟩; have hw' := WS1.out.next hb; have i0 : w2.cell? ⟨bi, 0, none⟩ = some (.string s) := (blk_cell hw'.inp 0).trans rfl; have i1 : w2.cell? ⟨bi, 1, none⟩ = some (.slice A l.length c) := (blk_cell hw'.inp 1).trans rfl; have o0 : w2.cell? ⟨bo, 0, none⟩ = some (.string ⟨#[]⟩) := (blk_cell hw'.out 0).trans rfl; have o1 : w2.cell? ⟨bo, 1, none⟩ = some (.slice none 0 0) := (blk_cell hw'.out 1).trans rfl; have p0 : w2.cell? ⟨bo, 0, none⟩ = some (.string ⟨#[]⟩) := o0; have q0 := blk_frozen hw'.out 0; have q1 := blk_frozen hw'.out 1; have x0 := (blk_cell hw'.spa 0).trans (rfl : _ = some (Value.int .i64 x.f0)); have x1 := (blk_cell hw'.spa 1).trans (rfl : _ = some (Value.int .i64 x.f1)); have x2 := (blk_cell hw'.spa 2).trans (rfl : _ = some (Value.int .i64 x.f2)); have WS2 := Aside0.mk hw'; clear hb hw') | (go_at_call 27; refine (SC.out w2).mono ?_; rintro e w3 ⟨rfl, hb⟩; have hw' := WS2.out.next hb; have i0 : w3.cell? ⟨bi, 0, none⟩ = some (.string s) := (blk_cell hw'.inp 0).trans rfl; have i1 : w3.cell? ⟨bi, 1, none⟩ = some (.slice A l.length c) := (blk_cell hw'.inp 1).trans rfl; have o0 : w3.cell? ⟨bo, 0, none⟩ = some (.string ⟨#[]⟩) := (blk_cell hw'.out 0).trans rfl; have o1 : w3.cell? ⟨bo, 1, none⟩ = some (.slice none 0 0) := (blk_cell hw'.out 1).trans rfl; have p0 : w3.cell? ⟨bo, 0, none⟩ = some (.string ⟨#[]⟩) := o0; have q0 := blk_frozen hw'.out 0; have q1 := blk_frozen hw'.out 1; have x0 := (blk_cell hw'.spa 0).trans (rfl : _ = some (Value.int .i64 x.f0)); have x1 := (blk_cell hw'.spa 1).trans (rfl : _ = some (Value.int .i64 x.f1)); have x2 := (blk_cell hw'.spa 2).trans (rfl : _ = some (Value.int .i64 x.f2)); have WS3 := Aside0.mk hw'; clear hb hw'))
          (try simp only [Exit.inBlock, Exit.then])
          refine ret_box13 rfl (blk_put (blk_put WS3.out.out 0 _ rfl) 1 _ rfl) ?_
          exact wrap_bad HBAD.out WS3.out _ _
        | true =>
          rw [hst] at SC
          cases hf : findX x l with
          | true =>
            have HBAD : Aside0 (wrapOk s l x = false) := ⟨by unfold wrapOk; rw [hf, Bool.not_true, Bool.and_false, Bool.and_false, Bool.and_false, Bool.and_false]⟩
            rw [hf] at FC
            go_wp2_with (first | (go_at_call 15; refine (CC.out _ WS1.out.below).mono ?_; rintro e w2 ⟨rfl, hb⟩; have hw' := WS1.out.next hb; have i0 : w2.cell? ⟨bi, 0, none⟩ = some (.string s) := (blk_cell hw'.inp 0).trans rfl; have i1 : w2.cell? ⟨bi, 1, none⟩ = some (.slice A l.length c) := (blk_cell hw'.inp 1).trans rfl; have o0 : w2.cell? ⟨bo, 0, none⟩ = some (.string ⟨#[]⟩) := (blk_cell hw'.out 0).trans rfl; have o1 : w2.cell? ⟨bo, 1, none⟩ = some (.slice none 0 0) := (blk_cell hw'.out 1).trans rfl; have p0 : w2.cell? ⟨bo, 0, none⟩ = some (.string ⟨#[]⟩) := o0; have q0 := blk_frozen hw'.out 0; have q1 := blk_frozen hw'.out 1; have x0 := (blk_cell hw'.spa 0).trans (rfl : _ = some (Value.int .i64 x.f0)); have x1 := (blk_cell hw'.spa 1).trans (rfl : _ = some (Value.int .i64 x.f1)); have x2 := (blk_cell hw'.spa 2).trans (rfl : _ = some (Value.int .i64 x.f2)); have WS2 := Aside0.mk hw'; clear hb hw') | (go_at_call 27; refine (SC.out w2).mono ?_; rintro e w3 ⟨rfl, hb⟩; have hw' := WS2.out.next hb; have i0 : w3.cell? ⟨bi, 0, none⟩ = some (.string s) := (blk_cell hw'.inp 0).trans rfl; have i1 : w3.cell? ⟨bi, 1, none⟩ = some (.slice A l.length c) := (blk_cell hw'.inp 1).trans rfl; have o0 : w3.cell? ⟨bo, 0, none⟩ = some (.string ⟨#[]⟩) := (blk_cell hw'.out 0).trans rfl; have o1 : w3.cell? ⟨bo, 1, none⟩ = some (.slice none 0 0) := (blk_cell hw'.out 1).trans rfl; have p0 : w3.cell? ⟨bo, 0, none⟩ = some (.string ⟨#[]⟩) := o0; have q0 := blk_frozen hw'.out 0; have q1 := blk_frozen hw'.out 1; have x0 := (blk_cell hw'.spa 0).trans (rfl : _ = some (Value.int .i64 x.f0)); have x1 := (blk_cell hw'.spa 1).trans (rfl : _ = some (Value.int .i64 x.f1)); have x2 := (blk_cell hw'.spa 2).trans (rfl : _ = some (Value.int .i64 x.f2)); have WS3 := Aside0.mk hw'; clear hb hw') | (go_at_call 28; refine (FC.out w3 WS3.out.below bx WS3.out.spa).mono ?_; rintro e w4 ⟨rfl, hb⟩; have hw' := WS3.out.next hb; have i0 : w4.cell? ⟨bi, 0, none⟩ = some (.string s) := (blk_cell hw'.inp 0).trans rfl; have i1 : w4.cell? ⟨bi, 1, none⟩ = some (.slice A l.length c) := (blk_cell hw'.inp 1).trans rfl; have o0 : w4.cell? ⟨bo, 0, none⟩ = some (.string ⟨#[]⟩) := (blk_cell hw'.out 0).trans rfl; have o1 : w4.cell? ⟨bo, 1, none⟩ = some (.slice none 0 0) := (blk_cell hw'.out 1).trans rfl; have p0 : w4.cell? ⟨bo, 0, none⟩ = some (.string ⟨#[]⟩) := o0; have q0 := blk_frozen hw'.out 0; have q1 := blk_frozen hw'.out 1; have x0 := (blk_cell hw'.spa 0).trans (rfl : _ = some (Value.int .i64 x.f0)); have x1 := (blk_cell hw'.spa 1).trans (rfl : _ = some (Value.int .i64 x.f1)); have x2 := (blk_cell hw'.spa 2).trans (rfl : _ = some (Value.int .i64 x.f2)); have WS4 := Aside0.mk hw'; clear hb hw'))
            (try simp only [Exit.inBlock, Exit.then])
            refine ret_box13 rfl (blk_put (blk_put WS4.out.out 0 _ rfl) 1 _ rfl) ?_
            exact wrap_bad HBAD.out WS4.out _ _
          | false =>
            have HOK : Aside0 (wrapOk s l x = true) := ⟨by unfold wrapOk; rw [hc, hst, hf, decide_eq_true (show 1 ≤ x.f0 by omega), decide_eq_true (show x.f0 < 18 by omega)]; rfl⟩
            rw [hf] at FC
            go_upto_region 4 with (first | (go_at_call 15; refine (CC.out _ WS1.out.below).mono ?_; rintro e w2 ⟨rfl, hb⟩; have hw' := WS1.out.next hb; have i0 : w2.cell? ⟨bi, 0, none⟩ = some (.string s) := (blk_cell hw'.inp 0).trans rfl; have i1 : w2.cell? ⟨bi, 1, none⟩ = some (.slice A l.length c) := (blk_cell hw'.inp 1).trans rfl; have o0 : w2.cell? ⟨bo, 0, none⟩ = some (.string ⟨#[]⟩) := (blk_cell hw'.out 0).trans rfl; have o1 : w2.cell? ⟨bo, 1, none⟩ = some (.slice none 0 0) := (blk_cell hw'.out 1).trans rfl; have p0 : w2.cell? ⟨bo, 0, none⟩ = some (.string ⟨#[]⟩) := o0; have q0 := blk_frozen hw'.out 0; have q1 := blk_frozen hw'.out 1; have x0 := (blk_cell hw'.spa 0).trans (rfl : _ = some (Value.int .i64 x.f0)); have x1 := (blk_cell hw'.spa 1).trans (rfl : _ = some (Value.int .i64 x.f1)); have x2 := (blk_cell hw'.spa 2).trans (rfl : _ = some (Value.int .i64 x.f2)); have WS2 := Aside0.mk hw'; clear hb hw') | (go_at_call 27; refine (SC.out w2).mono ?_; rintro e w3 ⟨rfl, hb⟩; have hw' := WS2.out.next hb; have i0 : w3.cell? ⟨bi, 0, none⟩ = some (.string s) := (blk_cell hw'.inp 0).trans rfl; have i1 : w3.cell? ⟨bi, 1, none⟩ = some (.slice A l.length c) := (blk_cell hw'.inp 1).trans rfl; have o0 : w3.cell? ⟨bo, 0, none⟩ = some (.string ⟨#[]⟩) := (blk_cell hw'.out 0).trans rfl; have o1 : w3.cell? ⟨bo, 1, none⟩ = some (.slice none 0 0) := (blk_cell hw'.out 1).trans rfl; have p0 : w3.cell? ⟨bo, 0, none⟩ = some (.string ⟨#[]⟩) := o0; have q0 := blk_frozen hw'.out 0; have q1 := blk_frozen hw'.out 1; have x0 := (blk_cell hw'.spa 0).trans (rfl : _ = some (Value.int .i64 x.f0)); have x1 := (blk_cell hw'.spa 1).trans (rfl : _ = some (Value.int .i64 x.f1)); have x2 := (blk_cell hw'.spa 2).trans (rfl : _ = some (Value.int .i64 x.f2)); have WS3 := Aside0.mk hw'; clear hb hw') | (go_at_call 28; refine (FC.out w3 WS3.out.below bx WS3.out.spa).mono ?_; rintro e w4 ⟨rfl, hb⟩; have hw' := WS3.out.next hb; have i0 : w4.cell? ⟨bi, 0, none⟩ = some (.string s) := (blk_cell hw'.inp 0).trans rfl; have i1 : w4.cell? ⟨bi, 1, none⟩ = some (.slice A l.length c) := (blk_cell hw'.inp 1).trans rfl; have o0 : w4.cell? ⟨bo, 0, none⟩ = some (.string ⟨#[]⟩) := (blk_cell hw'.out 0).trans rfl; have o1 : w4.cell? ⟨bo, 1, none⟩ = some (.slice none 0 0) := (blk_cell hw'.out 1).trans rfl; have p0 : w4.cell? ⟨bo, 0, none⟩ = some (.string ⟨#[]⟩) := o0; have q0 := blk_frozen hw'.out 0; have q1 := blk_frozen hw'.out 1; have x0 := (blk_cell hw'.spa 0).trans (rfl : _ = some (Value.int .i64 x.f0)); have x1 := (blk_cell hw'.spa 1).trans (rfl : _ = some (Value.int .i64 x.f1)); have x2 := (blk_cell hw'.spa 2).trans (rfl : _ = some (Value.int .i64 x.f2)); have WS4 := Aside0.mk hw'; clear hb hw'))
            have HSO : Aside0 (Sorted l) := ⟨sorted_of (by unfold chkB at hc; revert hc; cases sortB l <;> simp)⟩
            clear hc hst hf CC SC FC n0 n1
            go_upto_region 5 with (go_at_call 31; refine (BC.out w4 WS4.out.below HSO.out).mono ?_; rintro e w5 ⟨⟨n, bb, rfl, hp⟩, hb⟩; have hwn := WS4.out.next hb; have HP := Aside0.mk hp; have WS5 := Aside0.mk hwn; clear hb hwn hp)
            clear i0 i1 o0 o1 p0 q0 q1 x0 x1 x2
            have i0 := (blk_cell WS5.out.inp 0).trans (rfl : _ = some (Value.string s))
            have i0a := (fun (o : Obj) => (blk_cell (blk_alloc WS5.out.inp o) 0).trans (rfl : _ = some (Value.string s)))
            have i1 := (blk_cell WS5.out.inp 1).trans (rfl : _ = some (Value.slice A l.length c))
            have i1a := (fun (o : Obj) => (blk_cell (blk_alloc WS5.out.inp o) 1).trans (rfl : _ = some (Value.slice A l.length c)))
            have x0 := (blk_cell WS5.out.spa 0).trans (rfl : _ = some (Value.int .i64 x.f0))
            have x0a := (fun (o : Obj) => (blk_cell (blk_alloc WS5.out.spa o) 0).trans (rfl : _ = some (Value.int .i64 x.f0)))
            have x1 := (blk_cell WS5.out.spa 1).trans (rfl : _ = some (Value.int .i64 x.f1))
            have x1a := (fun (o : Obj) => (blk_cell (blk_alloc WS5.out.spa o) 1).trans (rfl : _ = some (Value.int .i64 x.f1)))
            have x2 := (blk_cell WS5.out.spa 2).trans (rfl : _ = some (Value.int .i64 x.f2))
            have x2a := (fun (o : Obj) => (blk_cell (blk_alloc WS5.out.spa o) 2).trans (rfl : _ = some (Value.int .i64 x.f2)))
            go_wp2
            go_region_law (first | (go_simp; go_at_call 34; refine (LC.out _ (by first | exact below_drew1 WS5.out.below | exact below_drew1 (below_alloc WS5.out.below _))).mono ?_; rintro e w6 ⟨v, rfl, hcp⟩; have hwn : WS W w6 bi bo bx s (.slice A l.length c) x := (by first | exact (WS5.out.next (below_drew1 (Below.refl _ _))).next hcp.bel | exact ((WS5.out.next (below_alloc (Below.refl _ _) _)).next (below_drew1 (Below.refl _ _))).next hcp.bel); have hvv : ∀ k, v.ownBlock = some k → W.heap.size ≤ k ∧ bo < k := (fun k hk => ⟨(own_lt hcp.row hk).2, Nat.lt_of_lt_of_le (blk_lt WS5.out.out) (Nat.le_trans (by first | exact Nat.le_refl _ | (simp; done)) (hcp.own k hk).1)⟩); have i0 := (blk_cell hwn.inp 0).trans (rfl : _ = some (Value.string s)); have i0a := (fun (o : Obj) => (blk_cell (blk_alloc hwn.inp o) 0).trans (rfl : _ = some (Value.string s))); have i1 := (blk_cell hwn.inp 1).trans (rfl : _ = some (Value.slice A l.length c)); have i1a := (fun (o : Obj) => (blk_cell (blk_alloc hwn.inp o) 1).trans (rfl : _ = some (Value.slice A l.length c))); have x0 := (blk_cell hwn.spa 0).trans (rfl : _ = some (Value.int .i64 x.f0)); have x0a := (fun (o : Obj) => (blk_cell (blk_alloc hwn.spa o) 0).trans (rfl : _ = some (Value.int .i64 x.f0))); have x1 := (blk_cell hwn.spa 1).trans (rfl : _ = some (Value.int .i64 x.f1)); have x1a := (fun (o : Obj) => (blk_cell (blk_alloc hwn.spa o) 1).trans (rfl : _ = some (Value.int .i64 x.f1))); have x2 := (blk_cell hwn.spa 2).trans (rfl : _ = some (Value.int .i64 x.f2)); have x2a := (fun (o : Obj) => (blk_cell (blk_alloc hwn.spa o) 2).trans (rfl : _ = some (Value.int .i64 x.f2))); have HCP := Aside0.mk hcp; have WS6 := Aside0.mk hwn; have HVV := Aside0.mk hvv; have HVI : Aside0 (∀ k, v.ownBlock = some k → bi < k) := ⟨fun k hk => Nat.lt_of_lt_of_le (blk_lt WS5.out.inp) (Nat.le_trans (by first | exact Nat.le_refl _ | (simp; done)) (hcp.own k hk).1)⟩; clear hcp hwn hvv) | (go_simp; go_at_call 33; refine (insert_walk W.heap.size _ n v l x _ ?hr ?hv ?hg ?hbb HL.out HP.out.len).mono ?_; (case hr => first | exact HCP.out.row | exact Kd.R_alloc HCP.out.row _); (case hv => first | exact blk_new _ _ | exact blk_below (w := (w5.alloc _).drew) (blk_new w5 _) HCP.out.bel); (case hg => first | exact cp_ne1 HCP.out | exact cp_ne2 HCP.out); (case hbb => first | exact WS6.out.below.size | exact (below_alloc WS6.out.below _).size); rintro e w7 ⟨v', rfl, hr7, hg7⟩; have hq7 : w7.heap[bo]? = some (.cells #[.string ⟨#[]⟩, .slice none 0 0] 25 (0, 0)) ∧ Below W.heap.size W w7 := (by first | exact wrap_grown WS6.out.below WS6.out.out HVV.out hg7 | exact wrap_grown (below_alloc WS6.out.below _) (blk_alloc WS6.out.out _) HVV.out hg7); have o0 : w7.cell? ⟨bo, 0, none⟩ = some (.string ⟨#[]⟩) := (blk_cell hq7.1 0).trans rfl; have o1 : w7.cell? ⟨bo, 1, none⟩ = some (.slice none 0 0) := (blk_cell hq7.1 1).trans rfl; have q0 := blk_frozen hq7.1 0; have q1 := blk_frozen hq7.1 1; obtain ⟨A7, c7, e7⟩ := Kd.R_slice hr7; rw [ins_len HP.out.len] at e7; subst e7; have hi7 : w7.heap[bi]? = some (.cells #[.string s, .slice A l.length c] 25 (0, 0)) := (by first | exact box_grown WS6.out.inp HVI.out hg7 | exact box_grown (blk_alloc WS6.out.inp _) HVI.out hg7); have i0 : w7.cell? ⟨bi, 0, none⟩ = some (.string s) := (blk_cell hi7 0).trans rfl; clear hi7; have HQ7 := Aside0.mk hq7; have HR7 := Aside0.mk hr7; clear hq7 hr7 hg7))
            all_goals
              go_wp2
              (try simp only [Exit.inBlock, Exit.then])
              refine ret_box13 rfl (blk_put (blk_put HQ7.out.1 0 _ rfl) 1 _ rfl) ?_
              exact wrap_good HOK.out HQ7.out.2 HQ7.out.1 WS5.out.bas HP.out HR7.out _ _
end Go.Proofs.YtffldajbnhbkkaaDoor.Q
