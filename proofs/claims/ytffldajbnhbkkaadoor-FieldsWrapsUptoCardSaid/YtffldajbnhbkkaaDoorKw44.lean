import Derived.Test.YtffldajbnhbkkaaDoorKw37
namespace Go.Proofs.YtffldajbnhbkkaaDoor.Q
open Go.RowKit Go.Proofs.YtffldajbnhbkkaaDoorW.PrintWords Go.Proofs.YtffldajbnhbkkaaDoorW.PrintLast Go.Proofs.YtffldajbnhbkkaaDoorW.PrintMore
set_option linter.unusedVariables false
set_option linter.unusedSimpArgs false
/-- What own leaves: a row of one span more, the mark. -/
def mkL (l : List S31) : List S31 := l ++ [⟨77, 0, 0⟩]
def OwnPost (s : ByteArray) (l : List S31) (W : World) (e : Ending) (w' : World) : Prop := ∃ (g cap : Nat), e = .returned (.agg #[.string s, .slice (some ⟨g, 0, none⟩) l.length cap]) ∧ Kd.R k31 31 w' W.heap.size (fun _ => True) (.slice (some ⟨g, 0, none⟩) (l.length + 1) cap) (mkL l) ∧ Below W.heap.size W w'
theorem ret_box12 {Q : Ending → World → Prop} {tmps : Array Value} {w : World} {g : Nat} {s : ByteArray} {v : Value} (hp : tmps.getD 2 undef = .pointer (some ⟨g, 0, none⟩)) (h : w.heap[g]? = some (.cells #[.string s, v] 25 (0, 0)))
    (hQ : Q (.returned (.agg #[.string s, v])) w) : bodyPost Tryd.prog Tryd.f12 Q Exit.ret { tmps := tmps, defers := [] } w := by
  refine bodyPost_ret ?_ rfl hQ
  have e : Tryd.f12.results = #[.cell 2 25] := by kernel_rfl
  have := load25 g w s v h
  simp only [Array.getD_eq_getD_getElem?] at hp
  simp only [results, e]
  simp [asAddr, Sem.run_pure, Result.andThen_ok]
  rw [hp]
  simp only [Sem.run_pure, Result.andThen_ok, this]
/-- The world within own. -/
structure OW (W w : World) (bi bo : Nat) (s : ByteArray) (V : Value) (l : List S31) (v : Value) : Prop where
  below : Below W.heap.size W w
  inp : w.heap[bi]? = some (.cells #[.string s, V] 25 (0, 0))
  out : w.heap[bo]? = some (.cells #[.string ⟨#[]⟩, .slice none 0 0] 25 (0, 0))
  bas : W.heap.size ≤ bo
  row : Kd.R k31 31 w W.heap.size (fun _ => True) v l
theorem OW.grown {W w w' : World} {bi bo : Nat} {s : ByteArray} {V : Value} {l l' : List S31} {v v' : Value} (h : OW W w bi bo s V l v) (hg : w.grownBy w' v.ownBlock) (hb : Below W.heap.size W w') (hr : Kd.R k31 31 w' W.heap.size (fun _ => True) v' l') : OW W w' bi bo s V l' v' := by
  have keep : ∀ (k : Nat) (c : Array Value), w.heap[k]? = some (.cells c 25 (0, 0)) → w'.heap[k]? = some (.cells c 25 (0, 0)) := fun k c hk => by
    refine (hg.block k (blk_lt hk) (fun e => ?_)).trans hk
    obtain ⟨c', hc⟩ := Kd.R_typed h.row k e.symm
    exact typ_ne hk hc (by decide) rfl
  exact ⟨hb, keep _ _ h.inp, keep _ _ h.out, h.bas, hr⟩
theorem OW.next {W w w' : World} {bi bo : Nat} {s : ByteArray} {V : Value} {l : List S31} {v : Value} (h : OW W w bi bo s V l v) (hb : Below w.heap.size w w') : OW W w' bi bo s V l v := ⟨below_step h.below hb, blk_below h.inp hb, blk_below h.out hb, h.bas, Kd.R_below h.row hb⟩
theorem ow_start (W : World) (s : ByteArray) (V : Value) : OW W (((W.alloc (.cells #[.string s, V] 25)).alloc (.cells #[.string ⟨#[]⟩, .slice none 0 0] 25)).alloc (.cells #[] 31)) W.heap.size (W.heap.size + 1) s V [] (.slice (some ⟨((W.alloc (.cells #[.string s, V] 25)).alloc (.cells #[.string ⟨#[]⟩, .slice none 0 0] 25)).heap.size, 0, none⟩) 0 0) := by
  obtain ⟨h1, h2⟩ := two_blocks W #[.string s, V] #[.string ⟨#[]⟩, .slice none 0 0] 25 25
  have hb : Below W.heap.size W ((W.alloc (.cells #[.string s, V] 25)).alloc (.cells #[.string ⟨#[]⟩, .slice none 0 0] 25)) := below_alloc (below_alloc (Below.refl _ _) _) _
  exact ⟨below_alloc hb _, blk_alloc h1 _, blk_alloc h2 _, Nat.le_succ _, R_empty _ _ hb.size _ trivial⟩
theorem own_done {W w : World} {bi bo : Nat} {s : ByteArray} {V : Value} {l : List S31} {g cap : Nat} (h : OW W w bi bo s V (mkL l) (.slice (some ⟨g, 0, none⟩) (l.length + 1) cap)) (a b : Value) : OwnPost s l W (.returned (.agg #[.string s, .slice (some ⟨g, 0, none⟩) l.length cap])) ((w.setCell ⟨bo, 0, none⟩ a).setCell ⟨bo, 1, none⟩ b) := by
  refine ⟨g, cap, rfl, R_typ h.row rfl (fun k hk ⟨c, hc⟩ => ?_), below_set (below_set h.below h.bas) h.bas⟩
  have hne : k ≠ bo := typ_ne hc h.out (by decide)
  exact (Below.heap_setCell _ ⟨bo, 1, none⟩ _ k hne).trans (Below.heap_setCell _ ⟨bo, 0, none⟩ _ k hne)
set_option maxHeartbeats 4000000 in
set_option maxRecDepth 100000 in
theorem own_walk (s : ByteArray) (A : Option Addr) (c : Nat) (l : List S31) (W : World) (hr : Kd.C k31 W A l.length l) (hc : l.length ≤ c) (hl : l.length < 100000000) :
    Calls Tryd.prog 12 #[.agg #[.string s, .slice A l.length c]] W (OwnPost s l W) := by
  have hu25 := Tryd.underlying25
  have hu31 := Tryd.underlying31
  have hu23 := Tryd.underlying23
  have hst := ow_start W s (.slice A l.length c)
  obtain ⟨h1, h2⟩ := two_blocks W #[.string s, .slice A l.length c] #[.string ⟨#[]⟩, .slice none 0 0] 25 25
  have HR := Aside0.mk hr
  have HL := Aside0.mk hl
  have HST := Aside0.mk hst
  have i1 := (blk_cell (blk_alloc h1 (Obj.cells #[] 31)) 1).trans (rfl : _ = some (Value.slice A l.length c))
  have i1b := (blk_cell h1 1).trans (rfl : _ = some (Value.slice A l.length c))
  clear hr hc hl hst h1 h2
  go_enter Tryd.func12, Tryd.ntmps12
  go_upto_region 2 with (at_builtin; refine Kd.R_append_rows k31 (Rr := k31.K (((W.alloc (.cells #[.string s, .slice A l.length c] 25)).alloc (.cells #[.string ⟨#[]⟩, .slice none 0 0] 25)).alloc (.cells #[] 31))) (w0 := W) W.heap.size rfl (.tmp 4) (.tmp 6) 23 31 (.agg #[.int .i64 0, .int .i64 0, .int .i64 0]) 24 rfl Tryd.underlying23 info31 rfl (by decide) (by omega) (.slice (some ⟨((W.alloc (.cells #[.string s, .slice A l.length c] 25)).alloc (.cells #[.string ⟨#[]⟩, .slice none 0 0] 25)).heap.size, 0, none⟩) 0 0) [] l A l.length c (fun _ => True) (fun _ => False) ?aV rfl ?aO ?aR (fun x cs h => KM31 x cs h) (fun _ hk => hk.elim) (fun _ _ => trivial) ?aB ?aS ?aL ?_; (case aV => simp [Act.eval, Act.put]); (case aO => exact HST.out.row); (case aR => exact Kd.C_below HR.out HST.out.below); (case aB => exact HST.out.below); (case aS => exact HST.out.below.size); (case aL => have := HL.out; simp; omega); intro v1 w2 ho hb hg hat; have HO2 := Aside0.mk (HST.out.grown hg hb ho); clear ho hb hg hat)
  have ho2 := HO2.out
  rw [List.nil_append] at ho2
  obtain ⟨A1, cp1, rfl⟩ := Kd.R_slice ho2.row
  have HO3 := Aside0.mk ho2
  have HW3 : Aside0 (W.heap.size ≤ w2.heap.size) := ⟨ho2.below.size⟩
  have i0 := (blk_cell ho2.inp 0).trans (rfl : _ = some (Value.string s))
  have i1 := (blk_cell ho2.inp 1).trans (rfl : _ = some (Value.slice A l.length c))
  have i0a := (blk_cell (blk_alloc ho2.inp (Obj.cells #[Value.int .i64 77, Value.int .i64 0, Value.int .i64 0] 31)) 0).trans (rfl : _ = some (Value.string s))
  have i1a := (blk_cell (blk_alloc ho2.inp (Obj.cells #[Value.int .i64 77, Value.int .i64 0, Value.int .i64 0] 31)) 1).trans (rfl : _ = some (Value.slice A l.length c))
  have n0 : (0 : Int) ≤ (l.length : Int) := Int.natCast_nonneg _
  clear i1b HO2 ho2
  generalize W.heap.size + 1 = bo at HO3 ⊢
  generalize hbi : W.heap.size = bi at i0 i1 i0a i1a HO3 HW3 ⊢
  go_wp2
  go_region_law (refine law_of_step ?hw (Kd.R_append_step k31 (w0 := W) (W := w2.drew) W.heap.size ?hw2 (.tmp 10) (.tmp 12) 23 31 (.agg #[.int .i64 0, .int .i64 0, .int .i64 0]) 24 ?ho Tryd.underlying23 info31 rfl (by decide) (by decide) (.slice A1 l.length cp1) l ⟨77, 0, 0⟩ [.int .i64 77, .int .i64 0, .int .i64 0] (fun _ => True) (fun _ => False) ?hs ?hx (k31_mkM _ _ _ _) (fun _ h => h.elim) ?hfr ?hO ?hB ?hb ?hl ?_); (case hw => simp [Region.wanted]); (case hw2 => simp [Region.wanted]); (case ho => rfl); (case hs => simp [Act.eval, Act.put]); (case hx => simp [Act.eval, Act.put]); (case hfr => intro q hq; trivial); (case hO => exact Kd.R_drew HO3.out.row); (case hB => exact below_drew1 HO3.out.below); (case hb => exact HO3.out.below.size); (case hl => have := HL.out; omega); intro v1 w4 hR4 hB4 hg4 hat4; have hO4 := (HO3.out.next (below_drew1 (Below.refl _ _))).grown hg4 hB4 hR4; obtain ⟨g4, c4, rfl, _⟩ := Kd.R_form hR4 (by simp); have hle := (Kd.R_reads' hR4).2.1; have e4 : (l ++ [(⟨77, 0, 0⟩ : S31)]).length = l.length + 1 := (by simp); rw [e4] at hO4 hle ⊢; have hlc : l.length ≤ c4 := Nat.le_of_succ_le hle; have hlc2 : (l.length : Int) ≤ (c4 : Int) := Int.ofNat_le.2 hlc; have j0 := (blk_cell hO4.inp 0).trans (rfl : _ = some (Value.string s)); have j1 := (blk_cell hO4.inp 1).trans (rfl : _ = some (Value.slice A l.length c)); have p0 := (blk_cell hO4.out 0).trans (rfl : _ = some (Value.string ⟨#[]⟩)); have p1 := (blk_cell hO4.out 1).trans (rfl : _ = some (Value.slice none 0 0)); have z0 := blk_frozen hO4.out 0; have z1 := blk_frozen hO4.out 1; have HO4 := Aside0.mk hO4; clear hO4 hR4 hB4 hg4 hat4 hle e4)
  all_goals
    go_wp2
    (try simp only [Exit.inBlock, Exit.then])
    refine ret_box12 rfl (blk_put (blk_put HO4.out.out 0 _ rfl) 1 _ rfl) ?_
    exact own_done HO4.out _ _
end Go.Proofs.YtffldajbnhbkkaaDoor.Q
