import Derived.Test.YtnkggincckdoiaaDoorKr17
import Derived.Laws.Rows
import Derived.Laws.Tables
import Derived.Deep.RegionWith
namespace Go.Proofs.YtnkggincckdoiaaDoor.Q
open Go.RowKit Go.Shelf Go.Proofs.YtnkggincckdoiaaDoorW.PrintWords Go.Proofs.YtnkggincckdoiaaDoorW.PrintLast Go.Proofs.YtnkggincckdoiaaDoorW.PrintMore
set_option linter.unusedVariables false
set_option linter.unusedSimpArgs false
def sPlu : ByteArray := ⟨#[43]⟩
theorem nePlu : sPlu ≠ ByteArray.empty := fun e => absurd (congrArg ByteArray.size e) (by decide)
/-- One entry behind the other: the table, row by row. -/
def entT : Nat → List Int → List ByteArray → Option (List Int × List ByteArray)
  | 0, _, _ => none
  | k + 1, q, ts =>
    match catT ts with
    | none => none
    | some (a, ts1) =>
      if (takeT sPlu ts1).1 = true then
        match catT (takeT sPlu ts1).2 with
        | none => none
        | some (b, ts2) =>
          if (takeT sCol ts2).1 = true ∧ q.getD (a.toNat * 6 + b.toNat) 0 = 0 then
            match catT (takeT sCol ts2).2 with
            | none => none
            | some (c, ts3) =>
              if (takeT sSem ts3).1 = true then entT k (q.set (a.toNat * 6 + b.toNat) (1 + c)) (takeT sSem ts3).2
              else some (q.set (a.toNat * 6 + b.toNat) (1 + c), ts3)
          else none
      else none
def noneI : List Int := List.replicate 36 0
def entL (ts : List ByteArray) : Option (List Int × List ByteArray) := if ts = [] then some (noneI, []) else entT (ts.length + 1) noneI ts
def endE : Option (List Int × List ByteArray) → Option (List Int)
  | some (q, []) => some q
  | _ => none
/-- The table of a ranges' text; none: it is no such text. -/
def entR (s : ByteArray) : Option (List Int) :=
  if 1024 < s.size then none
  else match toks (s.size + 1) s with
    | none => none
    | some ts => endE (entL ts)
def entE (s : ByteArray) : Int := if 1024 < s.size then 91 else if (entR s).isSome then 0 else 90
def endN (R : Option (List Int × List ByteArray)) : Int := if (endE R).isSome then 0 else 90
def cellsI (q : List Int) : Array Value := (q.map (Value.int .i64)).toArray
/-- What entries answers. -/
def PostE (w : World) (R : Option (List Int)) (n : Int) (e : Ending) (w' : World) : Prop :=
  ∃ q : List Int, q.length = 36 ∧ e = .returned (.tuple #[.agg (cellsI q), .int .i64 n]) ∧ (∀ q', R = some q' → q = q') ∧ Below w.heap.size w w'
theorem size_cellsI (q : List Int) : (cellsI q).size = q.length := by simp [cellsI]
theorem cellsI_at {w : World} {g n : Nat} {q : List Int} (h : w.heap[g]? = some (.cells (cellsI q) 46 (0, 0))) (hn : n < q.length) : w.cell? ⟨g, n, none⟩ = some (.int .i64 (q.getD n 0)) := by
  refine (blk_cell h n).trans ?_
  simp [cellsI, List.getD_eq_getElem?_getD, hn]
theorem cellsI_set (q : List Int) (n : Nat) (v : Int) : (cellsI q).setIfInBounds n (.int .i64 v) = cellsI (q.set n v) := by
  simp [cellsI, List.map_set]
theorem info46 : (Tryd.prog.info? 46).map (·.size) = some 36 := by kernel_rfl
theorem load46 {w : World} {g : Nat} {q : List Int} (h : w.heap[g]? = some (.cells (cellsI q) 46 (0, 0))) (hq : q.length = 36) : (loadVar 46 ⟨g, 0, none⟩).run Tryd.prog w = .ok (.agg (cellsI q)) w :=
  run_loadVar_row w g 46 46 (cellsI q) (0, 0) _ h Tryd.underlying46 rfl (by rw [size_cellsI, hq]; exact info46)
theorem setRow_same {w : World} {g : Nat} {cs : Array Value} {t : TypeId} (h : w.heap[g]? = some (.cells cs t (0, 0))) : w.setRow g cs = w := by
  have e : (w.setRow g cs).heap = w.heap := by
    unfold World.setRow
    simp only []
    apply Array.ext_getElem?
    intro i
    rw [Array.getElem?_modify]
    by_cases hi : g = i
    · subst hi; rw [if_pos rfl, h]; rfl
    · rw [if_neg hi]
  have e2 : w.setRow g cs = { w with heap := (w.setRow g cs).heap } := rfl
  rw [e2, e]
theorem all_cellsI (q : List Int) : (cellsI q).all (·.oneCell') = true := by simp [cellsI, Value.oneCell']
theorem store46 {w : World} {g : Nat} {q : List Int} (h : w.heap[g]? = some (.cells (cellsI q) 46 (0, 0))) (hq : q.length = 36) : (storeVar 46 ⟨g, 0, none⟩ (.agg (cellsI q))).run Tryd.prog w = .ok () w := by
  have := run_storeVar_row (P := Tryd.prog) w g 46 46 (cellsI q) (cellsI q) h (by rw [size_cellsI, hq]; exact info46) rfl (by simp [cellsI, Value.oneCell'])
  rw [setRow_same h] at this
  exact this
theorem results18 : Tryd.f18.results = #[.cell 2 46, .cell 3 22] := by kernel_rfl
theorem res18 {tmps : Array Value} {w : World} {q : List Int} {b : Int} {gt ge : Nat} (h2 : tmps.getD 2 undef = .pointer (some ⟨gt, 0, none⟩)) (h3 : tmps.getD 3 undef = .pointer (some ⟨ge, 0, none⟩)) (ht : w.heap[gt]? = some (.cells (cellsI q) 46 (0, 0))) (hq : q.length = 36) (hm : w.heap[ge]? = some (.cells #[.int .i64 b] 22 (0, 0))) :
    (results Tryd.f18 tmps).run Tryd.prog w = .ok (.tuple #[.agg (cellsI q), .int .i64 b]) w := by
  have c0 := (blk_cell hm 0).trans (rfl : _ = some (Value.int .i64 b))
  have hl := load46 ht hq
  rw [Array.getD_eq_getD_getElem?] at h2 h3
  simp [results, results18, h2, h3, asAddr, hl]
  go_simp
theorem leave18 {tmps : Array Value} {w : World} {q : List Int} {b : Int} {gt ge : Nat} {R : Ending → World → Prop} (h2 : tmps.getD 2 undef = .pointer (some ⟨gt, 0, none⟩)) (h3 : tmps.getD 3 undef = .pointer (some ⟨ge, 0, none⟩)) (ht : w.heap[gt]? = some (.cells (cellsI q) 46 (0, 0))) (hq : q.length = 36) (hm : w.heap[ge]? = some (.cells #[.int .i64 b] 22 (0, 0)))
    (hR : R (.returned (.tuple #[.agg (cellsI q), .int .i64 b])) (w.alloc (.cells #[] 71))) : Leaves Tryd.prog Tryd.f18 tmps R [{ target := .fn (.func 24) #[], args := #[.pointer (some ⟨ge, 0, none⟩)] }] .returning w := by
  refine leaves_cons (f := 24) (args := #[.pointer (some ⟨ge, 0, none⟩)]) (by simp) (by simp [go_sem]) ?_
  refine (caught_idle _ _).mono ?_
  rintro e u' w'' ⟨rfl, rfl, rfl⟩
  exact ⟨_, res18 h2 h3 (blk_alloc ht _) hq (blk_alloc hm _), hR⟩
theorem panic18 {tmps : Array Value} {w : World} {q : List Int} {b : Int} {gt ge : Nat} {R : Ending → World → Prop} (h2 : tmps.getD 2 undef = .pointer (some ⟨gt, 0, none⟩)) (h3 : tmps.getD 3 undef = .pointer (some ⟨ge, 0, none⟩)) (ht : w.heap[gt]? = some (.cells (cellsI q) 46 (0, 0))) (hq : q.length = 36) (hm : w.heap[ge]? = some (.cells #[.int .i64 b] 22 (0, 0))) (hne : gt ≠ ge)
    (hR : R (.returned (.tuple #[.agg (cellsI q), .int .i64 90])) ((w.alloc (.cells #[] 71)).setCell ⟨ge, 0, none⟩ (.int .i64 90))) : Leaves Tryd.prog Tryd.f18 tmps R [{ target := .fn (.func 24) #[], args := #[.pointer (some ⟨ge, 0, none⟩)] }] (.panicking wrongP) w := by
  refine leaves_cons (f := 24) (args := #[.pointer (some ⟨ge, 0, none⟩)]) (by simp) (by simp [go_sem]) ?_
  refine (caught_panicking ge b w hm).mono ?_
  rintro e u' w'' ⟨rfl, rfl, rfl⟩
  exact ⟨_, res18 h2 h3 ((Below.heap_setCell _ ⟨ge, 0, none⟩ _ gt hne).trans (blk_alloc ht _)) hq (blk_put (blk_alloc hm _) 0 _ rfl), hR⟩
/-- The world of a round: the table and the error's cell lie in it. -/
structure EW (w V : World) (gt ge : Nat) (q : List Int) : Prop where
  below : Below w.heap.size w V
  t : V.heap[gt]? = some (.cells (cellsI q) 46 (0, 0))
  e : V.heap[ge]? = some (.cells #[.int .i64 0] 22 (0, 0))
  ne : gt ≠ ge
  gt0 : w.heap.size ≤ gt
  ge0 : w.heap.size ≤ ge
  len : q.length = 36
theorem EW.set {w V : World} {gt ge : Nat} {q : List Int} (h : EW w V gt ge q) (n : Nat) (v : Int) : EW w (V.setCell ⟨gt, n, none⟩ (.int .i64 v)) gt ge (q.set n v) :=
  ⟨below_set h.below h.gt0, blk_put h.t n _ (cellsI_set q n v), (Below.heap_setCell V ⟨gt, n, none⟩ _ ge (Ne.symm h.ne)).trans h.e, h.ne, h.gt0, h.ge0, by rw [List.length_set]; exact h.len⟩
theorem RS.both {w V W : World} {r gt ge n : Nat} {ts : List ByteArray} {q : List Int} {v : Value} (h : RS V W r ts) (hE : EW w V gt ge q) : RS (V.setCell ⟨gt, n, none⟩ v) (W.setCell ⟨gt, n, none⟩ v) r ts := by
  have hlt : gt < V.heap.size := (Array.getElem?_eq_some_iff.1 hE.t).1
  have hq : W.heap[gt]? = some (.cells (cellsI q) 46 (0, 0)) := blk_below hE.t h.base
  obtain ⟨b, o, cc, hbr, hc, hm, hx⟩ := h.mem
  have n1 : r ≠ gt := by have := h.hr; omega
  have n2 : b ≠ gt := by
    rintro rfl
    have h0 := hx 0 (Nat.zero_le _)
    rw [Nat.add_zero] at h0
    have h1 := blk_cell hq o
    rw [h1] at h0
    simp only [cellsI, List.getElem?_toArray, List.getElem?_map] at h0
    obtain ⟨u, _, hu⟩ := Option.map_eq_some_iff.1 h0
    cases hu
  refine ⟨⟨h.base.os, h.base.tape, h.base.output, by simpa [World.setCell] using h.base.size, fun k hk => ?_⟩, by simpa [World.setCell] using h.hr, h.ne, h.len, b, o, cc, hbr, hc, (Below.heap_setCell W ⟨gt, n, none⟩ v r n1).trans hm, fun j hj => (World.cell?_of_block (w := W) (Below.heap_setCell W ⟨gt, n, none⟩ v b n2)).trans (hx j hj)⟩
  by_cases e : k = gt
  · subst e
    rw [blk_put hq n v rfl, blk_put hE.t n v rfl]
  · rw [Below.heap_setCell W ⟨gt, n, none⟩ v k e, Below.heap_setCell V ⟨gt, n, none⟩ v k e]
    exact h.base.block k (by simpa [World.setCell] using hk)
theorem with_anyP {P : Program} {md : Region.Mode} {ops : Array Oper} {Q : Exit → Act → World → Prop} {fuel : Nat} {listed : Array Bool} {a : Act} {w : World}
    (h : ∀ R : Nat → Array Bool → Act → World → Prop, (∀ f l a w, R f l a w → wpAny P md ops Q f l a w) → (∀ f l a w, wpAny P md ops Q f l a w → R f l a w) → R fuel listed a w) : wpAny P md ops Q fuel listed a w :=
  h _ (fun _ _ _ _ h => h) (fun _ _ _ _ h => h)
set_option maxHeartbeats 4000000 in
set_option maxRecDepth 100000 in
theorem entries_in (s : ByteArray) (w : World) : Calls Tryd.prog 18 #[.string s] w fun e w' => PostE w (entR s) (entE s) e w' := by
  have hu60 := Tryd.underlying60
  have hu58 := Tryd.underlying58
  have hu46 := Tryd.underlying46
  have hu45 := Tryd.underlying45
  obtain ⟨w1, hw1⟩ : ∃ w1, w1 = (w.alloc (Obj.cells (cellsI noneI) 46)).alloc (Obj.cells #[.int .i64 0] 22) := ⟨_, rfl⟩
  have hE : EW w w1 w.heap.size (w.heap.size + 1) noneI := by
    subst hw1
    have h2 := blk_new (w.alloc (Obj.cells (cellsI noneI) 46)) (Obj.cells #[.int .i64 0] 22)
    simp only [World.size_alloc] at h2
    exact ⟨below_alloc (below_alloc (Below.refl _ _) _) _, blk_alloc (blk_new w _) _, h2, by omega, Nat.le_refl _, by omega, rfl⟩
  have MF := Aside0.mk (fun w2 => must_in false w2)
  have MT := Aside0.mk (fun w2 => must_in true w2)
  have HW1 := Aside0.mk hw1
  have HE1 := Aside0.mk hE
  clear hw1 hE
  by_cases hl : 1024 < s.size
  · have hd : decide ((s.size : Int) > 1024) = true := decide_eq_true (by omega)
    have e : entE s = 91 := if_pos hl
    have e2 : entR s = none := if_pos hl
    rw [e, e2]
    go_enter_defers Tryd.func18, Tryd.ntmps18
    go_upto_region 1 with (fail)
    change Code.wp _ _ _ _ ((w.alloc (Obj.cells (cellsI noneI) 46)).alloc (Obj.cells #[Value.int .i64 0] 22))
    rw [← HW1.out]
    obtain ⟨gt, hgt⟩ : ∃ gt, gt = w.heap.size := ⟨_, rfl⟩
    obtain ⟨ge, hge⟩ : ∃ ge, ge = w.heap.size + 1 := ⟨_, rfl⟩
    rw [← hge, ← hgt] at HE1
    rw [← hge, ← hgt]
    clear hgt hge
    have hld := load46 HE1.out.t rfl
    have hst := store46 HE1.out.t rfl
    have e0 := (blk_cell HE1.out.e 0).trans (rfl : _ = some (Value.int .i64 0))
    have ef := blk_frozen HE1.out.e 0
    go_upto_region 2 with (fail)
    refine wp_region_list ?_
    refine wpList_load_row rfl 46 (.tmp 2) rfl gt rfl 46 (cellsI noneI) (0, 0) _ HE1.out.t Tryd.underlying46 rfl info46 ?_
    refine wpList_store_row rfl 46 (.tmp 2) (.tmp 11) rfl gt (cellsI noneI) rfl rfl 46 (cellsI noneI) HE1.out.t info46 rfl (all_cellsI _) ?_
    rw [setRow_same HE1.out.t]
    go_wp2
    refine ⟨_, res18 (gt := gt) (ge := ge) rfl rfl ((Below.heap_setCell w1 ⟨ge, 0, none⟩ _ gt HE1.out.ne).trans HE1.out.t) rfl (blk_put HE1.out.e 0 _ rfl), noneI, rfl, rfl, (fun _ h => by cases h), below_set HE1.out.below HE1.out.ge0⟩
  · have hd : decide ((s.size : Int) > 1024) = false := decide_eq_false (by omega)
    have hgt : ¬ ((1024 : Int) < (s.size : Int)) := by omega
    have hsz : s.size ≤ 1000000 := by omega
    have TK := Aside0.mk (fun (p : ByteArray) (hp : p ≠ ByteArray.empty) (r : Nat) (V : World) (ts2 : List ByteArray) (w2 : World) (h : RS V w2 r ts2) => take_in V w2 r p ts2 hp h)
    have PAN : ∀ (gt ge : Nat) (q : List Int) (V : World) (tmps : Array Value) (w' : World), EW w V gt ge q → tmps.getD 2 undef = .pointer (some ⟨gt, 0, none⟩) → tmps.getD 3 undef = .pointer (some ⟨ge, 0, none⟩) → Below V.heap.size V w' → Leaves Tryd.prog Tryd.f18 tmps (fun e w' => PostE w none 90 e w') [{ target := .fn (.func 24) #[], args := #[.pointer (some ⟨ge, 0, none⟩)] }] (.panicking wrongP) w' := by
      intro gt ge q V tmps w' hE h2 h3 hb
      exact panic18 h2 h3 (blk_below hE.t hb) hE.len (blk_below hE.e hb) hE.ne ⟨q, hE.len, rfl, (fun _ h => by cases h), below_set (below_alloc (hE.below.trans (hb.mono hE.below.size)) _) hE.ge0⟩
    have HPAN := Aside0.mk PAN
    clear PAN
    cases RT : toks (s.size + 1) s with
    | none =>
      have e1 : entR s = none := by rw [entR, if_neg hl, RT]
      have e2 : entE s = 90 := by rw [entE, if_neg hl, e1]; rfl
      have RN := Aside0.mk (fun w2 => read_none hsz w2 RT)
      rw [e1, e2]
      go_enter_defers Tryd.func18, Tryd.ntmps18
      go_upto_region 4 with (fail)
      change Code.wp _ _ _ _ ((w.alloc (Obj.cells (cellsI noneI) 46)).alloc (Obj.cells #[Value.int .i64 0] 22))
      rw [← HW1.out]
      go_wp2_with (go_at_call 25; refine (RN.out _).mono ?_; rintro e w2 ⟨rfl, hb⟩; have HB2 := Aside0.mk hb; clear hb)
      exact HPAN.out _ _ _ _ _ _ HE1.out rfl rfl HB2.out
    | some ts =>
      obtain ⟨R, hR⟩ : ∃ R, R = entL ts := ⟨_, rfl⟩
      have e1 : entR s = endE R := by rw [entR, if_neg hl, RT, hR]
      have e2 : entE s = endN R := by rw [entE, if_neg hl, e1]; rfl
      have RN := Aside0.mk (fun w2 => read_some hsz w2 RT)
      rw [e1, e2]
      have HR := Aside0.mk hR
      clear hR RT e1 e2
      go_enter_defers Tryd.func18, Tryd.ntmps18
      go_upto_region 4 with (fail)
      change Code.wp _ _ _ _ ((w.alloc (Obj.cells (cellsI noneI) 46)).alloc (Obj.cells #[Value.int .i64 0] 22))
      rw [← HW1.out]
      obtain ⟨gt, hgt⟩ : ∃ gt, gt = w.heap.size := ⟨_, rfl⟩
      obtain ⟨ge, hge⟩ : ∃ ge, ge = w.heap.size + 1 := ⟨_, rfl⟩
      rw [← hge, ← hgt] at HE1
      rw [← hge, ← hgt]
      clear hgt hge
      go_upto_region 5 with (go_at_call 25; refine (RN.out _).mono ?_; rintro e w2 ⟨r, rfl, hs⟩; have HS2 := Aside0.mk hs; clear hs)
      obtain ⟨b, o, nn, cc, m0, h1n, x0, hemp⟩ := HS2.out.top
      generalize ts.headD ByteArray.empty = hd0 at x0 hemp
      go_wp2
      go_loopg [5] (ts.length + 1) (fun kq v5 wr => ∃ (more : Bool) (q : List Int) (tsr : List ByteArray) (V : World), v5 = .bool more ∧ RS V wr r tsr ∧ EW w V gt ge q ∧ Aside0 (more = true → tsr.length < kq) ∧ Aside0 ((if more = true then entT kq q tsr else some (q, tsr)) = R))
      case atStart => exact ⟨!ts.isEmpty, noneI, ts, w1, rfl, HS2.out, HE1.out, ⟨fun _ => Nat.lt_succ_self _⟩, ⟨by rw [HR.out]; cases ts <;> rfl⟩⟩
      case round =>
        obtain ⟨more, q, tsr, V, rfl, hs, hE, HL, HA⟩ := hrel
        have HS4 := Aside0.mk hs
        have HE := Aside0.mk hE
        clear hs hE m0 x0 hemp HR HS2 HE1 HW1
        cases more with
        | false =>
          have HA2 : Aside0 (R = some (q, tsr)) := ⟨by have := HA.out; rw [if_neg (by decide)] at this; exact this.symm⟩
          clear HL HA
          obtain ⟨b1, o1, n1, c1, m1, h1n1, x1, hemp1⟩ := HS4.out.top
          generalize tsr.headD ByteArray.empty = hd1 at x1 hemp1
          have hte := blk_below HE.out.t HS4.out.base
          have hee := blk_below HE.out.e HS4.out.base
          have e0 := (blk_cell hee 0).trans (rfl : _ = some (Value.int .i64 0))
          have ef := blk_frozen hee 0
          have HTE := Aside0.mk hte
          have HEE := Aside0.mk hee
          clear hte hee
          cases tsr with
          | nil =>
            have hemp2 : hd1.toList.isEmpty = true := hemp1
            clear hemp1
            go_upto_region 14 with (go_at_call 28; refine (MT.out _).mono ?_; rintro e w5 ⟨rfl, rfl⟩)
            refine wp_region_list ?_
            refine wpList_load_row rfl 46 (.tmp 2) rfl gt rfl 46 (cellsI q) (0, 0) _ HTE.out Tryd.underlying46 rfl (by rw [size_cellsI, HE.out.len]; exact info46) ?_
            refine wpList_store_row rfl 46 (.tmp 2) (.tmp 57) rfl gt (cellsI q) rfl rfl 46 (cellsI q) HTE.out (by rw [size_cellsI, HE.out.len]; exact info46) rfl (all_cellsI _) ?_
            rw [setRow_same HTE.out]
            go_wp2
            rw [HA2.out]
            exact leave18 (gt := gt) (ge := ge) (q := q) (b := 0) rfl rfl ((Below.heap_setCell _ ⟨ge, 0, none⟩ _ gt HE.out.ne).trans HTE.out) HE.out.len (blk_put HEE.out 0 _ rfl) ⟨q, HE.out.len, rfl, (fun q' h => by injection h), below_alloc (below_set (HE.out.below.trans (HS4.out.base.mono HE.out.below.size)) HE.out.ge0) _⟩
          | cons t1 tl1 =>
            have hemp2 : hd1.toList.isEmpty = false := hemp1
            clear hemp1
            go_wp2_with (go_at_call 28; refine (MF.out _).mono ?_; rintro e w5 ⟨rfl, rfl⟩)
            rw [HA2.out]
            exact HPAN.out _ _ _ _ _ _ HE.out rfl rfl HS4.out.base
        | true =>
          have HA2 : Aside0 (entT gk q tsr = R) := ⟨by have := HA.out; rw [if_pos rfl] at this; exact this⟩
          have hlt := HL.out rfl
          clear HA HL
          cases gk with
          | zero => omega
          | succ k1 =>
            have HLT := Aside0.mk hlt
            clear hlt
            cases HC : catT tsr with
            | none =>
              have hR : R = none := by rw [← HA2.out, entT, HC]
              have CT := Aside0.mk (fun w2 (h : RS V w2 r tsr) => cat_none h HC)
              go_wp2_with (go_at_call 27; refine (CT.out _ HS4.out).mono ?_; rintro e w5 ⟨rfl, hb⟩; have HB5 := Aside0.mk hb; clear hb)
              rw [hR]
              exact HPAN.out _ _ _ _ _ _ HE.out rfl rfl HB5.out
            | some cp =>
              obtain ⟨c, ts1⟩ := cp
              obtain ⟨a, ha6, rfl, hlen⟩ := cat_nat HC
              have CT := Aside0.mk (fun w2 (h : RS V w2 r tsr) => cat_some h HC)
              obtain ⟨tk, htk⟩ : ∃ tk, tk = (takeT sPlu ts1).1 := ⟨_, rfl⟩
              obtain ⟨ts2, hts2⟩ : ∃ ts2, ts2 = (takeT sPlu ts1).2 := ⟨_, rfl⟩
              have TK1 := Aside0.mk (fun w2 (h : RS V w2 r ts1) => TK.out sPlu nePlu r V ts1 w2 h)
              rw [← htk, ← hts2] at TK1
              have HLEN : Aside0 (ts2.length < tsr.length) := ⟨by have := take_len sPlu ts1; rw [← hts2] at this; omega⟩
              have HTK := Aside0.mk htk
              have HTS := Aside0.mk hts2
              clear hlen htk hts2
              cases tk with
              | false =>
                have hR : R = none := by rw [← HA2.out, entT, HC]; exact if_neg (fun h => absurd h (by rw [← HTK.out]; decide))
                go_wp2_with (first | (go_at_call 27; refine (CT.out _ HS4.out).mono ?_; rintro e w5 ⟨rfl, hs, hb⟩; have HS5 := Aside0.mk hs; clear hs hb) | (go_at_call 26; refine (TK1.out _ HS5.out).mono ?_; rintro e w6 ⟨rfl, hs, hb⟩; have HS6 := Aside0.mk hs; clear hs hb) | (go_at_call 28; refine (MF.out _).mono ?_; rintro e w6b ⟨rfl, rfl⟩))
                rw [hR]
                exact HPAN.out _ _ _ _ _ _ HE.out rfl rfl HS6.out.base
              | true =>
                have HA3 : Aside0 ((match catT ts2 with
                  | none => none
                  | some (b, ts2) => if (takeT sCol ts2).1 = true ∧ q.getD (a * 6 + b.toNat) 0 = 0 then
                      match catT (takeT sCol ts2).2 with
                      | none => none
                      | some (c, ts3) => if (takeT sSem ts3).1 = true then entT k1 (q.set (a * 6 + b.toNat) (1 + c)) (takeT sSem ts3).2 else some (q.set (a * 6 + b.toNat) (1 + c), ts3)
                    else none) = R) := ⟨by rw [← HA2.out]; conv => rhs; rw [entT, HC]
                                           simp only []
                                           rw [if_pos HTK.out.symm, ← HTS.out, Int.toNat_natCast]⟩
                clear HTK HTS HA2
                have ha0 : (0 : Int) ≤ (a : Int) := Int.natCast_nonneg a
                have ha6i : (a : Int) < 6 := by omega
                cases HC2 : catT ts2 with
                | none =>
                  have hR : R = none := by have := HA3.out; rw [HC2] at this; exact this.symm
                  have CT2 := Aside0.mk (fun w2 (h : RS V w2 r ts2) => cat_none h HC2)
                  go_upto_region 10 with (first | (go_at_call 27; refine (CT.out _ HS4.out).mono ?_; rintro e w5 ⟨rfl, hs, hb⟩; have HS5 := Aside0.mk hs; clear hs hb) | (go_at_call 26; refine (TK1.out _ HS5.out).mono ?_; rintro e w6 ⟨rfl, hs, hb⟩; have HS6 := Aside0.mk hs; clear hs hb) | (go_at_call 28; refine (MT.out _).mono ?_; rintro e w6b ⟨rfl, rfl⟩))
                  go_wp2_with (go_at_call 27; refine (CT2.out _ HS6.out).mono ?_; rintro e w7 ⟨rfl, hb⟩; have HB7 := Aside0.mk hb; clear hb)
                  rw [hR]
                  exact HPAN.out _ _ _ _ _ _ HE.out rfl rfl HB7.out
                | some cp2 =>
                  obtain ⟨c2, ts3⟩ := cp2
                  obtain ⟨b2, hb6, rfl, hlen2⟩ := cat_nat HC2
                  have CT2 := Aside0.mk (fun w2 (h : RS V w2 r ts2) => cat_some h HC2)
                  obtain ⟨tk, htk⟩ : ∃ tk, tk = (takeT sCol ts3).1 := ⟨_, rfl⟩
                  obtain ⟨ts4, hts4⟩ : ∃ ts4, ts4 = (takeT sCol ts3).2 := ⟨_, rfl⟩
                  obtain ⟨v, hv⟩ : ∃ v, v = q.getD (a * 6 + b2) 0 := ⟨_, rfl⟩
                  have TK2 := Aside0.mk (fun w2 (h : RS V w2 r ts3) => TK.out sCol neCol r V ts3 w2 h)
                  rw [← htk, ← hts4] at TK2
                  have HLEN2 : Aside0 (ts4.length < tsr.length) := ⟨by have := take_len sCol ts3; have := HLEN.out; rw [← hts4] at *; omega⟩
                  have HIX : Aside0 (a * 6 + b2 < q.length) := ⟨by rw [HE.out.len]; omega⟩
                  have HA4 : Aside0 ((if tk = true ∧ v = 0 then
                      match catT ts4 with
                      | none => none
                      | some (c, ts3) => if (takeT sSem ts3).1 = true then entT k1 (q.set (a * 6 + b2) (1 + c)) (takeT sSem ts3).2 else some (q.set (a * 6 + b2) (1 + c), ts3)
                    else none) = R) := ⟨by
                      have := HA3.out
                      rw [HC2] at this
                      simp only [] at this
                      rw [Int.toNat_natCast, ← htk, ← hts4, ← hv] at this
                      exact this⟩
                  have hb0 : (0 : Int) ≤ (b2 : Int) := Int.natCast_nonneg b2
                  have hb6i : (b2 : Int) < 6 := by omega
                  have HV := Aside0.mk hv
                  clear htk hts4 hv HA3 hlen2
                  go_upto_region 10 with (first | (go_at_call 27; refine (CT.out _ HS4.out).mono ?_; rintro e w5 ⟨rfl, hs, hb⟩; have HS5 := Aside0.mk hs; clear hs hb) | (go_at_call 26; refine (TK1.out _ HS5.out).mono ?_; rintro e w6 ⟨rfl, hs, hb⟩; have HS6 := Aside0.mk hs; clear hs hb) | (go_at_call 28; refine (MT.out _).mono ?_; rintro e w6b ⟨rfl, rfl⟩))
                  go_upto_region 11 with (go_at_call 27; refine (CT2.out _ HS6.out).mono ?_; rintro e w7 ⟨rfl, hs, hb⟩; have HS7 := Aside0.mk hs; clear hs hb)
                  cases tk with
                  | false =>
                    have hR : R = none := by rw [← HA4.out]; exact if_neg (fun h => absurd h.1 (by decide))
                    go_wp2_with (first | (go_at_call 26; refine (TK2.out _ HS7.out).mono ?_; rintro e w8 ⟨rfl, hs, hb⟩; have HS8 := Aside0.mk hs; clear hs hb) | (go_at_call 28; refine (MF.out _).mono ?_; rintro e w8b ⟨rfl, rfl⟩))
                    rw [hR]
                    exact HPAN.out _ _ _ _ _ _ HE.out rfl rfl HS8.out.base
                  | true =>
                    by_cases v0 : v = 0
                    · have HA5 : Aside0 ((match catT ts4 with
                        | none => none
                        | some (c, ts3) => if (takeT sSem ts3).1 = true then entT k1 (q.set (a * 6 + b2) (1 + c)) (takeT sSem ts3).2 else some (q.set (a * 6 + b2) (1 + c), ts3)) = R) := ⟨by rw [← HA4.out]; exact (if_pos ⟨rfl, v0⟩).symm⟩
                      subst v0
                      go_upto_region 12 with (first | (go_at_call 26; refine (TK2.out _ HS7.out).mono ?_; rintro e w8 ⟨rfl, hs, hb⟩; have hqc := cellsI_at (blk_below HE.out.t hs.base) HIX.out; rw [← HV.out] at hqc; have HS8 := Aside0.mk hs; clear hs hb) | (go_at_call 28; refine (MT.out _).mono ?_; rintro e w8b ⟨rfl, rfl⟩))
                      have hmx : Tryd.prog.follows .mixedOrders = true := by kernel_rfl
                      cases HC3 : catT ts4 with
                      | none =>
                        have hR : R = none := by have := HA5.out; rw [HC3] at this; exact this.symm
                        have CT3 := Aside0.mk (fun w2 (h : RS V w2 r ts4) => cat_none h HC3)
                        refine wp_region_any hmx ?_
                        change wpAny _ _ _ _ _ _ _ (World.drew _)
                        refine with_anyP ?_
                        intro R2 hR1 hR2
                        have S0125 : R2 4 #[true, true, true, false, false, true, false, false] { tmps := #[Value.string s, undef, Value.pointer (some ⟨gt, 0, none⟩), Value.pointer (some ⟨ge, 0, none⟩), Value.pointer (some ⟨r, 0, none⟩), Value.bool true, Value.int .i64 (a : Int), Value.int .i64 (b2 : Int), Value.string s, Value.int .i64 (s.size : Int), Value.bool false, undef, Value.string s, Value.pointer (some ⟨r, 0, none⟩), Value.pointer (some ⟨r, 0, none⟩), Value.pointer (some ⟨r, 0, none⟩), Value.pointer (some ⟨r, 0, none⟩), Value.slice (some ⟨b, o, none⟩) nn cc, Value.pointer (some ⟨b, o, none⟩), Value.string hd0, Value.bool (!ts.isEmpty), Value.bool true, u22, u23, Value.pointer (some ⟨r, 0, none⟩), Value.int .i64 (a : Int), Value.pointer (some ⟨r, 0, none⟩), Value.bool true, Value.tuple #[], Value.pointer (some ⟨r, 0, none⟩), Value.int .i64 (b2 : Int), Value.pointer (some ⟨r, 0, none⟩), Value.bool true, Value.bool true, Value.int .i64 (a : Int), Value.int .i64 (b2 : Int), Value.pointer (some ⟨gt, a * 6, none⟩), Value.pointer (some ⟨gt, a * 6 + b2, none⟩), Value.int .i64 0, Value.bool true, Value.bool true, Value.tuple #[], Value.int .i64 (a : Int), Value.int .i64 (b2 : Int), Value.pointer (some ⟨r, 0, none⟩), u45, u46, Value.pointer (some ⟨gt, a * 6, none⟩), u48, undef, undef, undef, undef, undef, undef, undef, undef, undef], defers := [{ target := .fn (.func 24) #[], args := #[.pointer (some ⟨ge, 0, none⟩)] }] } w8b.drew := by
                          refine hR2 _ _ _ _ ?_
                          refine wpAny_ready (rs := [3]) (by kernel_rfl) (by simp) ?_
                          refine AllReady.cons rfl (fun K hK => ?_) ?_
                          · go_simp
                            go_wp2_with (go_at_call 27; refine (CT3.out _ (HS8.out.below (below_drew1 (Below.refl _ _)))).mono ?_; rintro e w9 ⟨rfl, hb⟩; have HB9 := Aside0.mk hb; clear hb)
                            show bodyPostD _ _ _ (Exit.panic wrongP) _ _
                            rw [hR]
                            exact HPAN.out _ _ _ _ _ _ HE.out rfl rfl HB9.out
                          exact AllReady.nil
                        have S012 : R2 5 #[true, true, true, false, false, false, false, false] { tmps := #[Value.string s, undef, Value.pointer (some ⟨gt, 0, none⟩), Value.pointer (some ⟨ge, 0, none⟩), Value.pointer (some ⟨r, 0, none⟩), Value.bool true, Value.int .i64 (a : Int), Value.int .i64 (b2 : Int), Value.string s, Value.int .i64 (s.size : Int), Value.bool false, undef, Value.string s, Value.pointer (some ⟨r, 0, none⟩), Value.pointer (some ⟨r, 0, none⟩), Value.pointer (some ⟨r, 0, none⟩), Value.pointer (some ⟨r, 0, none⟩), Value.slice (some ⟨b, o, none⟩) nn cc, Value.pointer (some ⟨b, o, none⟩), Value.string hd0, Value.bool (!ts.isEmpty), Value.bool true, u22, u23, Value.pointer (some ⟨r, 0, none⟩), Value.int .i64 (a : Int), Value.pointer (some ⟨r, 0, none⟩), Value.bool true, Value.tuple #[], Value.pointer (some ⟨r, 0, none⟩), Value.int .i64 (b2 : Int), Value.pointer (some ⟨r, 0, none⟩), Value.bool true, Value.bool true, Value.int .i64 (a : Int), Value.int .i64 (b2 : Int), Value.pointer (some ⟨gt, a * 6, none⟩), Value.pointer (some ⟨gt, a * 6 + b2, none⟩), Value.int .i64 0, Value.bool true, Value.bool true, Value.tuple #[], Value.int .i64 (a : Int), Value.int .i64 (b2 : Int), Value.pointer (some ⟨r, 0, none⟩), u45, u46, u47, u48, undef, undef, undef, undef, undef, undef, undef, undef, undef], defers := [{ target := .fn (.func 24) #[], args := #[.pointer (some ⟨ge, 0, none⟩)] }] } w8b.drew := by
                          refine hR2 _ _ _ _ ?_
                          refine wpAny_ready (rs := [3, 5]) (by kernel_rfl) (by simp) ?_
                          refine AllReady.cons rfl (fun K hK => ?_) ?_
                          · go_simp
                            go_wp2_with (go_at_call 27; refine (CT3.out _ (HS8.out.below (below_drew1 (Below.refl _ _)))).mono ?_; rintro e w9 ⟨rfl, hb⟩; have HB9 := Aside0.mk hb; clear hb)
                            show bodyPostD _ _ _ (Exit.panic wrongP) _ _
                            rw [hR]
                            exact HPAN.out _ _ _ _ _ _ HE.out rfl rfl HB9.out
                          refine AllReady.cons rfl (fun K hK => ?_) ?_
                          · go_simp
                            refine hK _ _ ?_
                            exact hR1 _ _ _ _ S0125
                          exact AllReady.nil
                        have S015 : R2 5 #[true, true, false, false, false, true, false, false] { tmps := #[Value.string s, undef, Value.pointer (some ⟨gt, 0, none⟩), Value.pointer (some ⟨ge, 0, none⟩), Value.pointer (some ⟨r, 0, none⟩), Value.bool true, Value.int .i64 (a : Int), Value.int .i64 (b2 : Int), Value.string s, Value.int .i64 (s.size : Int), Value.bool false, undef, Value.string s, Value.pointer (some ⟨r, 0, none⟩), Value.pointer (some ⟨r, 0, none⟩), Value.pointer (some ⟨r, 0, none⟩), Value.pointer (some ⟨r, 0, none⟩), Value.slice (some ⟨b, o, none⟩) nn cc, Value.pointer (some ⟨b, o, none⟩), Value.string hd0, Value.bool (!ts.isEmpty), Value.bool true, u22, u23, Value.pointer (some ⟨r, 0, none⟩), Value.int .i64 (a : Int), Value.pointer (some ⟨r, 0, none⟩), Value.bool true, Value.tuple #[], Value.pointer (some ⟨r, 0, none⟩), Value.int .i64 (b2 : Int), Value.pointer (some ⟨r, 0, none⟩), Value.bool true, Value.bool true, Value.int .i64 (a : Int), Value.int .i64 (b2 : Int), Value.pointer (some ⟨gt, a * 6, none⟩), Value.pointer (some ⟨gt, a * 6 + b2, none⟩), Value.int .i64 0, Value.bool true, Value.bool true, Value.tuple #[], Value.int .i64 (a : Int), Value.int .i64 (b2 : Int), u44, u45, u46, Value.pointer (some ⟨gt, a * 6, none⟩), u48, undef, undef, undef, undef, undef, undef, undef, undef, undef], defers := [{ target := .fn (.func 24) #[], args := #[.pointer (some ⟨ge, 0, none⟩)] }] } w8b.drew := by
                          refine hR2 _ _ _ _ ?_
                          refine wpAny_ready (rs := [2]) (by kernel_rfl) (by simp) ?_
                          refine AllReady.cons rfl (fun K hK => ?_) ?_
                          · go_simp
                            refine hK _ _ ?_
                            exact hR1 _ _ _ _ S0125
                          exact AllReady.nil
                        have S025 : R2 5 #[true, false, true, false, false, true, false, false] { tmps := #[Value.string s, undef, Value.pointer (some ⟨gt, 0, none⟩), Value.pointer (some ⟨ge, 0, none⟩), Value.pointer (some ⟨r, 0, none⟩), Value.bool true, Value.int .i64 (a : Int), Value.int .i64 (b2 : Int), Value.string s, Value.int .i64 (s.size : Int), Value.bool false, undef, Value.string s, Value.pointer (some ⟨r, 0, none⟩), Value.pointer (some ⟨r, 0, none⟩), Value.pointer (some ⟨r, 0, none⟩), Value.pointer (some ⟨r, 0, none⟩), Value.slice (some ⟨b, o, none⟩) nn cc, Value.pointer (some ⟨b, o, none⟩), Value.string hd0, Value.bool (!ts.isEmpty), Value.bool true, u22, u23, Value.pointer (some ⟨r, 0, none⟩), Value.int .i64 (a : Int), Value.pointer (some ⟨r, 0, none⟩), Value.bool true, Value.tuple #[], Value.pointer (some ⟨r, 0, none⟩), Value.int .i64 (b2 : Int), Value.pointer (some ⟨r, 0, none⟩), Value.bool true, Value.bool true, Value.int .i64 (a : Int), Value.int .i64 (b2 : Int), Value.pointer (some ⟨gt, a * 6, none⟩), Value.pointer (some ⟨gt, a * 6 + b2, none⟩), Value.int .i64 0, Value.bool true, Value.bool true, Value.tuple #[], Value.int .i64 (a : Int), u43, Value.pointer (some ⟨r, 0, none⟩), u45, u46, Value.pointer (some ⟨gt, a * 6, none⟩), u48, undef, undef, undef, undef, undef, undef, undef, undef, undef], defers := [{ target := .fn (.func 24) #[], args := #[.pointer (some ⟨ge, 0, none⟩)] }] } w8b.drew := by
                          refine hR2 _ _ _ _ ?_
                          refine wpAny_ready (rs := [1, 3]) (by kernel_rfl) (by simp) ?_
                          refine AllReady.cons rfl (fun K hK => ?_) ?_
                          · go_simp
                            refine hK _ _ ?_
                            exact hR1 _ _ _ _ S0125
                          refine AllReady.cons rfl (fun K hK => ?_) ?_
                          · go_simp
                            go_wp2_with (go_at_call 27; refine (CT3.out _ (HS8.out.below (below_drew1 (Below.refl _ _)))).mono ?_; rintro e w9 ⟨rfl, hb⟩; have HB9 := Aside0.mk hb; clear hb)
                            show bodyPostD _ _ _ (Exit.panic wrongP) _ _
                            rw [hR]
                            exact HPAN.out _ _ _ _ _ _ HE.out rfl rfl HB9.out
                          exact AllReady.nil
                        have S01 : R2 6 #[true, true, false, false, false, false, false, false] { tmps := #[Value.string s, undef, Value.pointer (some ⟨gt, 0, none⟩), Value.pointer (some ⟨ge, 0, none⟩), Value.pointer (some ⟨r, 0, none⟩), Value.bool true, Value.int .i64 (a : Int), Value.int .i64 (b2 : Int), Value.string s, Value.int .i64 (s.size : Int), Value.bool false, undef, Value.string s, Value.pointer (some ⟨r, 0, none⟩), Value.pointer (some ⟨r, 0, none⟩), Value.pointer (some ⟨r, 0, none⟩), Value.pointer (some ⟨r, 0, none⟩), Value.slice (some ⟨b, o, none⟩) nn cc, Value.pointer (some ⟨b, o, none⟩), Value.string hd0, Value.bool (!ts.isEmpty), Value.bool true, u22, u23, Value.pointer (some ⟨r, 0, none⟩), Value.int .i64 (a : Int), Value.pointer (some ⟨r, 0, none⟩), Value.bool true, Value.tuple #[], Value.pointer (some ⟨r, 0, none⟩), Value.int .i64 (b2 : Int), Value.pointer (some ⟨r, 0, none⟩), Value.bool true, Value.bool true, Value.int .i64 (a : Int), Value.int .i64 (b2 : Int), Value.pointer (some ⟨gt, a * 6, none⟩), Value.pointer (some ⟨gt, a * 6 + b2, none⟩), Value.int .i64 0, Value.bool true, Value.bool true, Value.tuple #[], Value.int .i64 (a : Int), Value.int .i64 (b2 : Int), u44, u45, u46, u47, u48, undef, undef, undef, undef, undef, undef, undef, undef, undef], defers := [{ target := .fn (.func 24) #[], args := #[.pointer (some ⟨ge, 0, none⟩)] }] } w8b.drew := by
                          refine hR2 _ _ _ _ ?_
                          refine wpAny_ready (rs := [2, 5]) (by kernel_rfl) (by simp) ?_
                          refine AllReady.cons rfl (fun K hK => ?_) ?_
                          · go_simp
                            refine hK _ _ ?_
                            exact hR1 _ _ _ _ S012
                          refine AllReady.cons rfl (fun K hK => ?_) ?_
                          · go_simp
                            refine hK _ _ ?_
                            exact hR1 _ _ _ _ S015
                          exact AllReady.nil
                        have S02 : R2 6 #[true, false, true, false, false, false, false, false] { tmps := #[Value.string s, undef, Value.pointer (some ⟨gt, 0, none⟩), Value.pointer (some ⟨ge, 0, none⟩), Value.pointer (some ⟨r, 0, none⟩), Value.bool true, Value.int .i64 (a : Int), Value.int .i64 (b2 : Int), Value.string s, Value.int .i64 (s.size : Int), Value.bool false, undef, Value.string s, Value.pointer (some ⟨r, 0, none⟩), Value.pointer (some ⟨r, 0, none⟩), Value.pointer (some ⟨r, 0, none⟩), Value.pointer (some ⟨r, 0, none⟩), Value.slice (some ⟨b, o, none⟩) nn cc, Value.pointer (some ⟨b, o, none⟩), Value.string hd0, Value.bool (!ts.isEmpty), Value.bool true, u22, u23, Value.pointer (some ⟨r, 0, none⟩), Value.int .i64 (a : Int), Value.pointer (some ⟨r, 0, none⟩), Value.bool true, Value.tuple #[], Value.pointer (some ⟨r, 0, none⟩), Value.int .i64 (b2 : Int), Value.pointer (some ⟨r, 0, none⟩), Value.bool true, Value.bool true, Value.int .i64 (a : Int), Value.int .i64 (b2 : Int), Value.pointer (some ⟨gt, a * 6, none⟩), Value.pointer (some ⟨gt, a * 6 + b2, none⟩), Value.int .i64 0, Value.bool true, Value.bool true, Value.tuple #[], Value.int .i64 (a : Int), u43, Value.pointer (some ⟨r, 0, none⟩), u45, u46, u47, u48, undef, undef, undef, undef, undef, undef, undef, undef, undef], defers := [{ target := .fn (.func 24) #[], args := #[.pointer (some ⟨ge, 0, none⟩)] }] } w8b.drew := by
                          refine hR2 _ _ _ _ ?_
                          refine wpAny_ready (rs := [1, 3, 5]) (by kernel_rfl) (by simp) ?_
                          refine AllReady.cons rfl (fun K hK => ?_) ?_
                          · go_simp
                            refine hK _ _ ?_
                            exact hR1 _ _ _ _ S012
                          refine AllReady.cons rfl (fun K hK => ?_) ?_
                          · go_simp
                            go_wp2_with (go_at_call 27; refine (CT3.out _ (HS8.out.below (below_drew1 (Below.refl _ _)))).mono ?_; rintro e w9 ⟨rfl, hb⟩; have HB9 := Aside0.mk hb; clear hb)
                            show bodyPostD _ _ _ (Exit.panic wrongP) _ _
                            rw [hR]
                            exact HPAN.out _ _ _ _ _ _ HE.out rfl rfl HB9.out
                          refine AllReady.cons rfl (fun K hK => ?_) ?_
                          · go_simp
                            refine hK _ _ ?_
                            exact hR1 _ _ _ _ S025
                          exact AllReady.nil
                        have S05 : R2 6 #[true, false, false, false, false, true, false, false] { tmps := #[Value.string s, undef, Value.pointer (some ⟨gt, 0, none⟩), Value.pointer (some ⟨ge, 0, none⟩), Value.pointer (some ⟨r, 0, none⟩), Value.bool true, Value.int .i64 (a : Int), Value.int .i64 (b2 : Int), Value.string s, Value.int .i64 (s.size : Int), Value.bool false, undef, Value.string s, Value.pointer (some ⟨r, 0, none⟩), Value.pointer (some ⟨r, 0, none⟩), Value.pointer (some ⟨r, 0, none⟩), Value.pointer (some ⟨r, 0, none⟩), Value.slice (some ⟨b, o, none⟩) nn cc, Value.pointer (some ⟨b, o, none⟩), Value.string hd0, Value.bool (!ts.isEmpty), Value.bool true, u22, u23, Value.pointer (some ⟨r, 0, none⟩), Value.int .i64 (a : Int), Value.pointer (some ⟨r, 0, none⟩), Value.bool true, Value.tuple #[], Value.pointer (some ⟨r, 0, none⟩), Value.int .i64 (b2 : Int), Value.pointer (some ⟨r, 0, none⟩), Value.bool true, Value.bool true, Value.int .i64 (a : Int), Value.int .i64 (b2 : Int), Value.pointer (some ⟨gt, a * 6, none⟩), Value.pointer (some ⟨gt, a * 6 + b2, none⟩), Value.int .i64 0, Value.bool true, Value.bool true, Value.tuple #[], Value.int .i64 (a : Int), u43, u44, u45, u46, Value.pointer (some ⟨gt, a * 6, none⟩), u48, undef, undef, undef, undef, undef, undef, undef, undef, undef], defers := [{ target := .fn (.func 24) #[], args := #[.pointer (some ⟨ge, 0, none⟩)] }] } w8b.drew := by
                          refine hR2 _ _ _ _ ?_
                          refine wpAny_ready (rs := [1, 2]) (by kernel_rfl) (by simp) ?_
                          refine AllReady.cons rfl (fun K hK => ?_) ?_
                          · go_simp
                            refine hK _ _ ?_
                            exact hR1 _ _ _ _ S015
                          refine AllReady.cons rfl (fun K hK => ?_) ?_
                          · go_simp
                            refine hK _ _ ?_
                            exact hR1 _ _ _ _ S025
                          exact AllReady.nil
                        have S12 : R2 6 #[false, true, true, false, false, false, false, false] { tmps := #[Value.string s, undef, Value.pointer (some ⟨gt, 0, none⟩), Value.pointer (some ⟨ge, 0, none⟩), Value.pointer (some ⟨r, 0, none⟩), Value.bool true, Value.int .i64 (a : Int), Value.int .i64 (b2 : Int), Value.string s, Value.int .i64 (s.size : Int), Value.bool false, undef, Value.string s, Value.pointer (some ⟨r, 0, none⟩), Value.pointer (some ⟨r, 0, none⟩), Value.pointer (some ⟨r, 0, none⟩), Value.pointer (some ⟨r, 0, none⟩), Value.slice (some ⟨b, o, none⟩) nn cc, Value.pointer (some ⟨b, o, none⟩), Value.string hd0, Value.bool (!ts.isEmpty), Value.bool true, u22, u23, Value.pointer (some ⟨r, 0, none⟩), Value.int .i64 (a : Int), Value.pointer (some ⟨r, 0, none⟩), Value.bool true, Value.tuple #[], Value.pointer (some ⟨r, 0, none⟩), Value.int .i64 (b2 : Int), Value.pointer (some ⟨r, 0, none⟩), Value.bool true, Value.bool true, Value.int .i64 (a : Int), Value.int .i64 (b2 : Int), Value.pointer (some ⟨gt, a * 6, none⟩), Value.pointer (some ⟨gt, a * 6 + b2, none⟩), Value.int .i64 0, Value.bool true, Value.bool true, Value.tuple #[], u42, Value.int .i64 (b2 : Int), Value.pointer (some ⟨r, 0, none⟩), u45, u46, u47, u48, undef, undef, undef, undef, undef, undef, undef, undef, undef], defers := [{ target := .fn (.func 24) #[], args := #[.pointer (some ⟨ge, 0, none⟩)] }] } w8b.drew := by
                          refine hR2 _ _ _ _ ?_
                          refine wpAny_ready (rs := [0, 3]) (by kernel_rfl) (by simp) ?_
                          refine AllReady.cons rfl (fun K hK => ?_) ?_
                          · go_simp
                            refine hK _ _ ?_
                            exact hR1 _ _ _ _ S012
                          refine AllReady.cons rfl (fun K hK => ?_) ?_
                          · go_simp
                            go_wp2_with (go_at_call 27; refine (CT3.out _ (HS8.out.below (below_drew1 (Below.refl _ _)))).mono ?_; rintro e w9 ⟨rfl, hb⟩; have HB9 := Aside0.mk hb; clear hb)
                            show bodyPostD _ _ _ (Exit.panic wrongP) _ _
                            rw [hR]
                            exact HPAN.out _ _ _ _ _ _ HE.out rfl rfl HB9.out
                          exact AllReady.nil
                        have S0 : R2 7 #[true, false, false, false, false, false, false, false] { tmps := #[Value.string s, undef, Value.pointer (some ⟨gt, 0, none⟩), Value.pointer (some ⟨ge, 0, none⟩), Value.pointer (some ⟨r, 0, none⟩), Value.bool true, Value.int .i64 (a : Int), Value.int .i64 (b2 : Int), Value.string s, Value.int .i64 (s.size : Int), Value.bool false, undef, Value.string s, Value.pointer (some ⟨r, 0, none⟩), Value.pointer (some ⟨r, 0, none⟩), Value.pointer (some ⟨r, 0, none⟩), Value.pointer (some ⟨r, 0, none⟩), Value.slice (some ⟨b, o, none⟩) nn cc, Value.pointer (some ⟨b, o, none⟩), Value.string hd0, Value.bool (!ts.isEmpty), Value.bool true, u22, u23, Value.pointer (some ⟨r, 0, none⟩), Value.int .i64 (a : Int), Value.pointer (some ⟨r, 0, none⟩), Value.bool true, Value.tuple #[], Value.pointer (some ⟨r, 0, none⟩), Value.int .i64 (b2 : Int), Value.pointer (some ⟨r, 0, none⟩), Value.bool true, Value.bool true, Value.int .i64 (a : Int), Value.int .i64 (b2 : Int), Value.pointer (some ⟨gt, a * 6, none⟩), Value.pointer (some ⟨gt, a * 6 + b2, none⟩), Value.int .i64 0, Value.bool true, Value.bool true, Value.tuple #[], Value.int .i64 (a : Int), u43, u44, u45, u46, u47, u48, undef, undef, undef, undef, undef, undef, undef, undef, undef], defers := [{ target := .fn (.func 24) #[], args := #[.pointer (some ⟨ge, 0, none⟩)] }] } w8b.drew := by
                          refine hR2 _ _ _ _ ?_
                          refine wpAny_ready (rs := [1, 2, 5]) (by kernel_rfl) (by simp) ?_
                          refine AllReady.cons rfl (fun K hK => ?_) ?_
                          · go_simp
                            refine hK _ _ ?_
                            exact hR1 _ _ _ _ S01
                          refine AllReady.cons rfl (fun K hK => ?_) ?_
                          · go_simp
                            refine hK _ _ ?_
                            exact hR1 _ _ _ _ S02
                          refine AllReady.cons rfl (fun K hK => ?_) ?_
                          · go_simp
                            refine hK _ _ ?_
                            exact hR1 _ _ _ _ S05
                          exact AllReady.nil
                        have S1 : R2 7 #[false, true, false, false, false, false, false, false] { tmps := #[Value.string s, undef, Value.pointer (some ⟨gt, 0, none⟩), Value.pointer (some ⟨ge, 0, none⟩), Value.pointer (some ⟨r, 0, none⟩), Value.bool true, Value.int .i64 (a : Int), Value.int .i64 (b2 : Int), Value.string s, Value.int .i64 (s.size : Int), Value.bool false, undef, Value.string s, Value.pointer (some ⟨r, 0, none⟩), Value.pointer (some ⟨r, 0, none⟩), Value.pointer (some ⟨r, 0, none⟩), Value.pointer (some ⟨r, 0, none⟩), Value.slice (some ⟨b, o, none⟩) nn cc, Value.pointer (some ⟨b, o, none⟩), Value.string hd0, Value.bool (!ts.isEmpty), Value.bool true, u22, u23, Value.pointer (some ⟨r, 0, none⟩), Value.int .i64 (a : Int), Value.pointer (some ⟨r, 0, none⟩), Value.bool true, Value.tuple #[], Value.pointer (some ⟨r, 0, none⟩), Value.int .i64 (b2 : Int), Value.pointer (some ⟨r, 0, none⟩), Value.bool true, Value.bool true, Value.int .i64 (a : Int), Value.int .i64 (b2 : Int), Value.pointer (some ⟨gt, a * 6, none⟩), Value.pointer (some ⟨gt, a * 6 + b2, none⟩), Value.int .i64 0, Value.bool true, Value.bool true, Value.tuple #[], u42, Value.int .i64 (b2 : Int), u44, u45, u46, u47, u48, undef, undef, undef, undef, undef, undef, undef, undef, undef], defers := [{ target := .fn (.func 24) #[], args := #[.pointer (some ⟨ge, 0, none⟩)] }] } w8b.drew := by
                          refine hR2 _ _ _ _ ?_
                          refine wpAny_ready (rs := [0, 2]) (by kernel_rfl) (by simp) ?_
                          refine AllReady.cons rfl (fun K hK => ?_) ?_
                          · go_simp
                            refine hK _ _ ?_
                            exact hR1 _ _ _ _ S01
                          refine AllReady.cons rfl (fun K hK => ?_) ?_
                          · go_simp
                            refine hK _ _ ?_
                            exact hR1 _ _ _ _ S12
                          exact AllReady.nil
                        have S2 : R2 7 #[false, false, true, false, false, false, false, false] { tmps := #[Value.string s, undef, Value.pointer (some ⟨gt, 0, none⟩), Value.pointer (some ⟨ge, 0, none⟩), Value.pointer (some ⟨r, 0, none⟩), Value.bool true, Value.int .i64 (a : Int), Value.int .i64 (b2 : Int), Value.string s, Value.int .i64 (s.size : Int), Value.bool false, undef, Value.string s, Value.pointer (some ⟨r, 0, none⟩), Value.pointer (some ⟨r, 0, none⟩), Value.pointer (some ⟨r, 0, none⟩), Value.pointer (some ⟨r, 0, none⟩), Value.slice (some ⟨b, o, none⟩) nn cc, Value.pointer (some ⟨b, o, none⟩), Value.string hd0, Value.bool (!ts.isEmpty), Value.bool true, u22, u23, Value.pointer (some ⟨r, 0, none⟩), Value.int .i64 (a : Int), Value.pointer (some ⟨r, 0, none⟩), Value.bool true, Value.tuple #[], Value.pointer (some ⟨r, 0, none⟩), Value.int .i64 (b2 : Int), Value.pointer (some ⟨r, 0, none⟩), Value.bool true, Value.bool true, Value.int .i64 (a : Int), Value.int .i64 (b2 : Int), Value.pointer (some ⟨gt, a * 6, none⟩), Value.pointer (some ⟨gt, a * 6 + b2, none⟩), Value.int .i64 0, Value.bool true, Value.bool true, Value.tuple #[], u42, u43, Value.pointer (some ⟨r, 0, none⟩), u45, u46, u47, u48, undef, undef, undef, undef, undef, undef, undef, undef, undef], defers := [{ target := .fn (.func 24) #[], args := #[.pointer (some ⟨ge, 0, none⟩)] }] } w8b.drew := by
                          refine hR2 _ _ _ _ ?_
                          refine wpAny_ready (rs := [0, 1, 3]) (by kernel_rfl) (by simp) ?_
                          refine AllReady.cons rfl (fun K hK => ?_) ?_
                          · go_simp
                            refine hK _ _ ?_
                            exact hR1 _ _ _ _ S02
                          refine AllReady.cons rfl (fun K hK => ?_) ?_
                          · go_simp
                            refine hK _ _ ?_
                            exact hR1 _ _ _ _ S12
                          refine AllReady.cons rfl (fun K hK => ?_) ?_
                          · go_simp
                            go_wp2_with (go_at_call 27; refine (CT3.out _ (HS8.out.below (below_drew1 (Below.refl _ _)))).mono ?_; rintro e w9 ⟨rfl, hb⟩; have HB9 := Aside0.mk hb; clear hb)
                            show bodyPostD _ _ _ (Exit.panic wrongP) _ _
                            rw [hR]
                            exact HPAN.out _ _ _ _ _ _ HE.out rfl rfl HB9.out
                          exact AllReady.nil
                        have Sx : R2 8 #[false, false, false, false, false, false, false, false] { tmps := #[Value.string s, undef, Value.pointer (some ⟨gt, 0, none⟩), Value.pointer (some ⟨ge, 0, none⟩), Value.pointer (some ⟨r, 0, none⟩), Value.bool true, Value.int .i64 (a : Int), Value.int .i64 (b2 : Int), Value.string s, Value.int .i64 (s.size : Int), Value.bool false, undef, Value.string s, Value.pointer (some ⟨r, 0, none⟩), Value.pointer (some ⟨r, 0, none⟩), Value.pointer (some ⟨r, 0, none⟩), Value.pointer (some ⟨r, 0, none⟩), Value.slice (some ⟨b, o, none⟩) nn cc, Value.pointer (some ⟨b, o, none⟩), Value.string hd0, Value.bool (!ts.isEmpty), Value.bool true, u22, u23, Value.pointer (some ⟨r, 0, none⟩), Value.int .i64 (a : Int), Value.pointer (some ⟨r, 0, none⟩), Value.bool true, Value.tuple #[], Value.pointer (some ⟨r, 0, none⟩), Value.int .i64 (b2 : Int), Value.pointer (some ⟨r, 0, none⟩), Value.bool true, Value.bool true, Value.int .i64 (a : Int), Value.int .i64 (b2 : Int), Value.pointer (some ⟨gt, a * 6, none⟩), Value.pointer (some ⟨gt, a * 6 + b2, none⟩), Value.int .i64 0, Value.bool true, Value.bool true, Value.tuple #[], u42, u43, u44, u45, u46, u47, u48, undef, undef, undef, undef, undef, undef, undef, undef, undef], defers := [{ target := .fn (.func 24) #[], args := #[.pointer (some ⟨ge, 0, none⟩)] }] } w8b.drew := by
                          refine hR2 _ _ _ _ ?_
                          refine wpAny_ready (rs := [0, 1, 2]) (by kernel_rfl) (by simp) ?_
                          refine AllReady.cons rfl (fun K hK => ?_) ?_
                          · go_simp
                            refine hK _ _ ?_
                            exact hR1 _ _ _ _ S0
                          refine AllReady.cons rfl (fun K hK => ?_) ?_
                          · go_simp
                            refine hK _ _ ?_
                            exact hR1 _ _ _ _ S1
                          refine AllReady.cons rfl (fun K hK => ?_) ?_
                          · go_simp
                            refine hK _ _ ?_
                            exact hR1 _ _ _ _ S2
                          exact AllReady.nil
                        exact Sx
                      | some cp3 =>
                        obtain ⟨c3, ts5⟩ := cp3
                        obtain ⟨c, hc6, rfl, hlen3⟩ := cat_nat HC3
                        have CT3 := Aside0.mk (fun w2 (h : RS V w2 r ts4) => cat_some h HC3)
                        obtain ⟨tk2, htk2⟩ : ∃ tk2, tk2 = (takeT sSem ts5).1 := ⟨_, rfl⟩
                        obtain ⟨ts6, hts6⟩ : ∃ ts6, ts6 = (takeT sSem ts5).2 := ⟨_, rfl⟩
                        have TK3 := Aside0.mk (fun w2 V (h : RS V w2 r ts5) => TK.out sSem neSem r V ts5 w2 h)
                        rw [← htk2, ← hts6] at TK3
                        have hEQ : Aside0 ((if tk2 = true then entT k1 (q.set (a * 6 + b2) (1 + (c : Int))) ts6 else some (q.set (a * 6 + b2) (1 + (c : Int)), ts6)) = R) := ⟨by
                          rw [← HA5.out, HC3]
                          simp only []
                          rw [← htk2, ← hts6]
                          cases tk2 with
                          | true => rfl
                          | false => rw [if_neg (by decide), if_neg (by decide), hts6, take_no htk2.symm]⟩
                        have hLE : Aside0 (ts6.length < k1) := ⟨by have h1 := take_len sSem ts5; have h2 := HLEN2.out; have h3 := HLT.out; rw [← hts6] at h1; omega⟩
                        have hw : wrap64 (1 + (c : Int)) = 1 + (c : Int) := w64i (by omega) (by omega)
                        have hw2 : IntKind.i64.wrap (1 + (c : Int)) = 1 + (c : Int) := by simp [IntKind.wrap, IntKind.signed, IntKind.bits]; omega
                        clear htk2 hts6 hlen3
                        refine wp_region_any hmx ?_
                        change wpAny _ _ _ _ _ _ _ (World.drew _)
                        refine with_anyP ?_
                        intro R2 hR1 hR2
                        have S012345 : ∀ w9 : World, RS V w9 r ts5 → R2 2 #[true, true, true, true, true, true, false, false] { tmps := #[Value.string s, undef, Value.pointer (some ⟨gt, 0, none⟩), Value.pointer (some ⟨ge, 0, none⟩), Value.pointer (some ⟨r, 0, none⟩), Value.bool true, Value.int .i64 (a : Int), Value.int .i64 (b2 : Int), Value.string s, Value.int .i64 (s.size : Int), Value.bool false, undef, Value.string s, Value.pointer (some ⟨r, 0, none⟩), Value.pointer (some ⟨r, 0, none⟩), Value.pointer (some ⟨r, 0, none⟩), Value.pointer (some ⟨r, 0, none⟩), Value.slice (some ⟨b, o, none⟩) nn cc, Value.pointer (some ⟨b, o, none⟩), Value.string hd0, Value.bool (!ts.isEmpty), Value.bool true, u22, u23, Value.pointer (some ⟨r, 0, none⟩), Value.int .i64 (a : Int), Value.pointer (some ⟨r, 0, none⟩), Value.bool true, Value.tuple #[], Value.pointer (some ⟨r, 0, none⟩), Value.int .i64 (b2 : Int), Value.pointer (some ⟨r, 0, none⟩), Value.bool true, Value.bool true, Value.int .i64 (a : Int), Value.int .i64 (b2 : Int), Value.pointer (some ⟨gt, a * 6, none⟩), Value.pointer (some ⟨gt, a * 6 + b2, none⟩), Value.int .i64 0, Value.bool true, Value.bool true, Value.tuple #[], Value.int .i64 (a : Int), Value.int .i64 (b2 : Int), Value.pointer (some ⟨r, 0, none⟩), Value.int .i64 (c : Int), Value.int .i64 (1 + (c : Int)), Value.pointer (some ⟨gt, a * 6, none⟩), u48, undef, undef, undef, undef, undef, undef, undef, undef, undef], defers := [{ target := .fn (.func 24) #[], args := #[.pointer (some ⟨ge, 0, none⟩)] }] } w9 := by
                          intro w9 hs9
                          refine hR2 _ _ _ _ ?_
                          have HS9 := Aside0.mk hs9
                          have hqf := blk_frozen (blk_below HE.out.t hs9.base) (a * 6 + b2)
                          have hqc9 := cellsI_at (blk_below HE.out.t hs9.base) HIX.out
                          clear hs9 hqc
                          refine wpAny_ready (rs := [6]) (by kernel_rfl) (by simp) ?_
                          refine AllReady.cons rfl (fun K hK => ?_) AllReady.nil
                          go_simp
                          refine hK _ _ ?_
                          clear hK K
                          refine wpAny_ready (rs := [7]) (by kernel_rfl) (by simp) ?_
                          refine AllReady.cons rfl (fun K hK => ?_) AllReady.nil
                          go_simp
                          refine hK _ _ ?_
                          clear hK K
                          refine wpAny_done (by kernel_rfl) ?_ _
                          have HS10 := Aside0.mk (HS9.out.both (n := a * 6 + b2) (v := .int .i64 (1 + (c : Int))) HE.out)
                          have HE10 := Aside0.mk (HE.out.set (a * 6 + b2) (1 + (c : Int)))
                          generalize w9.setCell ⟨gt, a * 6 + b2, none⟩ (.int .i64 (1 + (c : Int))) = w10 at HS10 ⊢
                          generalize V.setCell ⟨gt, a * 6 + b2, none⟩ (.int .i64 (1 + (c : Int))) = V2 at HS10 HE10 ⊢
                          clear hqc9 hqf
                          go_wp2_with (go_at_call 26; refine (TK3.out _ V2 HS10.out).mono ?_; rintro e w11 ⟨rfl, hs, hb⟩; have HS11 := Aside0.mk hs; clear hs hb)
                          go_roundg k1
                          case rel => exact ⟨tk2, q.set (a * 6 + b2) (1 + (c : Int)), ts6, V2, rfl, HS11.out, HE10.out, ⟨fun _ => hLE.out⟩, hEQ⟩
                          case measure => exact Nat.lt_succ_self _
                        have S01234 : ∀ w9 : World, RS V w9 r ts5 → R2 3 #[true, true, true, true, true, false, false, false] { tmps := #[Value.string s, undef, Value.pointer (some ⟨gt, 0, none⟩), Value.pointer (some ⟨ge, 0, none⟩), Value.pointer (some ⟨r, 0, none⟩), Value.bool true, Value.int .i64 (a : Int), Value.int .i64 (b2 : Int), Value.string s, Value.int .i64 (s.size : Int), Value.bool false, undef, Value.string s, Value.pointer (some ⟨r, 0, none⟩), Value.pointer (some ⟨r, 0, none⟩), Value.pointer (some ⟨r, 0, none⟩), Value.pointer (some ⟨r, 0, none⟩), Value.slice (some ⟨b, o, none⟩) nn cc, Value.pointer (some ⟨b, o, none⟩), Value.string hd0, Value.bool (!ts.isEmpty), Value.bool true, u22, u23, Value.pointer (some ⟨r, 0, none⟩), Value.int .i64 (a : Int), Value.pointer (some ⟨r, 0, none⟩), Value.bool true, Value.tuple #[], Value.pointer (some ⟨r, 0, none⟩), Value.int .i64 (b2 : Int), Value.pointer (some ⟨r, 0, none⟩), Value.bool true, Value.bool true, Value.int .i64 (a : Int), Value.int .i64 (b2 : Int), Value.pointer (some ⟨gt, a * 6, none⟩), Value.pointer (some ⟨gt, a * 6 + b2, none⟩), Value.int .i64 0, Value.bool true, Value.bool true, Value.tuple #[], Value.int .i64 (a : Int), Value.int .i64 (b2 : Int), Value.pointer (some ⟨r, 0, none⟩), Value.int .i64 (c : Int), Value.int .i64 (1 + (c : Int)), u47, u48, undef, undef, undef, undef, undef, undef, undef, undef, undef], defers := [{ target := .fn (.func 24) #[], args := #[.pointer (some ⟨ge, 0, none⟩)] }] } w9 := by
                          intro w9 hs9
                          refine hR2 _ _ _ _ ?_
                          refine wpAny_ready (rs := [5]) (by kernel_rfl) (by simp) ?_
                          refine AllReady.cons rfl (fun K hK => ?_) ?_
                          · go_simp
                            refine hK _ _ ?_
                            exact hR1 _ _ _ _ (S012345 w9 hs9)
                          exact AllReady.nil
                        have S01235 : ∀ w9 : World, RS V w9 r ts5 → R2 3 #[true, true, true, true, false, true, false, false] { tmps := #[Value.string s, undef, Value.pointer (some ⟨gt, 0, none⟩), Value.pointer (some ⟨ge, 0, none⟩), Value.pointer (some ⟨r, 0, none⟩), Value.bool true, Value.int .i64 (a : Int), Value.int .i64 (b2 : Int), Value.string s, Value.int .i64 (s.size : Int), Value.bool false, undef, Value.string s, Value.pointer (some ⟨r, 0, none⟩), Value.pointer (some ⟨r, 0, none⟩), Value.pointer (some ⟨r, 0, none⟩), Value.pointer (some ⟨r, 0, none⟩), Value.slice (some ⟨b, o, none⟩) nn cc, Value.pointer (some ⟨b, o, none⟩), Value.string hd0, Value.bool (!ts.isEmpty), Value.bool true, u22, u23, Value.pointer (some ⟨r, 0, none⟩), Value.int .i64 (a : Int), Value.pointer (some ⟨r, 0, none⟩), Value.bool true, Value.tuple #[], Value.pointer (some ⟨r, 0, none⟩), Value.int .i64 (b2 : Int), Value.pointer (some ⟨r, 0, none⟩), Value.bool true, Value.bool true, Value.int .i64 (a : Int), Value.int .i64 (b2 : Int), Value.pointer (some ⟨gt, a * 6, none⟩), Value.pointer (some ⟨gt, a * 6 + b2, none⟩), Value.int .i64 0, Value.bool true, Value.bool true, Value.tuple #[], Value.int .i64 (a : Int), Value.int .i64 (b2 : Int), Value.pointer (some ⟨r, 0, none⟩), Value.int .i64 (c : Int), u46, Value.pointer (some ⟨gt, a * 6, none⟩), u48, undef, undef, undef, undef, undef, undef, undef, undef, undef], defers := [{ target := .fn (.func 24) #[], args := #[.pointer (some ⟨ge, 0, none⟩)] }] } w9 := by
                          intro w9 hs9
                          refine hR2 _ _ _ _ ?_
                          refine wpAny_ready (rs := [4]) (by kernel_rfl) (by simp) ?_
                          refine AllReady.cons rfl (fun K hK => ?_) ?_
                          · go_simp
                            refine hK _ _ ?_
                            exact hR1 _ _ _ _ (S012345 w9 hs9)
                          exact AllReady.nil
                        have S02345 : ∀ w9 : World, RS V w9 r ts5 → R2 3 #[true, false, true, true, true, true, false, false] { tmps := #[Value.string s, undef, Value.pointer (some ⟨gt, 0, none⟩), Value.pointer (some ⟨ge, 0, none⟩), Value.pointer (some ⟨r, 0, none⟩), Value.bool true, Value.int .i64 (a : Int), Value.int .i64 (b2 : Int), Value.string s, Value.int .i64 (s.size : Int), Value.bool false, undef, Value.string s, Value.pointer (some ⟨r, 0, none⟩), Value.pointer (some ⟨r, 0, none⟩), Value.pointer (some ⟨r, 0, none⟩), Value.pointer (some ⟨r, 0, none⟩), Value.slice (some ⟨b, o, none⟩) nn cc, Value.pointer (some ⟨b, o, none⟩), Value.string hd0, Value.bool (!ts.isEmpty), Value.bool true, u22, u23, Value.pointer (some ⟨r, 0, none⟩), Value.int .i64 (a : Int), Value.pointer (some ⟨r, 0, none⟩), Value.bool true, Value.tuple #[], Value.pointer (some ⟨r, 0, none⟩), Value.int .i64 (b2 : Int), Value.pointer (some ⟨r, 0, none⟩), Value.bool true, Value.bool true, Value.int .i64 (a : Int), Value.int .i64 (b2 : Int), Value.pointer (some ⟨gt, a * 6, none⟩), Value.pointer (some ⟨gt, a * 6 + b2, none⟩), Value.int .i64 0, Value.bool true, Value.bool true, Value.tuple #[], Value.int .i64 (a : Int), u43, Value.pointer (some ⟨r, 0, none⟩), Value.int .i64 (c : Int), Value.int .i64 (1 + (c : Int)), Value.pointer (some ⟨gt, a * 6, none⟩), u48, undef, undef, undef, undef, undef, undef, undef, undef, undef], defers := [{ target := .fn (.func 24) #[], args := #[.pointer (some ⟨ge, 0, none⟩)] }] } w9 := by
                          intro w9 hs9
                          refine hR2 _ _ _ _ ?_
                          refine wpAny_ready (rs := [1]) (by kernel_rfl) (by simp) ?_
                          refine AllReady.cons rfl (fun K hK => ?_) ?_
                          · go_simp
                            refine hK _ _ ?_
                            exact hR1 _ _ _ _ (S012345 w9 hs9)
                          exact AllReady.nil
                        have S0123 : ∀ w9 : World, RS V w9 r ts5 → R2 4 #[true, true, true, true, false, false, false, false] { tmps := #[Value.string s, undef, Value.pointer (some ⟨gt, 0, none⟩), Value.pointer (some ⟨ge, 0, none⟩), Value.pointer (some ⟨r, 0, none⟩), Value.bool true, Value.int .i64 (a : Int), Value.int .i64 (b2 : Int), Value.string s, Value.int .i64 (s.size : Int), Value.bool false, undef, Value.string s, Value.pointer (some ⟨r, 0, none⟩), Value.pointer (some ⟨r, 0, none⟩), Value.pointer (some ⟨r, 0, none⟩), Value.pointer (some ⟨r, 0, none⟩), Value.slice (some ⟨b, o, none⟩) nn cc, Value.pointer (some ⟨b, o, none⟩), Value.string hd0, Value.bool (!ts.isEmpty), Value.bool true, u22, u23, Value.pointer (some ⟨r, 0, none⟩), Value.int .i64 (a : Int), Value.pointer (some ⟨r, 0, none⟩), Value.bool true, Value.tuple #[], Value.pointer (some ⟨r, 0, none⟩), Value.int .i64 (b2 : Int), Value.pointer (some ⟨r, 0, none⟩), Value.bool true, Value.bool true, Value.int .i64 (a : Int), Value.int .i64 (b2 : Int), Value.pointer (some ⟨gt, a * 6, none⟩), Value.pointer (some ⟨gt, a * 6 + b2, none⟩), Value.int .i64 0, Value.bool true, Value.bool true, Value.tuple #[], Value.int .i64 (a : Int), Value.int .i64 (b2 : Int), Value.pointer (some ⟨r, 0, none⟩), Value.int .i64 (c : Int), u46, u47, u48, undef, undef, undef, undef, undef, undef, undef, undef, undef], defers := [{ target := .fn (.func 24) #[], args := #[.pointer (some ⟨ge, 0, none⟩)] }] } w9 := by
                          intro w9 hs9
                          refine hR2 _ _ _ _ ?_
                          refine wpAny_ready (rs := [4, 5]) (by kernel_rfl) (by simp) ?_
                          refine AllReady.cons rfl (fun K hK => ?_) ?_
                          · go_simp
                            refine hK _ _ ?_
                            exact hR1 _ _ _ _ (S01234 w9 hs9)
                          refine AllReady.cons rfl (fun K hK => ?_) ?_
                          · go_simp
                            refine hK _ _ ?_
                            exact hR1 _ _ _ _ (S01235 w9 hs9)
                          exact AllReady.nil
                        have S0125 : R2 4 #[true, true, true, false, false, true, false, false] { tmps := #[Value.string s, undef, Value.pointer (some ⟨gt, 0, none⟩), Value.pointer (some ⟨ge, 0, none⟩), Value.pointer (some ⟨r, 0, none⟩), Value.bool true, Value.int .i64 (a : Int), Value.int .i64 (b2 : Int), Value.string s, Value.int .i64 (s.size : Int), Value.bool false, undef, Value.string s, Value.pointer (some ⟨r, 0, none⟩), Value.pointer (some ⟨r, 0, none⟩), Value.pointer (some ⟨r, 0, none⟩), Value.pointer (some ⟨r, 0, none⟩), Value.slice (some ⟨b, o, none⟩) nn cc, Value.pointer (some ⟨b, o, none⟩), Value.string hd0, Value.bool (!ts.isEmpty), Value.bool true, u22, u23, Value.pointer (some ⟨r, 0, none⟩), Value.int .i64 (a : Int), Value.pointer (some ⟨r, 0, none⟩), Value.bool true, Value.tuple #[], Value.pointer (some ⟨r, 0, none⟩), Value.int .i64 (b2 : Int), Value.pointer (some ⟨r, 0, none⟩), Value.bool true, Value.bool true, Value.int .i64 (a : Int), Value.int .i64 (b2 : Int), Value.pointer (some ⟨gt, a * 6, none⟩), Value.pointer (some ⟨gt, a * 6 + b2, none⟩), Value.int .i64 0, Value.bool true, Value.bool true, Value.tuple #[], Value.int .i64 (a : Int), Value.int .i64 (b2 : Int), Value.pointer (some ⟨r, 0, none⟩), u45, u46, Value.pointer (some ⟨gt, a * 6, none⟩), u48, undef, undef, undef, undef, undef, undef, undef, undef, undef], defers := [{ target := .fn (.func 24) #[], args := #[.pointer (some ⟨ge, 0, none⟩)] }] } w8b.drew := by
                          refine hR2 _ _ _ _ ?_
                          refine wpAny_ready (rs := [3]) (by kernel_rfl) (by simp) ?_
                          refine AllReady.cons rfl (fun K hK => ?_) ?_
                          · go_simp
                            go_wp2_with (go_at_call 27; refine (CT3.out _ (HS8.out.below (below_drew1 (Below.refl _ _)))).mono ?_; rintro e w9 ⟨rfl, hs, hb⟩; have HS9 := Aside0.mk hs; clear hs hb)
                            first | (refine hK _ _ ?_) | skip
                            exact hR1 _ _ _ _ (S01235 w9 HS9.out)
                          exact AllReady.nil
                        have S0234 : ∀ w9 : World, RS V w9 r ts5 → R2 4 #[true, false, true, true, true, false, false, false] { tmps := #[Value.string s, undef, Value.pointer (some ⟨gt, 0, none⟩), Value.pointer (some ⟨ge, 0, none⟩), Value.pointer (some ⟨r, 0, none⟩), Value.bool true, Value.int .i64 (a : Int), Value.int .i64 (b2 : Int), Value.string s, Value.int .i64 (s.size : Int), Value.bool false, undef, Value.string s, Value.pointer (some ⟨r, 0, none⟩), Value.pointer (some ⟨r, 0, none⟩), Value.pointer (some ⟨r, 0, none⟩), Value.pointer (some ⟨r, 0, none⟩), Value.slice (some ⟨b, o, none⟩) nn cc, Value.pointer (some ⟨b, o, none⟩), Value.string hd0, Value.bool (!ts.isEmpty), Value.bool true, u22, u23, Value.pointer (some ⟨r, 0, none⟩), Value.int .i64 (a : Int), Value.pointer (some ⟨r, 0, none⟩), Value.bool true, Value.tuple #[], Value.pointer (some ⟨r, 0, none⟩), Value.int .i64 (b2 : Int), Value.pointer (some ⟨r, 0, none⟩), Value.bool true, Value.bool true, Value.int .i64 (a : Int), Value.int .i64 (b2 : Int), Value.pointer (some ⟨gt, a * 6, none⟩), Value.pointer (some ⟨gt, a * 6 + b2, none⟩), Value.int .i64 0, Value.bool true, Value.bool true, Value.tuple #[], Value.int .i64 (a : Int), u43, Value.pointer (some ⟨r, 0, none⟩), Value.int .i64 (c : Int), Value.int .i64 (1 + (c : Int)), u47, u48, undef, undef, undef, undef, undef, undef, undef, undef, undef], defers := [{ target := .fn (.func 24) #[], args := #[.pointer (some ⟨ge, 0, none⟩)] }] } w9 := by
                          intro w9 hs9
                          refine hR2 _ _ _ _ ?_
                          refine wpAny_ready (rs := [1, 5]) (by kernel_rfl) (by simp) ?_
                          refine AllReady.cons rfl (fun K hK => ?_) ?_
                          · go_simp
                            refine hK _ _ ?_
                            exact hR1 _ _ _ _ (S01234 w9 hs9)
                          refine AllReady.cons rfl (fun K hK => ?_) ?_
                          · go_simp
                            refine hK _ _ ?_
                            exact hR1 _ _ _ _ (S02345 w9 hs9)
                          exact AllReady.nil
                        have S0235 : ∀ w9 : World, RS V w9 r ts5 → R2 4 #[true, false, true, true, false, true, false, false] { tmps := #[Value.string s, undef, Value.pointer (some ⟨gt, 0, none⟩), Value.pointer (some ⟨ge, 0, none⟩), Value.pointer (some ⟨r, 0, none⟩), Value.bool true, Value.int .i64 (a : Int), Value.int .i64 (b2 : Int), Value.string s, Value.int .i64 (s.size : Int), Value.bool false, undef, Value.string s, Value.pointer (some ⟨r, 0, none⟩), Value.pointer (some ⟨r, 0, none⟩), Value.pointer (some ⟨r, 0, none⟩), Value.pointer (some ⟨r, 0, none⟩), Value.slice (some ⟨b, o, none⟩) nn cc, Value.pointer (some ⟨b, o, none⟩), Value.string hd0, Value.bool (!ts.isEmpty), Value.bool true, u22, u23, Value.pointer (some ⟨r, 0, none⟩), Value.int .i64 (a : Int), Value.pointer (some ⟨r, 0, none⟩), Value.bool true, Value.tuple #[], Value.pointer (some ⟨r, 0, none⟩), Value.int .i64 (b2 : Int), Value.pointer (some ⟨r, 0, none⟩), Value.bool true, Value.bool true, Value.int .i64 (a : Int), Value.int .i64 (b2 : Int), Value.pointer (some ⟨gt, a * 6, none⟩), Value.pointer (some ⟨gt, a * 6 + b2, none⟩), Value.int .i64 0, Value.bool true, Value.bool true, Value.tuple #[], Value.int .i64 (a : Int), u43, Value.pointer (some ⟨r, 0, none⟩), Value.int .i64 (c : Int), u46, Value.pointer (some ⟨gt, a * 6, none⟩), u48, undef, undef, undef, undef, undef, undef, undef, undef, undef], defers := [{ target := .fn (.func 24) #[], args := #[.pointer (some ⟨ge, 0, none⟩)] }] } w9 := by
                          intro w9 hs9
                          refine hR2 _ _ _ _ ?_
                          refine wpAny_ready (rs := [1, 4]) (by kernel_rfl) (by simp) ?_
                          refine AllReady.cons rfl (fun K hK => ?_) ?_
                          · go_simp
                            refine hK _ _ ?_
                            exact hR1 _ _ _ _ (S01235 w9 hs9)
                          refine AllReady.cons rfl (fun K hK => ?_) ?_
                          · go_simp
                            refine hK _ _ ?_
                            exact hR1 _ _ _ _ (S02345 w9 hs9)
                          exact AllReady.nil
                        have S1234 : ∀ w9 : World, RS V w9 r ts5 → R2 4 #[false, true, true, true, true, false, false, false] { tmps := #[Value.string s, undef, Value.pointer (some ⟨gt, 0, none⟩), Value.pointer (some ⟨ge, 0, none⟩), Value.pointer (some ⟨r, 0, none⟩), Value.bool true, Value.int .i64 (a : Int), Value.int .i64 (b2 : Int), Value.string s, Value.int .i64 (s.size : Int), Value.bool false, undef, Value.string s, Value.pointer (some ⟨r, 0, none⟩), Value.pointer (some ⟨r, 0, none⟩), Value.pointer (some ⟨r, 0, none⟩), Value.pointer (some ⟨r, 0, none⟩), Value.slice (some ⟨b, o, none⟩) nn cc, Value.pointer (some ⟨b, o, none⟩), Value.string hd0, Value.bool (!ts.isEmpty), Value.bool true, u22, u23, Value.pointer (some ⟨r, 0, none⟩), Value.int .i64 (a : Int), Value.pointer (some ⟨r, 0, none⟩), Value.bool true, Value.tuple #[], Value.pointer (some ⟨r, 0, none⟩), Value.int .i64 (b2 : Int), Value.pointer (some ⟨r, 0, none⟩), Value.bool true, Value.bool true, Value.int .i64 (a : Int), Value.int .i64 (b2 : Int), Value.pointer (some ⟨gt, a * 6, none⟩), Value.pointer (some ⟨gt, a * 6 + b2, none⟩), Value.int .i64 0, Value.bool true, Value.bool true, Value.tuple #[], u42, Value.int .i64 (b2 : Int), Value.pointer (some ⟨r, 0, none⟩), Value.int .i64 (c : Int), Value.int .i64 (1 + (c : Int)), u47, u48, undef, undef, undef, undef, undef, undef, undef, undef, undef], defers := [{ target := .fn (.func 24) #[], args := #[.pointer (some ⟨ge, 0, none⟩)] }] } w9 := by
                          intro w9 hs9
                          refine hR2 _ _ _ _ ?_
                          refine wpAny_ready (rs := [0]) (by kernel_rfl) (by simp) ?_
                          refine AllReady.cons rfl (fun K hK => ?_) ?_
                          · go_simp
                            refine hK _ _ ?_
                            exact hR1 _ _ _ _ (S01234 w9 hs9)
                          exact AllReady.nil
                        have S012 : R2 5 #[true, true, true, false, false, false, false, false] { tmps := #[Value.string s, undef, Value.pointer (some ⟨gt, 0, none⟩), Value.pointer (some ⟨ge, 0, none⟩), Value.pointer (some ⟨r, 0, none⟩), Value.bool true, Value.int .i64 (a : Int), Value.int .i64 (b2 : Int), Value.string s, Value.int .i64 (s.size : Int), Value.bool false, undef, Value.string s, Value.pointer (some ⟨r, 0, none⟩), Value.pointer (some ⟨r, 0, none⟩), Value.pointer (some ⟨r, 0, none⟩), Value.pointer (some ⟨r, 0, none⟩), Value.slice (some ⟨b, o, none⟩) nn cc, Value.pointer (some ⟨b, o, none⟩), Value.string hd0, Value.bool (!ts.isEmpty), Value.bool true, u22, u23, Value.pointer (some ⟨r, 0, none⟩), Value.int .i64 (a : Int), Value.pointer (some ⟨r, 0, none⟩), Value.bool true, Value.tuple #[], Value.pointer (some ⟨r, 0, none⟩), Value.int .i64 (b2 : Int), Value.pointer (some ⟨r, 0, none⟩), Value.bool true, Value.bool true, Value.int .i64 (a : Int), Value.int .i64 (b2 : Int), Value.pointer (some ⟨gt, a * 6, none⟩), Value.pointer (some ⟨gt, a * 6 + b2, none⟩), Value.int .i64 0, Value.bool true, Value.bool true, Value.tuple #[], Value.int .i64 (a : Int), Value.int .i64 (b2 : Int), Value.pointer (some ⟨r, 0, none⟩), u45, u46, u47, u48, undef, undef, undef, undef, undef, undef, undef, undef, undef], defers := [{ target := .fn (.func 24) #[], args := #[.pointer (some ⟨ge, 0, none⟩)] }] } w8b.drew := by
                          refine hR2 _ _ _ _ ?_
                          refine wpAny_ready (rs := [3, 5]) (by kernel_rfl) (by simp) ?_
                          refine AllReady.cons rfl (fun K hK => ?_) ?_
                          · go_simp
                            go_wp2_with (go_at_call 27; refine (CT3.out _ (HS8.out.below (below_drew1 (Below.refl _ _)))).mono ?_; rintro e w9 ⟨rfl, hs, hb⟩; have HS9 := Aside0.mk hs; clear hs hb)
                            first | (refine hK _ _ ?_) | skip
                            exact hR1 _ _ _ _ (S0123 w9 HS9.out)
                          refine AllReady.cons rfl (fun K hK => ?_) ?_
                          · go_simp
                            refine hK _ _ ?_
                            exact hR1 _ _ _ _ S0125
                          exact AllReady.nil
                        have S015 : R2 5 #[true, true, false, false, false, true, false, false] { tmps := #[Value.string s, undef, Value.pointer (some ⟨gt, 0, none⟩), Value.pointer (some ⟨ge, 0, none⟩), Value.pointer (some ⟨r, 0, none⟩), Value.bool true, Value.int .i64 (a : Int), Value.int .i64 (b2 : Int), Value.string s, Value.int .i64 (s.size : Int), Value.bool false, undef, Value.string s, Value.pointer (some ⟨r, 0, none⟩), Value.pointer (some ⟨r, 0, none⟩), Value.pointer (some ⟨r, 0, none⟩), Value.pointer (some ⟨r, 0, none⟩), Value.slice (some ⟨b, o, none⟩) nn cc, Value.pointer (some ⟨b, o, none⟩), Value.string hd0, Value.bool (!ts.isEmpty), Value.bool true, u22, u23, Value.pointer (some ⟨r, 0, none⟩), Value.int .i64 (a : Int), Value.pointer (some ⟨r, 0, none⟩), Value.bool true, Value.tuple #[], Value.pointer (some ⟨r, 0, none⟩), Value.int .i64 (b2 : Int), Value.pointer (some ⟨r, 0, none⟩), Value.bool true, Value.bool true, Value.int .i64 (a : Int), Value.int .i64 (b2 : Int), Value.pointer (some ⟨gt, a * 6, none⟩), Value.pointer (some ⟨gt, a * 6 + b2, none⟩), Value.int .i64 0, Value.bool true, Value.bool true, Value.tuple #[], Value.int .i64 (a : Int), Value.int .i64 (b2 : Int), u44, u45, u46, Value.pointer (some ⟨gt, a * 6, none⟩), u48, undef, undef, undef, undef, undef, undef, undef, undef, undef], defers := [{ target := .fn (.func 24) #[], args := #[.pointer (some ⟨ge, 0, none⟩)] }] } w8b.drew := by
                          refine hR2 _ _ _ _ ?_
                          refine wpAny_ready (rs := [2]) (by kernel_rfl) (by simp) ?_
                          refine AllReady.cons rfl (fun K hK => ?_) ?_
                          · go_simp
                            refine hK _ _ ?_
                            exact hR1 _ _ _ _ S0125
                          exact AllReady.nil
                        have S023 : ∀ w9 : World, RS V w9 r ts5 → R2 5 #[true, false, true, true, false, false, false, false] { tmps := #[Value.string s, undef, Value.pointer (some ⟨gt, 0, none⟩), Value.pointer (some ⟨ge, 0, none⟩), Value.pointer (some ⟨r, 0, none⟩), Value.bool true, Value.int .i64 (a : Int), Value.int .i64 (b2 : Int), Value.string s, Value.int .i64 (s.size : Int), Value.bool false, undef, Value.string s, Value.pointer (some ⟨r, 0, none⟩), Value.pointer (some ⟨r, 0, none⟩), Value.pointer (some ⟨r, 0, none⟩), Value.pointer (some ⟨r, 0, none⟩), Value.slice (some ⟨b, o, none⟩) nn cc, Value.pointer (some ⟨b, o, none⟩), Value.string hd0, Value.bool (!ts.isEmpty), Value.bool true, u22, u23, Value.pointer (some ⟨r, 0, none⟩), Value.int .i64 (a : Int), Value.pointer (some ⟨r, 0, none⟩), Value.bool true, Value.tuple #[], Value.pointer (some ⟨r, 0, none⟩), Value.int .i64 (b2 : Int), Value.pointer (some ⟨r, 0, none⟩), Value.bool true, Value.bool true, Value.int .i64 (a : Int), Value.int .i64 (b2 : Int), Value.pointer (some ⟨gt, a * 6, none⟩), Value.pointer (some ⟨gt, a * 6 + b2, none⟩), Value.int .i64 0, Value.bool true, Value.bool true, Value.tuple #[], Value.int .i64 (a : Int), u43, Value.pointer (some ⟨r, 0, none⟩), Value.int .i64 (c : Int), u46, u47, u48, undef, undef, undef, undef, undef, undef, undef, undef, undef], defers := [{ target := .fn (.func 24) #[], args := #[.pointer (some ⟨ge, 0, none⟩)] }] } w9 := by
                          intro w9 hs9
                          refine hR2 _ _ _ _ ?_
                          refine wpAny_ready (rs := [1, 4, 5]) (by kernel_rfl) (by simp) ?_
                          refine AllReady.cons rfl (fun K hK => ?_) ?_
                          · go_simp
                            refine hK _ _ ?_
                            exact hR1 _ _ _ _ (S0123 w9 hs9)
                          refine AllReady.cons rfl (fun K hK => ?_) ?_
                          · go_simp
                            refine hK _ _ ?_
                            exact hR1 _ _ _ _ (S0234 w9 hs9)
                          refine AllReady.cons rfl (fun K hK => ?_) ?_
                          · go_simp
                            refine hK _ _ ?_
                            exact hR1 _ _ _ _ (S0235 w9 hs9)
                          exact AllReady.nil
                        have S025 : R2 5 #[true, false, true, false, false, true, false, false] { tmps := #[Value.string s, undef, Value.pointer (some ⟨gt, 0, none⟩), Value.pointer (some ⟨ge, 0, none⟩), Value.pointer (some ⟨r, 0, none⟩), Value.bool true, Value.int .i64 (a : Int), Value.int .i64 (b2 : Int), Value.string s, Value.int .i64 (s.size : Int), Value.bool false, undef, Value.string s, Value.pointer (some ⟨r, 0, none⟩), Value.pointer (some ⟨r, 0, none⟩), Value.pointer (some ⟨r, 0, none⟩), Value.pointer (some ⟨r, 0, none⟩), Value.slice (some ⟨b, o, none⟩) nn cc, Value.pointer (some ⟨b, o, none⟩), Value.string hd0, Value.bool (!ts.isEmpty), Value.bool true, u22, u23, Value.pointer (some ⟨r, 0, none⟩), Value.int .i64 (a : Int), Value.pointer (some ⟨r, 0, none⟩), Value.bool true, Value.tuple #[], Value.pointer (some ⟨r, 0, none⟩), Value.int .i64 (b2 : Int), Value.pointer (some ⟨r, 0, none⟩), Value.bool true, Value.bool true, Value.int .i64 (a : Int), Value.int .i64 (b2 : Int), Value.pointer (some ⟨gt, a * 6, none⟩), Value.pointer (some ⟨gt, a * 6 + b2, none⟩), Value.int .i64 0, Value.bool true, Value.bool true, Value.tuple #[], Value.int .i64 (a : Int), u43, Value.pointer (some ⟨r, 0, none⟩), u45, u46, Value.pointer (some ⟨gt, a * 6, none⟩), u48, undef, undef, undef, undef, undef, undef, undef, undef, undef], defers := [{ target := .fn (.func 24) #[], args := #[.pointer (some ⟨ge, 0, none⟩)] }] } w8b.drew := by
                          refine hR2 _ _ _ _ ?_
                          refine wpAny_ready (rs := [1, 3]) (by kernel_rfl) (by simp) ?_
                          refine AllReady.cons rfl (fun K hK => ?_) ?_
                          · go_simp
                            refine hK _ _ ?_
                            exact hR1 _ _ _ _ S0125
                          refine AllReady.cons rfl (fun K hK => ?_) ?_
                          · go_simp
                            go_wp2_with (go_at_call 27; refine (CT3.out _ (HS8.out.below (below_drew1 (Below.refl _ _)))).mono ?_; rintro e w9 ⟨rfl, hs, hb⟩; have HS9 := Aside0.mk hs; clear hs hb)
                            first | (refine hK _ _ ?_) | skip
                            exact hR1 _ _ _ _ (S0235 w9 HS9.out)
                          exact AllReady.nil
                        have S123 : ∀ w9 : World, RS V w9 r ts5 → R2 5 #[false, true, true, true, false, false, false, false] { tmps := #[Value.string s, undef, Value.pointer (some ⟨gt, 0, none⟩), Value.pointer (some ⟨ge, 0, none⟩), Value.pointer (some ⟨r, 0, none⟩), Value.bool true, Value.int .i64 (a : Int), Value.int .i64 (b2 : Int), Value.string s, Value.int .i64 (s.size : Int), Value.bool false, undef, Value.string s, Value.pointer (some ⟨r, 0, none⟩), Value.pointer (some ⟨r, 0, none⟩), Value.pointer (some ⟨r, 0, none⟩), Value.pointer (some ⟨r, 0, none⟩), Value.slice (some ⟨b, o, none⟩) nn cc, Value.pointer (some ⟨b, o, none⟩), Value.string hd0, Value.bool (!ts.isEmpty), Value.bool true, u22, u23, Value.pointer (some ⟨r, 0, none⟩), Value.int .i64 (a : Int), Value.pointer (some ⟨r, 0, none⟩), Value.bool true, Value.tuple #[], Value.pointer (some ⟨r, 0, none⟩), Value.int .i64 (b2 : Int), Value.pointer (some ⟨r, 0, none⟩), Value.bool true, Value.bool true, Value.int .i64 (a : Int), Value.int .i64 (b2 : Int), Value.pointer (some ⟨gt, a * 6, none⟩), Value.pointer (some ⟨gt, a * 6 + b2, none⟩), Value.int .i64 0, Value.bool true, Value.bool true, Value.tuple #[], u42, Value.int .i64 (b2 : Int), Value.pointer (some ⟨r, 0, none⟩), Value.int .i64 (c : Int), u46, u47, u48, undef, undef, undef, undef, undef, undef, undef, undef, undef], defers := [{ target := .fn (.func 24) #[], args := #[.pointer (some ⟨ge, 0, none⟩)] }] } w9 := by
                          intro w9 hs9
                          refine hR2 _ _ _ _ ?_
                          refine wpAny_ready (rs := [0, 4]) (by kernel_rfl) (by simp) ?_
                          refine AllReady.cons rfl (fun K hK => ?_) ?_
                          · go_simp
                            refine hK _ _ ?_
                            exact hR1 _ _ _ _ (S0123 w9 hs9)
                          refine AllReady.cons rfl (fun K hK => ?_) ?_
                          · go_simp
                            refine hK _ _ ?_
                            exact hR1 _ _ _ _ (S1234 w9 hs9)
                          exact AllReady.nil
                        have S234 : ∀ w9 : World, RS V w9 r ts5 → R2 5 #[false, false, true, true, true, false, false, false] { tmps := #[Value.string s, undef, Value.pointer (some ⟨gt, 0, none⟩), Value.pointer (some ⟨ge, 0, none⟩), Value.pointer (some ⟨r, 0, none⟩), Value.bool true, Value.int .i64 (a : Int), Value.int .i64 (b2 : Int), Value.string s, Value.int .i64 (s.size : Int), Value.bool false, undef, Value.string s, Value.pointer (some ⟨r, 0, none⟩), Value.pointer (some ⟨r, 0, none⟩), Value.pointer (some ⟨r, 0, none⟩), Value.pointer (some ⟨r, 0, none⟩), Value.slice (some ⟨b, o, none⟩) nn cc, Value.pointer (some ⟨b, o, none⟩), Value.string hd0, Value.bool (!ts.isEmpty), Value.bool true, u22, u23, Value.pointer (some ⟨r, 0, none⟩), Value.int .i64 (a : Int), Value.pointer (some ⟨r, 0, none⟩), Value.bool true, Value.tuple #[], Value.pointer (some ⟨r, 0, none⟩), Value.int .i64 (b2 : Int), Value.pointer (some ⟨r, 0, none⟩), Value.bool true, Value.bool true, Value.int .i64 (a : Int), Value.int .i64 (b2 : Int), Value.pointer (some ⟨gt, a * 6, none⟩), Value.pointer (some ⟨gt, a * 6 + b2, none⟩), Value.int .i64 0, Value.bool true, Value.bool true, Value.tuple #[], u42, u43, Value.pointer (some ⟨r, 0, none⟩), Value.int .i64 (c : Int), Value.int .i64 (1 + (c : Int)), u47, u48, undef, undef, undef, undef, undef, undef, undef, undef, undef], defers := [{ target := .fn (.func 24) #[], args := #[.pointer (some ⟨ge, 0, none⟩)] }] } w9 := by
                          intro w9 hs9
                          refine hR2 _ _ _ _ ?_
                          refine wpAny_ready (rs := [0, 1]) (by kernel_rfl) (by simp) ?_
                          refine AllReady.cons rfl (fun K hK => ?_) ?_
                          · go_simp
                            refine hK _ _ ?_
                            exact hR1 _ _ _ _ (S0234 w9 hs9)
                          refine AllReady.cons rfl (fun K hK => ?_) ?_
                          · go_simp
                            refine hK _ _ ?_
                            exact hR1 _ _ _ _ (S1234 w9 hs9)
                          exact AllReady.nil
                        have S01 : R2 6 #[true, true, false, false, false, false, false, false] { tmps := #[Value.string s, undef, Value.pointer (some ⟨gt, 0, none⟩), Value.pointer (some ⟨ge, 0, none⟩), Value.pointer (some ⟨r, 0, none⟩), Value.bool true, Value.int .i64 (a : Int), Value.int .i64 (b2 : Int), Value.string s, Value.int .i64 (s.size : Int), Value.bool false, undef, Value.string s, Value.pointer (some ⟨r, 0, none⟩), Value.pointer (some ⟨r, 0, none⟩), Value.pointer (some ⟨r, 0, none⟩), Value.pointer (some ⟨r, 0, none⟩), Value.slice (some ⟨b, o, none⟩) nn cc, Value.pointer (some ⟨b, o, none⟩), Value.string hd0, Value.bool (!ts.isEmpty), Value.bool true, u22, u23, Value.pointer (some ⟨r, 0, none⟩), Value.int .i64 (a : Int), Value.pointer (some ⟨r, 0, none⟩), Value.bool true, Value.tuple #[], Value.pointer (some ⟨r, 0, none⟩), Value.int .i64 (b2 : Int), Value.pointer (some ⟨r, 0, none⟩), Value.bool true, Value.bool true, Value.int .i64 (a : Int), Value.int .i64 (b2 : Int), Value.pointer (some ⟨gt, a * 6, none⟩), Value.pointer (some ⟨gt, a * 6 + b2, none⟩), Value.int .i64 0, Value.bool true, Value.bool true, Value.tuple #[], Value.int .i64 (a : Int), Value.int .i64 (b2 : Int), u44, u45, u46, u47, u48, undef, undef, undef, undef, undef, undef, undef, undef, undef], defers := [{ target := .fn (.func 24) #[], args := #[.pointer (some ⟨ge, 0, none⟩)] }] } w8b.drew := by
                          refine hR2 _ _ _ _ ?_
                          refine wpAny_ready (rs := [2, 5]) (by kernel_rfl) (by simp) ?_
                          refine AllReady.cons rfl (fun K hK => ?_) ?_
                          · go_simp
                            refine hK _ _ ?_
                            exact hR1 _ _ _ _ S012
                          refine AllReady.cons rfl (fun K hK => ?_) ?_
                          · go_simp
                            refine hK _ _ ?_
                            exact hR1 _ _ _ _ S015
                          exact AllReady.nil
                        have S02 : R2 6 #[true, false, true, false, false, false, false, false] { tmps := #[Value.string s, undef, Value.pointer (some ⟨gt, 0, none⟩), Value.pointer (some ⟨ge, 0, none⟩), Value.pointer (some ⟨r, 0, none⟩), Value.bool true, Value.int .i64 (a : Int), Value.int .i64 (b2 : Int), Value.string s, Value.int .i64 (s.size : Int), Value.bool false, undef, Value.string s, Value.pointer (some ⟨r, 0, none⟩), Value.pointer (some ⟨r, 0, none⟩), Value.pointer (some ⟨r, 0, none⟩), Value.pointer (some ⟨r, 0, none⟩), Value.slice (some ⟨b, o, none⟩) nn cc, Value.pointer (some ⟨b, o, none⟩), Value.string hd0, Value.bool (!ts.isEmpty), Value.bool true, u22, u23, Value.pointer (some ⟨r, 0, none⟩), Value.int .i64 (a : Int), Value.pointer (some ⟨r, 0, none⟩), Value.bool true, Value.tuple #[], Value.pointer (some ⟨r, 0, none⟩), Value.int .i64 (b2 : Int), Value.pointer (some ⟨r, 0, none⟩), Value.bool true, Value.bool true, Value.int .i64 (a : Int), Value.int .i64 (b2 : Int), Value.pointer (some ⟨gt, a * 6, none⟩), Value.pointer (some ⟨gt, a * 6 + b2, none⟩), Value.int .i64 0, Value.bool true, Value.bool true, Value.tuple #[], Value.int .i64 (a : Int), u43, Value.pointer (some ⟨r, 0, none⟩), u45, u46, u47, u48, undef, undef, undef, undef, undef, undef, undef, undef, undef], defers := [{ target := .fn (.func 24) #[], args := #[.pointer (some ⟨ge, 0, none⟩)] }] } w8b.drew := by
                          refine hR2 _ _ _ _ ?_
                          refine wpAny_ready (rs := [1, 3, 5]) (by kernel_rfl) (by simp) ?_
                          refine AllReady.cons rfl (fun K hK => ?_) ?_
                          · go_simp
                            refine hK _ _ ?_
                            exact hR1 _ _ _ _ S012
                          refine AllReady.cons rfl (fun K hK => ?_) ?_
                          · go_simp
                            go_wp2_with (go_at_call 27; refine (CT3.out _ (HS8.out.below (below_drew1 (Below.refl _ _)))).mono ?_; rintro e w9 ⟨rfl, hs, hb⟩; have HS9 := Aside0.mk hs; clear hs hb)
                            first | (refine hK _ _ ?_) | skip
                            exact hR1 _ _ _ _ (S023 w9 HS9.out)
                          refine AllReady.cons rfl (fun K hK => ?_) ?_
                          · go_simp
                            refine hK _ _ ?_
                            exact hR1 _ _ _ _ S025
                          exact AllReady.nil
                        have S05 : R2 6 #[true, false, false, false, false, true, false, false] { tmps := #[Value.string s, undef, Value.pointer (some ⟨gt, 0, none⟩), Value.pointer (some ⟨ge, 0, none⟩), Value.pointer (some ⟨r, 0, none⟩), Value.bool true, Value.int .i64 (a : Int), Value.int .i64 (b2 : Int), Value.string s, Value.int .i64 (s.size : Int), Value.bool false, undef, Value.string s, Value.pointer (some ⟨r, 0, none⟩), Value.pointer (some ⟨r, 0, none⟩), Value.pointer (some ⟨r, 0, none⟩), Value.pointer (some ⟨r, 0, none⟩), Value.slice (some ⟨b, o, none⟩) nn cc, Value.pointer (some ⟨b, o, none⟩), Value.string hd0, Value.bool (!ts.isEmpty), Value.bool true, u22, u23, Value.pointer (some ⟨r, 0, none⟩), Value.int .i64 (a : Int), Value.pointer (some ⟨r, 0, none⟩), Value.bool true, Value.tuple #[], Value.pointer (some ⟨r, 0, none⟩), Value.int .i64 (b2 : Int), Value.pointer (some ⟨r, 0, none⟩), Value.bool true, Value.bool true, Value.int .i64 (a : Int), Value.int .i64 (b2 : Int), Value.pointer (some ⟨gt, a * 6, none⟩), Value.pointer (some ⟨gt, a * 6 + b2, none⟩), Value.int .i64 0, Value.bool true, Value.bool true, Value.tuple #[], Value.int .i64 (a : Int), u43, u44, u45, u46, Value.pointer (some ⟨gt, a * 6, none⟩), u48, undef, undef, undef, undef, undef, undef, undef, undef, undef], defers := [{ target := .fn (.func 24) #[], args := #[.pointer (some ⟨ge, 0, none⟩)] }] } w8b.drew := by
                          refine hR2 _ _ _ _ ?_
                          refine wpAny_ready (rs := [1, 2]) (by kernel_rfl) (by simp) ?_
                          refine AllReady.cons rfl (fun K hK => ?_) ?_
                          · go_simp
                            refine hK _ _ ?_
                            exact hR1 _ _ _ _ S015
                          refine AllReady.cons rfl (fun K hK => ?_) ?_
                          · go_simp
                            refine hK _ _ ?_
                            exact hR1 _ _ _ _ S025
                          exact AllReady.nil
                        have S12 : R2 6 #[false, true, true, false, false, false, false, false] { tmps := #[Value.string s, undef, Value.pointer (some ⟨gt, 0, none⟩), Value.pointer (some ⟨ge, 0, none⟩), Value.pointer (some ⟨r, 0, none⟩), Value.bool true, Value.int .i64 (a : Int), Value.int .i64 (b2 : Int), Value.string s, Value.int .i64 (s.size : Int), Value.bool false, undef, Value.string s, Value.pointer (some ⟨r, 0, none⟩), Value.pointer (some ⟨r, 0, none⟩), Value.pointer (some ⟨r, 0, none⟩), Value.pointer (some ⟨r, 0, none⟩), Value.slice (some ⟨b, o, none⟩) nn cc, Value.pointer (some ⟨b, o, none⟩), Value.string hd0, Value.bool (!ts.isEmpty), Value.bool true, u22, u23, Value.pointer (some ⟨r, 0, none⟩), Value.int .i64 (a : Int), Value.pointer (some ⟨r, 0, none⟩), Value.bool true, Value.tuple #[], Value.pointer (some ⟨r, 0, none⟩), Value.int .i64 (b2 : Int), Value.pointer (some ⟨r, 0, none⟩), Value.bool true, Value.bool true, Value.int .i64 (a : Int), Value.int .i64 (b2 : Int), Value.pointer (some ⟨gt, a * 6, none⟩), Value.pointer (some ⟨gt, a * 6 + b2, none⟩), Value.int .i64 0, Value.bool true, Value.bool true, Value.tuple #[], u42, Value.int .i64 (b2 : Int), Value.pointer (some ⟨r, 0, none⟩), u45, u46, u47, u48, undef, undef, undef, undef, undef, undef, undef, undef, undef], defers := [{ target := .fn (.func 24) #[], args := #[.pointer (some ⟨ge, 0, none⟩)] }] } w8b.drew := by
                          refine hR2 _ _ _ _ ?_
                          refine wpAny_ready (rs := [0, 3]) (by kernel_rfl) (by simp) ?_
                          refine AllReady.cons rfl (fun K hK => ?_) ?_
                          · go_simp
                            refine hK _ _ ?_
                            exact hR1 _ _ _ _ S012
                          refine AllReady.cons rfl (fun K hK => ?_) ?_
                          · go_simp
                            go_wp2_with (go_at_call 27; refine (CT3.out _ (HS8.out.below (below_drew1 (Below.refl _ _)))).mono ?_; rintro e w9 ⟨rfl, hs, hb⟩; have HS9 := Aside0.mk hs; clear hs hb)
                            first | (refine hK _ _ ?_) | skip
                            exact hR1 _ _ _ _ (S123 w9 HS9.out)
                          exact AllReady.nil
                        have S23 : ∀ w9 : World, RS V w9 r ts5 → R2 6 #[false, false, true, true, false, false, false, false] { tmps := #[Value.string s, undef, Value.pointer (some ⟨gt, 0, none⟩), Value.pointer (some ⟨ge, 0, none⟩), Value.pointer (some ⟨r, 0, none⟩), Value.bool true, Value.int .i64 (a : Int), Value.int .i64 (b2 : Int), Value.string s, Value.int .i64 (s.size : Int), Value.bool false, undef, Value.string s, Value.pointer (some ⟨r, 0, none⟩), Value.pointer (some ⟨r, 0, none⟩), Value.pointer (some ⟨r, 0, none⟩), Value.pointer (some ⟨r, 0, none⟩), Value.slice (some ⟨b, o, none⟩) nn cc, Value.pointer (some ⟨b, o, none⟩), Value.string hd0, Value.bool (!ts.isEmpty), Value.bool true, u22, u23, Value.pointer (some ⟨r, 0, none⟩), Value.int .i64 (a : Int), Value.pointer (some ⟨r, 0, none⟩), Value.bool true, Value.tuple #[], Value.pointer (some ⟨r, 0, none⟩), Value.int .i64 (b2 : Int), Value.pointer (some ⟨r, 0, none⟩), Value.bool true, Value.bool true, Value.int .i64 (a : Int), Value.int .i64 (b2 : Int), Value.pointer (some ⟨gt, a * 6, none⟩), Value.pointer (some ⟨gt, a * 6 + b2, none⟩), Value.int .i64 0, Value.bool true, Value.bool true, Value.tuple #[], u42, u43, Value.pointer (some ⟨r, 0, none⟩), Value.int .i64 (c : Int), u46, u47, u48, undef, undef, undef, undef, undef, undef, undef, undef, undef], defers := [{ target := .fn (.func 24) #[], args := #[.pointer (some ⟨ge, 0, none⟩)] }] } w9 := by
                          intro w9 hs9
                          refine hR2 _ _ _ _ ?_
                          refine wpAny_ready (rs := [0, 1, 4]) (by kernel_rfl) (by simp) ?_
                          refine AllReady.cons rfl (fun K hK => ?_) ?_
                          · go_simp
                            refine hK _ _ ?_
                            exact hR1 _ _ _ _ (S023 w9 hs9)
                          refine AllReady.cons rfl (fun K hK => ?_) ?_
                          · go_simp
                            refine hK _ _ ?_
                            exact hR1 _ _ _ _ (S123 w9 hs9)
                          refine AllReady.cons rfl (fun K hK => ?_) ?_
                          · go_simp
                            refine hK _ _ ?_
                            exact hR1 _ _ _ _ (S234 w9 hs9)
                          exact AllReady.nil
                        have S0 : R2 7 #[true, false, false, false, false, false, false, false] { tmps := #[Value.string s, undef, Value.pointer (some ⟨gt, 0, none⟩), Value.pointer (some ⟨ge, 0, none⟩), Value.pointer (some ⟨r, 0, none⟩), Value.bool true, Value.int .i64 (a : Int), Value.int .i64 (b2 : Int), Value.string s, Value.int .i64 (s.size : Int), Value.bool false, undef, Value.string s, Value.pointer (some ⟨r, 0, none⟩), Value.pointer (some ⟨r, 0, none⟩), Value.pointer (some ⟨r, 0, none⟩), Value.pointer (some ⟨r, 0, none⟩), Value.slice (some ⟨b, o, none⟩) nn cc, Value.pointer (some ⟨b, o, none⟩), Value.string hd0, Value.bool (!ts.isEmpty), Value.bool true, u22, u23, Value.pointer (some ⟨r, 0, none⟩), Value.int .i64 (a : Int), Value.pointer (some ⟨r, 0, none⟩), Value.bool true, Value.tuple #[], Value.pointer (some ⟨r, 0, none⟩), Value.int .i64 (b2 : Int), Value.pointer (some ⟨r, 0, none⟩), Value.bool true, Value.bool true, Value.int .i64 (a : Int), Value.int .i64 (b2 : Int), Value.pointer (some ⟨gt, a * 6, none⟩), Value.pointer (some ⟨gt, a * 6 + b2, none⟩), Value.int .i64 0, Value.bool true, Value.bool true, Value.tuple #[], Value.int .i64 (a : Int), u43, u44, u45, u46, u47, u48, undef, undef, undef, undef, undef, undef, undef, undef, undef], defers := [{ target := .fn (.func 24) #[], args := #[.pointer (some ⟨ge, 0, none⟩)] }] } w8b.drew := by
                          refine hR2 _ _ _ _ ?_
                          refine wpAny_ready (rs := [1, 2, 5]) (by kernel_rfl) (by simp) ?_
                          refine AllReady.cons rfl (fun K hK => ?_) ?_
                          · go_simp
                            refine hK _ _ ?_
                            exact hR1 _ _ _ _ S01
                          refine AllReady.cons rfl (fun K hK => ?_) ?_
                          · go_simp
                            refine hK _ _ ?_
                            exact hR1 _ _ _ _ S02
                          refine AllReady.cons rfl (fun K hK => ?_) ?_
                          · go_simp
                            refine hK _ _ ?_
                            exact hR1 _ _ _ _ S05
                          exact AllReady.nil
                        have S1 : R2 7 #[false, true, false, false, false, false, false, false] { tmps := #[Value.string s, undef, Value.pointer (some ⟨gt, 0, none⟩), Value.pointer (some ⟨ge, 0, none⟩), Value.pointer (some ⟨r, 0, none⟩), Value.bool true, Value.int .i64 (a : Int), Value.int .i64 (b2 : Int), Value.string s, Value.int .i64 (s.size : Int), Value.bool false, undef, Value.string s, Value.pointer (some ⟨r, 0, none⟩), Value.pointer (some ⟨r, 0, none⟩), Value.pointer (some ⟨r, 0, none⟩), Value.pointer (some ⟨r, 0, none⟩), Value.slice (some ⟨b, o, none⟩) nn cc, Value.pointer (some ⟨b, o, none⟩), Value.string hd0, Value.bool (!ts.isEmpty), Value.bool true, u22, u23, Value.pointer (some ⟨r, 0, none⟩), Value.int .i64 (a : Int), Value.pointer (some ⟨r, 0, none⟩), Value.bool true, Value.tuple #[], Value.pointer (some ⟨r, 0, none⟩), Value.int .i64 (b2 : Int), Value.pointer (some ⟨r, 0, none⟩), Value.bool true, Value.bool true, Value.int .i64 (a : Int), Value.int .i64 (b2 : Int), Value.pointer (some ⟨gt, a * 6, none⟩), Value.pointer (some ⟨gt, a * 6 + b2, none⟩), Value.int .i64 0, Value.bool true, Value.bool true, Value.tuple #[], u42, Value.int .i64 (b2 : Int), u44, u45, u46, u47, u48, undef, undef, undef, undef, undef, undef, undef, undef, undef], defers := [{ target := .fn (.func 24) #[], args := #[.pointer (some ⟨ge, 0, none⟩)] }] } w8b.drew := by
                          refine hR2 _ _ _ _ ?_
                          refine wpAny_ready (rs := [0, 2]) (by kernel_rfl) (by simp) ?_
                          refine AllReady.cons rfl (fun K hK => ?_) ?_
                          · go_simp
                            refine hK _ _ ?_
                            exact hR1 _ _ _ _ S01
                          refine AllReady.cons rfl (fun K hK => ?_) ?_
                          · go_simp
                            refine hK _ _ ?_
                            exact hR1 _ _ _ _ S12
                          exact AllReady.nil
                        have S2 : R2 7 #[false, false, true, false, false, false, false, false] { tmps := #[Value.string s, undef, Value.pointer (some ⟨gt, 0, none⟩), Value.pointer (some ⟨ge, 0, none⟩), Value.pointer (some ⟨r, 0, none⟩), Value.bool true, Value.int .i64 (a : Int), Value.int .i64 (b2 : Int), Value.string s, Value.int .i64 (s.size : Int), Value.bool false, undef, Value.string s, Value.pointer (some ⟨r, 0, none⟩), Value.pointer (some ⟨r, 0, none⟩), Value.pointer (some ⟨r, 0, none⟩), Value.pointer (some ⟨r, 0, none⟩), Value.slice (some ⟨b, o, none⟩) nn cc, Value.pointer (some ⟨b, o, none⟩), Value.string hd0, Value.bool (!ts.isEmpty), Value.bool true, u22, u23, Value.pointer (some ⟨r, 0, none⟩), Value.int .i64 (a : Int), Value.pointer (some ⟨r, 0, none⟩), Value.bool true, Value.tuple #[], Value.pointer (some ⟨r, 0, none⟩), Value.int .i64 (b2 : Int), Value.pointer (some ⟨r, 0, none⟩), Value.bool true, Value.bool true, Value.int .i64 (a : Int), Value.int .i64 (b2 : Int), Value.pointer (some ⟨gt, a * 6, none⟩), Value.pointer (some ⟨gt, a * 6 + b2, none⟩), Value.int .i64 0, Value.bool true, Value.bool true, Value.tuple #[], u42, u43, Value.pointer (some ⟨r, 0, none⟩), u45, u46, u47, u48, undef, undef, undef, undef, undef, undef, undef, undef, undef], defers := [{ target := .fn (.func 24) #[], args := #[.pointer (some ⟨ge, 0, none⟩)] }] } w8b.drew := by
                          refine hR2 _ _ _ _ ?_
                          refine wpAny_ready (rs := [0, 1, 3]) (by kernel_rfl) (by simp) ?_
                          refine AllReady.cons rfl (fun K hK => ?_) ?_
                          · go_simp
                            refine hK _ _ ?_
                            exact hR1 _ _ _ _ S02
                          refine AllReady.cons rfl (fun K hK => ?_) ?_
                          · go_simp
                            refine hK _ _ ?_
                            exact hR1 _ _ _ _ S12
                          refine AllReady.cons rfl (fun K hK => ?_) ?_
                          · go_simp
                            go_wp2_with (go_at_call 27; refine (CT3.out _ (HS8.out.below (below_drew1 (Below.refl _ _)))).mono ?_; rintro e w9 ⟨rfl, hs, hb⟩; have HS9 := Aside0.mk hs; clear hs hb)
                            first | (refine hK _ _ ?_) | skip
                            exact hR1 _ _ _ _ (S23 w9 HS9.out)
                          exact AllReady.nil
                        have Sx : R2 8 #[false, false, false, false, false, false, false, false] { tmps := #[Value.string s, undef, Value.pointer (some ⟨gt, 0, none⟩), Value.pointer (some ⟨ge, 0, none⟩), Value.pointer (some ⟨r, 0, none⟩), Value.bool true, Value.int .i64 (a : Int), Value.int .i64 (b2 : Int), Value.string s, Value.int .i64 (s.size : Int), Value.bool false, undef, Value.string s, Value.pointer (some ⟨r, 0, none⟩), Value.pointer (some ⟨r, 0, none⟩), Value.pointer (some ⟨r, 0, none⟩), Value.pointer (some ⟨r, 0, none⟩), Value.slice (some ⟨b, o, none⟩) nn cc, Value.pointer (some ⟨b, o, none⟩), Value.string hd0, Value.bool (!ts.isEmpty), Value.bool true, u22, u23, Value.pointer (some ⟨r, 0, none⟩), Value.int .i64 (a : Int), Value.pointer (some ⟨r, 0, none⟩), Value.bool true, Value.tuple #[], Value.pointer (some ⟨r, 0, none⟩), Value.int .i64 (b2 : Int), Value.pointer (some ⟨r, 0, none⟩), Value.bool true, Value.bool true, Value.int .i64 (a : Int), Value.int .i64 (b2 : Int), Value.pointer (some ⟨gt, a * 6, none⟩), Value.pointer (some ⟨gt, a * 6 + b2, none⟩), Value.int .i64 0, Value.bool true, Value.bool true, Value.tuple #[], u42, u43, u44, u45, u46, u47, u48, undef, undef, undef, undef, undef, undef, undef, undef, undef], defers := [{ target := .fn (.func 24) #[], args := #[.pointer (some ⟨ge, 0, none⟩)] }] } w8b.drew := by
                          refine hR2 _ _ _ _ ?_
                          refine wpAny_ready (rs := [0, 1, 2]) (by kernel_rfl) (by simp) ?_
                          refine AllReady.cons rfl (fun K hK => ?_) ?_
                          · go_simp
                            refine hK _ _ ?_
                            exact hR1 _ _ _ _ S0
                          refine AllReady.cons rfl (fun K hK => ?_) ?_
                          · go_simp
                            refine hK _ _ ?_
                            exact hR1 _ _ _ _ S1
                          refine AllReady.cons rfl (fun K hK => ?_) ?_
                          · go_simp
                            refine hK _ _ ?_
                            exact hR1 _ _ _ _ S2
                          exact AllReady.nil
                        exact Sx
                    · have hR : R = none := by rw [← HA4.out]; exact if_neg (fun h => v0 h.2)
                      have hd0 : decide (v = 0) = false := decide_eq_false v0
                      have hd1 : (v == 0) = false := beq_eq_false_iff_ne.2 v0
                      go_wp2_with (first | (go_at_call 26; refine (TK2.out _ HS7.out).mono ?_; rintro e w8 ⟨rfl, hs, hb⟩; have hqc := cellsI_at (blk_below HE.out.t hs.base) HIX.out; rw [← HV.out] at hqc; have HS8 := Aside0.mk hs; clear hs hb) | (go_at_call 28; refine (MF.out _).mono ?_; rintro e w8b ⟨rfl, rfl⟩))
                      rw [hR]
                      exact HPAN.out _ _ _ _ _ _ HE.out rfl rfl HS8.out.base
end Go.Proofs.YtnkggincckdoiaaDoor.Q
