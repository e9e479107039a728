import Derived.Test.YtnkggincckdoiaaDoorKr9
import Derived.Test.YtnkggincckdoiaaDoorKr15
import Derived.Test.YtnkggincckdoiaaDoorKr16
import Derived.Deep.Cut
import Derived.Deep.LoopGhost
import Derived.Tactics
import Derived.Tactics2
namespace Go.Proofs.YtnkggincckdoiaaDoor.Q
open Go.RowKit Go.Shelf Go.Proofs.YtnkggincckdoiaaDoorW.PrintWords Go.Proofs.YtnkggincckdoiaaDoorW.PrintLast Go.Proofs.YtnkggincckdoiaaDoorW.PrintMore
set_option linter.unusedVariables false
set_option linter.unusedSimpArgs false
def sCol : ByteArray := ⟨#[58]⟩
def sSem : ByteArray := ⟨#[59]⟩
theorem neCol : sCol ≠ ByteArray.empty := fun e => absurd (congrArg ByteArray.size e) (by decide)
theorem neSem : sSem ≠ ByteArray.empty := fun e => absurd (congrArg ByteArray.size e) (by decide)
/-- One rule behind the other: the category that is picked. -/
def pickT (x : Opr) : Nat → Int → List Bool → List ByteArray → Option (Int × List ByteArray)
  | 0, _, _, _ => none
  | k + 1, f, q, ts =>
    match catT ts with
    | none => none
    | some (c, ts1) =>
      if c ≠ 5 ∧ q.getD c.toNat false = false ∧ (takeT sCol ts1).1 = true then
        match condT x (takeT sCol ts1).2 with
        | none => none
        | some (h, ts2) =>
          if (takeT sSem ts2).1 = true then pickT x k (if h = true ∧ f = 5 then c else f) (q.set c.toNat true) (takeT sSem ts2).2
          else some (if h = true ∧ f = 5 then c else f, ts2)
      else none
/-- What a face answers behind its loop. -/
def finR : Option (Int × List ByteArray) → Int × Int
  | some (f, []) => (f, 0)
  | _ => (0, 90)
def noneB : List Bool := [false, false, false, false, false, false]
def pickL (x : Opr) (ts : List ByteArray) : Option (Int × List ByteArray) := if ts = [] then some (5, []) else pickT x (ts.length + 1) 5 noneB ts
/-- What picked answers. -/
def pickR (s : ByteArray) (x : Opr) : Int × Int :=
  if 1024 < s.size then (0, 91)
  else match toks (s.size + 1) s with
    | none => (0, 90)
    | some ts => finR (pickL x ts)
theorem results22 : Tryd.f22.results = #[.tmp 4, .cell 5 22] := by kernel_rfl
theorem res22 {tmps : Array Value} {w : World} {a b : Int} {ge : Nat} (h4 : tmps.getD 4 undef = .int .i64 a) (h5 : tmps.getD 5 undef = .pointer (some ⟨ge, 0, none⟩)) (hm : w.heap[ge]? = some (.cells #[.int .i64 b] 22 (0, 0))) :
    (results Tryd.f22 tmps).run Tryd.prog w = .ok (.tuple #[.int .i64 a, .int .i64 b]) w := by
  have c0 := (blk_cell hm 0).trans (rfl : _ = some (Value.int .i64 b))
  rw [Array.getD_eq_getD_getElem?] at h4 h5
  simp only [results, results22]
  go_simp
/-- It returns: the deferred call finds nothing. -/
theorem leave22 {tmps : Array Value} {w : World} {a b : Int} {ge : Nat} {R : Ending → World → Prop} (h4 : tmps.getD 4 undef = .int .i64 a) (h5 : tmps.getD 5 undef = .pointer (some ⟨ge, 0, none⟩)) (hm : w.heap[ge]? = some (.cells #[.int .i64 b] 22 (0, 0)))
    (hR : R (.returned (.tuple #[.int .i64 a, .int .i64 b])) (w.alloc (.cells #[] 71))) : Leaves Tryd.prog Tryd.f22 tmps R [{ target := .fn (.func 24) #[], args := #[.pointer (some ⟨ge, 0, none⟩)] }] .returning w := by
  refine leaves_cons (f := 24) (args := #[.pointer (some ⟨ge, 0, none⟩)]) (by simp) (by simp [go_sem]) ?_
  refine (caught_idle _ _).mono ?_
  rintro e u' w'' ⟨rfl, rfl, rfl⟩
  exact ⟨_, res22 h4 h5 (blk_alloc hm _), hR⟩
/-- It gave up: the deferred call says so. -/
theorem panic22 {tmps : Array Value} {w : World} {a b : Int} {ge : Nat} {R : Ending → World → Prop} (h4 : tmps.getD 4 undef = .int .i64 a) (h5 : tmps.getD 5 undef = .pointer (some ⟨ge, 0, none⟩)) (hm : w.heap[ge]? = some (.cells #[.int .i64 b] 22 (0, 0)))
    (hR : R (.returned (.tuple #[.int .i64 a, .int .i64 90])) ((w.alloc (.cells #[] 71)).setCell ⟨ge, 0, none⟩ (.int .i64 90))) : Leaves Tryd.prog Tryd.f22 tmps R [{ target := .fn (.func 24) #[], args := #[.pointer (some ⟨ge, 0, none⟩)] }] (.panicking wrongP) w := by
  refine leaves_cons (f := 24) (args := #[.pointer (some ⟨ge, 0, none⟩)]) (by simp) (by simp [go_sem]) ?_
  refine (caught_panicking ge b w hm).mono ?_
  rintro e u' w'' ⟨rfl, rfl, rfl⟩
  exact ⟨_, res22 h4 h5 (blk_put (blk_alloc hm _) 0 _ rfl), hR⟩
theorem RS.top {W0 w : World} {r : Nat} {ts : List ByteArray} (h : RS W0 w r ts) :
    ∃ (b o n c : Nat), w.cell? ⟨r, 0, none⟩ = some (.slice (some ⟨b, o, none⟩) n c) ∧ 1 ≤ n ∧ w.cell? ⟨b, o, none⟩ = some (.string (ts.headD ByteArray.empty)) ∧ (ts.headD ByteArray.empty).toList.isEmpty = ts.isEmpty := by
  obtain ⟨b, o, c, hbr, hc, hm, hx⟩ := h.mem
  refine ⟨b, o, ts.length + 1, c, (blk_cell hm 0).trans rfl, by omega, ?_, ?_⟩
  · have := hx 0 (Nat.zero_le _)
    cases ts <;> exact this
  · cases ts with
    | nil => rw [ByteArray.toList_eq]; rfl
    | cons t ts => exact ne_list (fun e => (h.ne t (List.mem_cons_self ..)).1 (byteArray_size_zero e))
/-- Cells of Bools. -/
def cellsB (q : List Bool) : Array Value := (q.map Value.bool).toArray
theorem RS.setq {W0 w : World} {r g c : Nat} {ts : List ByteArray} {q : List Bool} {v : Value} (h : RS W0 w r ts) (hq : w.heap[g]? = some (.cells (cellsB q) 69 (0, 0))) (hg : W0.heap.size ≤ g) : RS W0 (w.setCell ⟨g, c, none⟩ v) r ts := by
  obtain ⟨b, o, cc, hbr, hc, hm, hx⟩ := h.mem
  have n1 : r ≠ g := by rintro rfl; rw [hq] at hm; injection hm with hm; injection hm with _ hm; cases hm
  have n2 : b ≠ g := by
    rintro rfl
    have h0 := hx 0 (Nat.zero_le _)
    rw [Nat.add_zero] at h0
    have h1 := blk_cell hq o
    rw [h1] at h0
    simp only [cellsB, List.getElem?_toArray, List.getElem?_map] at h0
    obtain ⟨u, _, hu⟩ := Option.map_eq_some_iff.1 h0
    cases hu
  refine ⟨below_set h.base hg, h.hr, h.ne, h.len, b, o, cc, hbr, hc, (Below.heap_setCell w ⟨g, c, none⟩ v r n1).trans hm, fun j hj => ?_⟩
  exact (World.cell?_of_block (w := w) (Below.heap_setCell w ⟨g, c, none⟩ v b n2)).trans (hx j hj)
theorem rb_blk {w w' : World} {r g : Nat} {o : Obj} (h : w.heap[g]? = some o) (hb : Rb r w w') (hne : g ≠ r) : w'.heap[g]? = some o := (hb.block g (Array.getElem?_eq_some_iff.1 h).1 hne).trans h
theorem cond_some {W0 w : World} {r : Nat} {x : Opr} {ts ts' : List ByteArray} {v : Bool} (hG : Gd W0) (hx : OIn x) (h : RS W0 w r ts) (e : condT x ts = some (v, ts')) :
    Calls Tryd.prog 34 #[.pointer (some ⟨r, 0, none⟩), encO x] w fun e w' => e = .returned (.bool v) ∧ RS W0 w' r ts' ∧ Rb r w w' := by
  have := condition_in W0 w r x ts hG hx h
  rw [e] at this
  exact this
theorem cond_none {W0 w : World} {r : Nat} {x : Opr} {ts : List ByteArray} (hG : Gd W0) (hx : OIn x) (h : RS W0 w r ts) (e : condT x ts = none) :
    Calls Tryd.prog 34 #[.pointer (some ⟨r, 0, none⟩), encO x] w fun e w' => e = .panicked wrongP ∧ Below W0.heap.size W0 w' := by
  have := condition_in W0 w r x ts hG hx h
  rw [e] at this
  exact this
theorem cat_some {W0 w : World} {r : Nat} {ts ts' : List ByteArray} {v : Int} (h : RS W0 w r ts) (e : catT ts = some (v, ts')) :
    Calls Tryd.prog 27 #[.pointer (some ⟨r, 0, none⟩)] w fun e w' => e = .returned (.int .i64 v) ∧ RS W0 w' r ts' ∧ Rb r w w' := by
  have := category_in W0 w r ts h
  rw [e] at this
  exact this
theorem cat_none {W0 w : World} {r : Nat} {ts : List ByteArray} (h : RS W0 w r ts) (e : catT ts = none) :
    Calls Tryd.prog 27 #[.pointer (some ⟨r, 0, none⟩)] w fun e w' => e = .panicked wrongP ∧ Below W0.heap.size W0 w' := by
  have := category_in W0 w r ts h
  rw [e] at this
  exact this
theorem idx_lt (x : ByteArray) : ∀ (zs : List ByteArray) (i : Nat), Lib.idxFromS zs x i < (i : Int) + zs.length
  | [], i => by simp [Lib.idxFromS]; omega
  | z :: zs, i => by
    have := idx_lt x zs (i + 1)
    simp only [Lib.idxFromS, List.length_cons]
    split <;> omega
theorem or_len (x : Opr) : ∀ (k : Nat) (a b : Bool) (ts ts' : List ByteArray), orT x k a ts = some (b, ts') → ts'.length < ts.length
  | 0, _, _, _, _, h => by simp [orT] at h
  | k + 1, a, b, ts, ts', h => by
    simp only [orT] at h
    split at h
    · cases h
    · rename_i hh ts1 h1
      have l1 := and_len x _ _ _ _ _ h1
      have l2 := take_len sOr ts1
      split at h
      · have := or_len x _ _ _ _ _ h
        omega
      · injection h with h; injection h with _ h; subst h
        exact l1
theorem cat_nat {ts ts' : List ByteArray} {c : Int} (h : catT ts = some (c, ts')) : ∃ n : Nat, n < 6 ∧ c = (n : Int) ∧ ts'.length < ts.length := by
  unfold catT at h
  split at h
  · rename_i h0
    injection h with h
    injection h with h1 h2
    subst h1 h2
    refine ⟨(Lib.idxOfS words6 (ts.headD ByteArray.empty)).toNat, ?_, by rw [Int.toNat_of_nonneg h0], ?_⟩
    · have := idx_lt (ts.headD ByteArray.empty) words6 0 
      have h6 : words6.length = 6 := rfl
      unfold Lib.idxOfS at h0 ⊢
      omega
    · cases ts with
      | nil => exact absurd h0 (by decide)
      | cons t ts => simp
  · cases h
theorem cellsB_at {w : World} {g n : Nat} {q : List Bool} (h : w.heap[g]? = some (.cells (cellsB q) 69 (0, 0))) (hn : n < q.length) : w.cell? ⟨g, n, none⟩ = some (.bool (q.getD n false)) := by
  refine (blk_cell h n).trans ?_
  simp [cellsB, List.getD_eq_getElem?_getD, hn]
theorem cellsB_set (q : List Bool) (n : Nat) : (cellsB q).setIfInBounds n (.bool true) = cellsB (q.set n true) := by
  simp [cellsB, List.map_set]
theorem cond_len {x : Opr} {ts ts' : List ByteArray} {b : Bool} (h : condT x ts = some (b, ts')) : ts'.length < ts.length := or_len x _ _ _ _ _ h
theorem read_some {s : ByteArray} {ts : List ByteArray} (hs : s.size ≤ 1000000) (w : World) (e : toks (s.size + 1) s = some ts) :
    Calls Tryd.prog 25 #[.string s] w fun e w' => ∃ r, e = .returned (.pointer (some ⟨r, 0, none⟩)) ∧ RS w w' r ts := by
  have := read_in s hs w
  rw [e] at this
  exact this
theorem read_none {s : ByteArray} (hs : s.size ≤ 1000000) (w : World) (e : toks (s.size + 1) s = none) :
    Calls Tryd.prog 25 #[.string s] w fun e w' => e = .panicked wrongP ∧ Below w.heap.size w w' := by
  have := read_in s hs w
  rw [e] at this
  exact this
set_option maxHeartbeats 4000000 in
set_option maxRecDepth 100000 in
theorem picked_in (s : ByteArray) (x : Opr) (w : World) (hG : Gd w) (hx : OIn x) :
    Calls Tryd.prog 22 #[.string s, encO x] w fun e w' => e = .returned (.tuple #[.int .i64 (pickR s x).1, .int .i64 (pickR s x).2]) ∧ Below w.heap.size w w' := by
  have hu29 := Tryd.underlying29
  have hu60 := Tryd.underlying60
  have hu58 := Tryd.underlying58
  have hu69 := Tryd.underlying69
  obtain ⟨w1, hw1⟩ : ∃ w1, w1 = (w.alloc (Obj.cells #[.string x.i, .int .i64 x.v, .int .i64 x.w, .string x.f, .string x.t, .int .i64 x.e] 29)).alloc (Obj.cells #[.int .i64 0] 22) := ⟨_, rfl⟩
  have hb1 : Below w.heap.size w w1 := by rw [hw1]; exact below_alloc (below_alloc (Below.refl _ _) _) _
  have hm1 : w1.heap[w.heap.size]? = some (.cells #[.string x.i, .int .i64 x.v, .int .i64 x.w, .string x.f, .string x.t, .int .i64 x.e] 29 (0, 0)) := by rw [hw1]; exact blk_alloc (blk_new w _) _
  have he1 : w1.heap[w.heap.size + 1]? = some (.cells #[.int .i64 0] 22 (0, 0)) := by
    rw [hw1]
    have := blk_new (w.alloc (Obj.cells #[.string x.i, .int .i64 x.v, .int .i64 x.w, .string x.f, .string x.t, .int .i64 x.e] 29)) (Obj.cells #[.int .i64 0] 22)
    simpa using this
  have hG1 : Gd w1 := hG.below hb1
  have TK := Aside0.mk (fun (p : ByteArray) (hp : p ≠ ByteArray.empty) (r : Nat) (ts2 : List ByteArray) (w2 : World) (h : RS w1 w2 r ts2) => take_in w1 w2 r p ts2 hp h)
  have CS := Aside0.mk (fun (r : Nat) (w2 : World) (t1 t2 : List ByteArray) (v : Bool) (h : RS w1 w2 r t1) (e : condT x t1 = some (v, t2)) => cond_some hG1 hx h e)
  have CN := Aside0.mk (fun (r : Nat) (w2 : World) (t1 : List ByteArray) (h : RS w1 w2 r t1) (e : condT x t1 = none) => cond_none hG1 hx h e)
  have MF := Aside0.mk (fun w2 => must_in false w2)
  have MT := Aside0.mk (fun w2 => must_in true w2)
  unfold encO at CS CN ⊢
  have HW1 := Aside0.mk hw1
  have HB1 := Aside0.mk hb1
  have HM1 := Aside0.mk hm1
  have HE1 := Aside0.mk he1
  have ge0 : Aside0 (w.heap.size ≤ w.heap.size + 1) := ⟨Nat.le_succ _⟩
  clear hx hb1 hm1 he1 hG1 hw1 hG
  have PAN : ∀ (ge gx : Nat) (tmps : Array Value) (w' : World), ge = w.heap.size + 1 → tmps.getD 4 undef = .int .i64 0 → tmps.getD 5 undef = .pointer (some ⟨ge, 0, none⟩) → Below w1.heap.size w1 w' → Leaves Tryd.prog Tryd.f22 tmps (fun e w' => e = .returned (.tuple #[.int .i64 0, .int .i64 90]) ∧ Below w.heap.size w w') [{ target := .fn (.func 24) #[], args := #[.pointer (some ⟨ge, 0, none⟩)] }] (.panicking wrongP) w' := by
    rintro ge gx tmps w' rfl h4 h5 hb
    exact panic22 h4 h5 (blk_below HE1.out hb) ⟨rfl, below_set (below_alloc (HB1.out.trans (hb.mono HB1.out.size)) _) (Nat.le_succ _)⟩
  have HPAN := Aside0.mk PAN
  clear PAN
  by_cases hl : 1024 < s.size
  · have hd : decide ((s.size : Int) > 1024) = true := decide_eq_true (by omega)
    have e : pickR s x = (0, 91) := if_pos hl
    rw [e]
    go_enter_defers Tryd.func22, Tryd.ntmps22
    go_wp2
    refine ⟨_, res22 (ge := w.heap.size + 1) rfl rfl (b := 91) ?_, rfl, below_alloc (below_alloc (Below.refl _ _) _) _⟩
    have := blk_new (w.alloc (Obj.cells #[.string x.i, .int .i64 x.v, .int .i64 x.w, .string x.f, .string x.t, .int .i64 x.e] 29)) (Obj.cells #[.int .i64 91] 22)
    simpa using this
  · have hd : decide ((s.size : Int) > 1024) = false := decide_eq_false (by omega)
    have hgt : ¬ ((1024 : Int) < (s.size : Int)) := by omega
    have hsz : s.size ≤ 1000000 := by omega
    cases RT : toks (s.size + 1) s with
    | none =>
      have e : pickR s x = (0, 90) := by rw [pickR, if_neg hl, RT]
      have RN := Aside0.mk (fun w2 => read_none hsz w2 RT)
      rw [e]
      go_enter_defers Tryd.func22, Tryd.ntmps22
      go_upto_region 4 with (fail)
      rw [← HW1.out]
      go_wp2_with (go_at_call 25; refine (RN.out _).mono ?_; rintro e w2 ⟨rfl, hb⟩; have HB2 := Aside0.mk hb; clear hb)
      exact HPAN.out _ 0 _ _ rfl rfl rfl HB2.out
    | some ts =>
      have e : pickR s x = finR (pickL x ts) := by rw [pickR, if_neg hl, RT]
      have RN := Aside0.mk (fun w2 => read_some hsz w2 RT)
      rw [e]
      obtain ⟨R, hR⟩ : ∃ R, R = pickL x ts := ⟨_, rfl⟩
      rw [← hR]
      have HR := Aside0.mk hR
      clear hR RT e
      go_enter_defers Tryd.func22, Tryd.ntmps22
      go_upto_region 4 with (fail)
      rw [← HW1.out]
      obtain ⟨ge, hge⟩ : ∃ ge, ge = w.heap.size + 1 := ⟨_, rfl⟩
      obtain ⟨gx, hgx⟩ : ∃ gx, gx = w.heap.size := ⟨_, rfl⟩
      rw [← hge] at HE1
      rw [← hgx] at HM1
      rw [← hge, ← hgx]
      have HGE := Aside0.mk hge
      have HGX := Aside0.mk hgx
      clear hge hgx
      go_upto_region 6 with (go_at_call 25; refine (RN.out _).mono ?_; rintro e w2 ⟨r, rfl, hs⟩; have HS2 := Aside0.mk hs; clear hs)
      have hb3 := below_alloc (Below.refl w2.heap.size w2) (Obj.cells (cellsB noneB) 69)
      have hq3 := blk_new w2 (Obj.cells (cellsB noneB) 69)
      have hs3 := HS2.out.below hb3
      have HQR := Aside0.mk (show w2.heap.size ≠ r from Nat.ne_of_gt HS2.out.at_size)
      have HQW := Aside0.mk (show w1.heap.size ≤ w2.heap.size from HS2.out.base.size)
      obtain ⟨b, o, nn, cc, m0, h1n, x0, hemp⟩ := hs3.top
      have HS3 := Aside0.mk hs3
      have HQ3 := Aside0.mk hq3
      clear hb3 hs3 hq3
      go_upto_region 7 with (fail)
      rw [show w2.alloc (Obj.cells #[Value.bool false, Value.bool false, Value.bool false, Value.bool false, Value.bool false, Value.bool false] 69) = w2.alloc (Obj.cells (cellsB noneB) 69) from rfl]
      generalize w2.alloc (Obj.cells (cellsB noneB) 69) = w3 at HS3 HQ3 m0 x0 ⊢
      generalize w2.heap.size = gq at HQR HQW HQ3 ⊢
      generalize ts.headD ByteArray.empty = hd0 at x0 hemp
      go_wp2
      go_loopg [7, 9] (ts.length + 1) (fun kq v7 v9 wr => ∃ (f : Int) (more : Bool) (q : List Bool) (tsr : List ByteArray), v7 = .int .i64 f ∧ v9 = .bool more ∧ RS w1 wr r tsr ∧ wr.heap[gq]? = some (.cells (cellsB q) 69 (0, 0)) ∧ Aside0 (q.length = 6) ∧ Aside0 (more = true → tsr.length < kq) ∧ Aside0 ((if more = true then pickT x kq f q tsr else some (f, tsr)) = R))
      case atStart => exact ⟨5, !ts.isEmpty, noneB, ts, rfl, rfl, HS3.out, HQ3.out, ⟨rfl⟩, ⟨fun _ => Nat.lt_succ_self _⟩, ⟨by rw [HR.out]; cases ts <;> rfl⟩⟩
      case round =>
        obtain ⟨f, more, q, tsr, rfl, rfl, hs, hq, HQ6, HL, HA⟩ := hrel
        have HS4 := Aside0.mk hs
        have HQ4 := Aside0.mk hq
        clear hs hq HS3 HQ3 m0 x0 hemp HR HS2
        cases more with
        | false =>
          have HA2 : Aside0 (R = some (f, tsr)) := ⟨by have := HA.out; rw [if_neg (by decide)] at this; exact this.symm⟩
          clear HL HA
          obtain ⟨b1, o1, n1, c1, m1, h1n1, x1, hemp1⟩ := HS4.out.top
          generalize tsr.headD ByteArray.empty = hd1 at x1 hemp1
          have e0 := (blk_cell (blk_below HE1.out HS4.out.base) 0).trans (rfl : _ = some (Value.int .i64 0))
          have ef := blk_frozen (blk_below HE1.out HS4.out.base) 0
          cases tsr with
          | nil =>
            have hemp2 : hd1.toList.isEmpty = true := hemp1
            clear hemp1
            go_wp2_with (go_at_call 28; refine (MT.out _).mono ?_; rintro e w5 ⟨rfl, rfl⟩)
            rw [HA2.out]
            exact leave22 (ge := ge) (a := f) (b := 0) rfl rfl (blk_put (blk_below HE1.out HS4.out.base) 0 _ rfl) ⟨rfl, below_alloc (below_set (HB1.out.trans (HS4.out.base.mono HB1.out.size)) (by have := HGE.out; omega)) _⟩
          | cons t1 tl1 =>
            have hemp2 : hd1.toList.isEmpty = false := hemp1
            clear hemp1
            go_wp2_with (go_at_call 28; refine (MF.out _).mono ?_; rintro e w5 ⟨rfl, rfl⟩)
            rw [HA2.out]
            exact HPAN.out _ 0 _ _ HGE.out rfl rfl HS4.out.base
        | true =>
          have HA2 : Aside0 (pickT x gk f q tsr = R) := ⟨by have := HA.out; rw [if_pos rfl] at this; exact this⟩
          have hlt := HL.out rfl
          clear HA HL
          cases gk with
          | zero => omega
          | succ k1 =>
            have HLT := Aside0.mk hlt
            clear hlt
            cases HC : catT tsr with
            | none =>
              have hR : R = none := by rw [← HA2.out, pickT, HC]
              have CT := Aside0.mk (fun w2 (h : RS w1 w2 r tsr) => cat_none h HC)
              go_wp2_with (go_at_call 27; refine (CT.out _ HS4.out).mono ?_; rintro e w5 ⟨rfl, hb⟩; have HB5 := Aside0.mk hb; clear hb)
              rw [hR]
              exact HPAN.out _ 0 _ _ HGE.out rfl rfl HB5.out
            | some cp =>
              obtain ⟨c, ts1⟩ := cp
              obtain ⟨n, hn6, rfl, hlen⟩ := cat_nat HC
              have CT := Aside0.mk (fun w2 (h : RS w1 w2 r tsr) => cat_some h HC)
              obtain ⟨sn, hsn⟩ : ∃ sn, sn = q.getD n false := ⟨_, rfl⟩
              have hsc := cellsB_at HQ4.out (show n < q.length by rw [HQ6.out]; exact hn6)
              rw [← hsn] at hsc
              have HSN := Aside0.mk hsn
              have HLEN := Aside0.mk hlen
              clear hsn hlen hsc
              go_upto_region 11 with (go_at_call 27; refine (CT.out _ HS4.out).mono ?_; rintro e w5 ⟨rfl, hs, hb⟩; have HS5 := Aside0.mk hs; have HQ5 := Aside0.mk (rb_blk HQ4.out hb HQR.out); clear hs hb)
              have hsc := cellsB_at HQ5.out (show n < q.length by rw [HQ6.out]; exact hn6)
              rw [← HSN.out] at hsc
              have hn0 : (0 : Int) ≤ (n : Int) := Int.natCast_nonneg n
              have hn6i : (n : Int) < 6 := by omega
              by_cases n5 : n = 5
              · subst n5
                have hR : R = none := by rw [← HA2.out, pickT, HC]; exact if_neg (fun h => h.1 rfl)
                go_wp2_with (go_at_call 28; refine (MF.out _).mono ?_; rintro e w6 ⟨rfl, rfl⟩)
                rw [hR]
                exact HPAN.out _ 0 _ _ HGE.out rfl rfl HS5.out.base
              · have n5i : (n : Int) ≠ 5 := by omega
                have hd5 : decide ((n : Int) = 5) = false := decide_eq_false n5i
                have hb5 : ((n : Int) != 5) = true := bne_iff_ne.2 n5i
                cases sn with
                | true =>
                  have hR : R = none := by rw [← HA2.out, pickT, HC]; exact if_neg (fun h => absurd (h.2.1 : q.getD (n : Int).toNat false = false) (by rw [Int.toNat_natCast, ← HSN.out]; decide))
                  go_wp2_with (go_at_call 28; refine (MF.out _).mono ?_; rintro e w6 ⟨rfl, rfl⟩)
                  rw [hR]
                  exact HPAN.out _ 0 _ _ HGE.out rfl rfl HS5.out.base
                | false =>
                  have TK1 := Aside0.mk (fun w2 (h : RS w1 w2 r ts1) => TK.out sCol neCol r ts1 w2 h)
                  obtain ⟨tk, htk⟩ : ∃ tk, tk = (takeT sCol ts1).1 := ⟨_, rfl⟩
                  obtain ⟨ts2, hts2⟩ : ∃ ts2, ts2 = (takeT sCol ts1).2 := ⟨_, rfl⟩
                  rw [← htk, ← hts2] at TK1
                  have HTK := Aside0.mk htk
                  have HTS2 := Aside0.mk hts2
                  clear htk hts2
                  cases tk with
                  | false =>
                    have hR : R = none := by rw [← HA2.out, pickT, HC]; exact if_neg (fun h => absurd h.2.2 (by rw [← HTK.out]; decide))
                    go_wp2_with (first | (go_at_call 26; refine (TK1.out _ HS5.out).mono ?_; rintro e w6 ⟨rfl, hs, hb⟩; have HS6 := Aside0.mk hs; clear hs hb) | (go_at_call 28; refine (MF.out _).mono ?_; rintro e w6b ⟨rfl, rfl⟩))
                    rw [hR]
                    exact HPAN.out _ 0 _ _ HGE.out rfl rfl HS6.out.base
                  | true =>
                    have hif : (n : Int) ≠ 5 ∧ q.getD (n : Int).toNat false = false ∧ (takeT sCol ts1).1 = true := ⟨n5i, by rw [Int.toNat_natCast, ← HSN.out], HTK.out.symm⟩
                    go_upto_region 12 with (first | (go_at_call 26; refine (TK1.out _ HS5.out).mono ?_; rintro e w6 ⟨rfl, hs, hb⟩; have HS6 := Aside0.mk hs; have HQ6b := Aside0.mk (rb_blk HQ5.out hb HQR.out); clear hs hb) | (go_at_call 28; refine (MT.out _).mono ?_; rintro e w6b ⟨rfl, rfl⟩))
                    have hqf := blk_frozen HQ6b.out n
                    have hqc := cellsB_at HQ6b.out (show n < q.length by rw [HQ6.out]; exact hn6)
                    have HS7 := Aside0.mk (HS6.out.setq (c := n) (v := .bool true) HQ6b.out HQW.out)
                    have HQ7 := Aside0.mk (blk_put HQ6b.out n (.bool true) (cellsB_set q n))
                    clear hsc
                    go_upto_region 13 with (fail)
                    generalize w6b.setCell ⟨gq, n, none⟩ (.bool true) = w7 at HS7 HQ7 ⊢
                    have hmx := blk_below HM1.out HS7.out.base
                    have y0 := (blk_cell hmx 0).trans (rfl : _ = some (.string x.i : Value))
                    have y1 := (blk_cell hmx 1).trans (rfl : _ = some (.int .i64 x.v : Value))
                    have y2 := (blk_cell hmx 2).trans (rfl : _ = some (.int .i64 x.w : Value))
                    have y3 := (blk_cell hmx 3).trans (rfl : _ = some (.string x.f : Value))
                    have y4 := (blk_cell hmx 4).trans (rfl : _ = some (.string x.t : Value))
                    have y5 := (blk_cell hmx 5).trans (rfl : _ = some (.int .i64 x.e : Value))
                    clear hmx
                    have HX2 : ts2 = (takeT sCol ts1).2 := HTS2.out
                    cases HD : condT x ts2 with
                    | none =>
                      have hR : R = none := by rw [← HA2.out, pickT, HC]; simp only []; rw [if_pos hif, ← HX2, HD]
                      clear HX2
                      have CN1 := Aside0.mk (fun w2 (h : RS w1 w2 r ts2) => CN.out r w2 ts2 h HD)
                      go_wp2_with (go_at_call 34; refine (CN1.out _ HS7.out).mono ?_; rintro e w8 ⟨rfl, hb⟩; have HB8 := Aside0.mk hb; clear hb)
                      rw [hR]
                      exact HPAN.out _ 0 _ _ HGE.out rfl rfl HB8.out
                    | some hp =>
                      obtain ⟨h, ts3⟩ := hp
                      have CS1 := Aside0.mk (fun w2 (h1 : RS w1 w2 r ts2) => CS.out r w2 ts2 ts3 h h1 HD)
                      have HCL := Aside0.mk (cond_len HD)
                      obtain ⟨f2, hf2⟩ : ∃ f2, f2 = (if h = true ∧ f = 5 then (n : Int) else f) := ⟨_, rfl⟩
                      obtain ⟨tk, htk⟩ : ∃ tk, tk = (takeT sSem ts3).1 := ⟨_, rfl⟩
                      obtain ⟨ts4, hts4⟩ : ∃ ts4, ts4 = (takeT sSem ts3).2 := ⟨_, rfl⟩
                      have TK2 := Aside0.mk (fun w2 (h : RS w1 w2 r ts3) => TK.out sSem neSem r ts3 w2 h)
                      rw [← htk, ← hts4] at TK2
                      have hEQ : Aside0 ((if tk = true then pickT x k1 f2 (q.set n true) ts4 else some (f2, ts4)) = R) := ⟨by
                        rw [← HA2.out]
                        conv => rhs; rw [pickT, HC]
                        simp only []
                        rw [if_pos hif, ← HX2, HD]
                        simp only []
                        rw [← hf2, ← htk, ← hts4, Int.toNat_natCast]
                        cases tk with
                        | true => rfl
                        | false => rw [if_neg (by decide), if_neg (by decide), hts4, take_no htk.symm]⟩
                      have hLE : Aside0 (ts4.length < k1) := ⟨by have h1 := take_len sSem ts3; have h2 := HCL.out; have h3 := take_len sCol ts1; have h4 := HLEN.out; have h5 := HLT.out; rw [← hts4] at h1; rw [← HX2] at h3; omega⟩
                      have HF2 := Aside0.mk hf2
                      clear HX2 htk hts4 hf2 hif
                      cases h with
                      | false =>
                        go_wp2_with (first | (go_at_call 34; refine (CS1.out _ HS7.out).mono ?_; rintro e w8 ⟨rfl, hs, hb⟩; have HS8 := Aside0.mk hs; have HQ8 := Aside0.mk (rb_blk HQ7.out hb HQR.out); clear hs hb) | (go_at_call 26; refine (TK2.out _ HS8.out).mono ?_; rintro e w9 ⟨rfl, hs, hb⟩; have HS9 := Aside0.mk hs; have HQ9 := Aside0.mk (rb_blk HQ8.out hb HQR.out); clear hs hb))
                        go_roundg k1
                        case rel => exact ⟨f2, tk, q.set n true, ts4, by rw [HF2.out, if_neg (fun h => absurd h.1 (by decide))], rfl, HS9.out, HQ9.out, ⟨by rw [List.length_set]; exact HQ6.out⟩, ⟨fun _ => hLE.out⟩, hEQ⟩
                        case measure => exact Nat.lt_succ_self _
                      | true =>
                        by_cases f5 : f = 5
                        · subst f5
                          go_wp2_with (first | (go_at_call 34; refine (CS1.out _ HS7.out).mono ?_; rintro e w8 ⟨rfl, hs, hb⟩; have HS8 := Aside0.mk hs; have HQ8 := Aside0.mk (rb_blk HQ7.out hb HQR.out); clear hs hb) | (go_at_call 26; refine (TK2.out _ HS8.out).mono ?_; rintro e w9 ⟨rfl, hs, hb⟩; have HS9 := Aside0.mk hs; have HQ9 := Aside0.mk (rb_blk HQ8.out hb HQR.out); clear hs hb))
                          go_roundg k1
                          case rel => exact ⟨f2, tk, q.set n true, ts4, by rw [HF2.out, if_pos (by simp)], rfl, HS9.out, HQ9.out, ⟨by rw [List.length_set]; exact HQ6.out⟩, ⟨fun _ => hLE.out⟩, hEQ⟩
                          case measure => exact Nat.lt_succ_self _
                        · have hf5 : decide (f = 5) = false := decide_eq_false f5
                          have hg5 : (f == 5) = false := beq_eq_false_iff_ne.2 f5
                          go_wp2_with (first | (go_at_call 34; refine (CS1.out _ HS7.out).mono ?_; rintro e w8 ⟨rfl, hs, hb⟩; have HS8 := Aside0.mk hs; have HQ8 := Aside0.mk (rb_blk HQ7.out hb HQR.out); clear hs hb) | (go_at_call 26; refine (TK2.out _ HS8.out).mono ?_; rintro e w9 ⟨rfl, hs, hb⟩; have HS9 := Aside0.mk hs; have HQ9 := Aside0.mk (rb_blk HQ8.out hb HQR.out); clear hs hb))
                          go_roundg k1
                          case rel => exact ⟨f2, tk, q.set n true, ts4, by rw [HF2.out, if_neg (fun h => f5 h.2)], rfl, HS9.out, HQ9.out, ⟨by rw [List.length_set]; exact HQ6.out⟩, ⟨fun _ => hLE.out⟩, hEQ⟩
                          case measure => exact Nat.lt_succ_self _
end Go.Proofs.YtnkggincckdoiaaDoor.Q
