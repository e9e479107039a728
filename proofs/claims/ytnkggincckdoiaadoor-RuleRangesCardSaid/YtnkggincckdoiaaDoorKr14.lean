import Derived.Test.YtnkggincckdoiaaDoorKr11
import Derived.Test.YtnkggincckdoiaaDoorKr13
import Derived.Test.YtnkggincckdoiaaDoorKr7
import Derived.RangeFuncCalls
import Derived.Shelf.Abstract
import Derived.Shelf.RegionOpen
import Derived.OwnWalkIn
import Derived.TacticsInMore
import Derived.LoopNIn
import Derived.LoopIn
import Derived.Sort.CutIn
import Derived.Lib.ItoaLen
import Derived.Sort.LoopGhostIn
namespace Go.Proofs.YtnkggincckdoiaaDoor.Q
open Go.RowKit Go.Shelf Go.Proofs.YtnkggincckdoiaaDoorW.PrintWords Go.Proofs.YtnkggincckdoiaaDoorW.PrintLast Go.Proofs.YtnkggincckdoiaaDoorW.PrintMore
set_option linter.unusedVariables false
set_option linter.unusedSimpArgs false
theorem number_some {W0 w : World} {r : Nat} {ts ts' : List ByteArray} {v : Int} (hG : Gd W0) (h : RS W0 w r ts) (e : numT ts = some (v, ts')) :
    Calls Tryd.prog 54 #[.pointer (some ⟨r, 0, none⟩)] w fun e w' => e = .returned (.int .i64 v) ∧ RS W0 w' r ts' ∧ Rb r w w' := by
  have := number_in W0 w r ts hG h
  rw [e] at this
  exact this
theorem number_none {W0 w : World} {r : Nat} {ts : List ByteArray} (hG : Gd W0) (h : RS W0 w r ts) (e : numT ts = none) :
    Calls Tryd.prog 54 #[.pointer (some ⟨r, 0, none⟩)] w fun e w' => e = .panicked wrongP ∧ Below W0.heap.size W0 w' := by
  have := number_in W0 w r ts hG h
  rw [e] at this
  exact this
theorem RS.at_size {W0 w : World} {r : Nat} {ts : List ByteArray} (h : RS W0 w r ts) : r < w.heap.size := by
  obtain ⟨_, _, _, _, _, h3, _⟩ := h.mem; exact (Array.getElem?_eq_some_iff.1 h3).1
def sPct : ByteArray := ⟨#[37]⟩
def sNe : ByteArray := ⟨#[33, 61]⟩
def sEq : ByteArray := ⟨#[61]⟩
def sDd : ByteArray := ⟨#[46, 46]⟩
def sCom : ByteArray := ⟨#[44]⟩
theorem nePct : sPct ≠ ByteArray.empty := fun e => absurd (congrArg ByteArray.size e) (by decide)
theorem neNe : sNe ≠ ByteArray.empty := fun e => absurd (congrArg ByteArray.size e) (by decide)
theorem neEq : sEq ≠ ByteArray.empty := fun e => absurd (congrArg ByteArray.size e) (by decide)
theorem neDd : sDd ≠ ByteArray.empty := fun e => absurd (congrArg ByteArray.size e) (by decide)
theorem neCom : sCom ≠ ByteArray.empty := fun e => absurd (congrArg ByteArray.size e) (by decide)
theorem take_no {p : ByteArray} {ts : List ByteArray} (h : (takeT p ts).1 = false) : (takeT p ts).2 = ts := by
  unfold takeT at h ⊢
  split
  · rename_i e; rw [if_pos e] at h; cases h
  · rfl
/-- A divisor, if there is one. -/
def modT (ts : List ByteArray) : Option (Int × List ByteArray) :=
  if (takeT sPct ts).1 = true then
    match numT (takeT sPct ts).2 with
    | some (m, ts') => if 0 < m then some (m, ts') else none
    | none => none
  else some (0, ts)
def notT (ts : List ByteArray) : Option (Bool × List ByteArray) :=
  if (takeT sNe ts).1 = true then some (true, (takeT sNe ts).2)
  else if (takeT sEq ts).1 = true then some (false, (takeT sEq ts).2) else none
def highT (lo : Int) (ts : List ByteArray) : Option (Int × List ByteArray) := if (takeT sDd ts).1 = true then numT (takeT sDd ts).2 else some (lo, ts)
/-- Ranges: is n in one of them? -/
def rangesT : Nat → Int → Bool → List ByteArray → Option (Bool × List ByteArray)
  | 0, _, _, _ => none
  | k + 1, n, b, ts =>
    match numT ts with
    | none => none
    | some (lo, ts1) =>
      match highT lo ts1 with
      | none => none
      | some (hi, ts2) =>
        if lo ≤ hi then
          if (takeT sCom ts2).1 = true then rangesT k n (b || (decide (lo ≤ n) && decide (n ≤ hi))) (takeT sCom ts2).2 else some (b || (decide (lo ≤ n) && decide (n ≤ hi)), ts2)
        else none
/-- A relation: does it hold? -/
def relT (x : Opr) (ts : List ByteArray) : Option (Bool × List ByteArray) :=
  match valT x (ts.headD ByteArray.empty) with
  | none => none
  | some (d, br) =>
    match modT ts.tail with
    | none => none
    | some (m, ts2) =>
      match notT ts2 with
      | none => none
      | some (nt, ts3) =>
        match rangesT (ts3.length + 1) (restB d m) false ts3 with
        | none => none
        | some (b, ts4) => some ((b && !br) != nt, ts4)
theorem take_len (p : ByteArray) (ts : List ByteArray) : (takeT p ts).2.length ≤ ts.length := by
  unfold takeT
  split
  · show ts.tail.length ≤ _; rw [List.length_tail]; omega
  · exact Nat.le_refl _
theorem num_len {ts ts' : List ByteArray} {v : Int} (h : numT ts = some (v, ts')) : ts'.length < ts.length := by
  cases ts with
  | nil =>
    rw [show numT [] = none by kernel_rfl] at h
    cases h
  | cons t ts =>
    unfold numT at h
    split at h
    · split at h
      · injection h with h; injection h with _ h; subst h; exact Nat.lt_succ_self _
      · cases h
    · cases h
theorem high_len {lo hi : Int} {ts ts' : List ByteArray} (h : highT lo ts = some (hi, ts')) : ts'.length ≤ ts.length := by
  unfold highT at h
  split at h
  · exact Nat.le_trans (Nat.le_of_lt (num_len h)) (take_len _ _)
  · injection h with h; injection h with _ h; subst h; exact Nat.le_refl _
theorem itoa_len (n : Int) (h : i64 n) : (mkS (Lib.itoa n)).size ≤ 140737488355328 := by
  have := Lib.itoa_length_le n h.1 h.2
  show (Lib.itoa n).toArray.size ≤ _
  rw [List.size_toArray]
  omega
theorem val_size {x : Opr} {p d : ByteArray} {br : Bool} (hx : OIn x) (h : valT x p = some (d, br)) : d.size ≤ 140737488355328 := by
  unfold valT at h
  repeat' split at h
  all_goals (first | (injection h with h; injection h with h1 h2; subst h1; first | exact hx.i1 | exact hx.f1 | exact hx.t1 | exact itoa_len _ hx.v | exact itoa_len _ hx.w | exact itoa_len _ hx.e) | cases h)
set_option maxHeartbeats 4000000 in
set_option maxRecDepth 100000 in
theorem relation_in (W0 w : World) (r : Nat) (x : Opr) (ts : List ByteArray) (hG : Gd W0) (hx : OIn x) (h : RS W0 w r ts) :
    Calls Tryd.prog 44 #[.pointer (some ⟨r, 0, none⟩), encO x] w fun e w' => PostR W0 w r ((relT x ts).map fun y => (.bool y.1, y.2)) e w' := by
  have hu29 := Tryd.underlying29
  have hmx : Tryd.prog.follows .mixedOrders = true := by kernel_rfl
  have HX := Aside0.mk hx
  have HGD := Aside0.mk hG
  have HW0 := Aside0.mk h.base
  have NX := Aside0.mk (fun (w2 : World) (h2 : RS W0 w2 r ts) => next_in W0 w2 r ts h2)
  have VX := Aside0.mk (fun (w2 : World) (h2 : Below W0.heap.size W0 w2) => value_in x (ts.headD ByteArray.empty) w2 (hG.below h2) hx)
  unfold encO at VX ⊢
  have hb1 := below_alloc (Below.refl w.heap.size w) (Obj.cells #[.string x.i, .int .i64 x.v, .int .i64 x.w, .string x.f, .string x.t, .int .i64 x.e] 29)
  have hm := blk_new w (Obj.cells #[.string x.i, .int .i64 x.v, .int .i64 x.w, .string x.f, .string x.t, .int .i64 x.e] 29)
  have hr := h.at_size
  obtain ⟨w1, hw1⟩ : ∃ w1, w1 = w.alloc (Obj.cells #[.string x.i, .int .i64 x.v, .int .i64 x.w, .string x.f, .string x.t, .int .i64 x.e] 29) := ⟨_, rfl⟩
  rw [← hw1] at hb1 hm
  have H := Aside0.mk h
  have H1 := Aside0.mk (h.below hb1)
  have HB1 := Aside0.mk hb1
  have HW1 := Aside0.mk hw1
  obtain ⟨b, hbe⟩ : ∃ b, b = w.heap.size := ⟨_, rfl⟩
  rw [← hbe] at hm
  have hbr : b ≠ r := by omega
  have HM := Aside0.mk hm
  have HBE := Aside0.mk hbe
  clear hG hx h hb1 hm hr hw1 hbe
  have HRT : Aside0 (relT x ts = (match valT x (ts.headD ByteArray.empty) with
      | none => none
      | some (d, br) =>
        match modT ts.tail with
        | none => none
        | some (m, ts2) =>
          match notT ts2 with
          | none => none
          | some (nt, ts3) =>
            match rangesT (ts3.length + 1) (restB d m) false ts3 with
            | none => none
            | some (b, ts4) => some ((b && !br) != nt, ts4))) := ⟨rfl⟩
  generalize ts.headD ByteArray.empty = p at NX VX HRT
  refine (callsIn_wide (n := 1)).1 ?_
  refine callsIn_of_wp Tryd.func44 rfl trivial ?_ rfl
  simp only [Tryd.ntmps44, List.size_toArray, List.length_cons, List.length_nil, Nat.reduceAdd, Nat.reduceSub, Array.replicate_succ, Array.replicate_zero, List.push_toArray, List.append_toArray, List.nil_append, List.cons_append]
  gi_upto_region 1 with (fail)
  rw [← HW1.out, ← HBE.out]
  have m0 := (blk_cell HM.out 0).trans (rfl : _ = some (Value.string x.i))
  have m1 := (blk_cell HM.out 1).trans (rfl : _ = some (Value.int .i64 x.v))
  have m2 := (blk_cell HM.out 2).trans (rfl : _ = some (Value.int .i64 x.w))
  have m3 := (blk_cell HM.out 3).trans (rfl : _ = some (Value.string x.f))
  have m4 := (blk_cell HM.out 4).trans (rfl : _ = some (Value.string x.t))
  have m5 := (blk_cell HM.out 5).trans (rfl : _ = some (Value.int .i64 x.e))
  rename_i K1 hK1
  -- the first region
  have hmx : Tryd.prog.follows .mixedOrders = true := by kernel_rfl
  cases hv : valT x p with
  | none =>
    simp only [hv] at VX
    clear hK1
    refine wpIn_region_any hmx ?_
    refine RX.any_step [0, 2] (by kernel_rfl) (by simp) ?_
    intro i hi
    simp only [List.mem_cons, List.not_mem_nil, or_false] at hi
    rcases hi with rfl | rfl
    · refine RX.op_hide (fun K hK => ?_)
      unfold wpOpIn
      go_simp
      refine hK _ _ ?_
      clear hK K
      refine RX.any_step [1, 2] (by kernel_rfl) (by simp) ?_
      intro i hi
      simp only [List.mem_cons, List.not_mem_nil, or_false] at hi
      rcases hi with rfl | rfl
      · refine RX.op_hide (fun K hK => ?_)
        unfold wpOpIn
        go_simp
        refine ⟨trivial, ?_⟩
        gi_at_call 36
        refine (callsIn_wide.2 (NX.out _ (H1.out.below (below_drew1 (Below.refl _ _))))).mono ?_
        rintro e w2 ⟨rfl, hs, hb⟩
        have hm2 := (hb.block b (by simpa using blk_lt HM.out) hbr).trans HM.out
        have n0 := (blk_cell hm2 0).trans (rfl : _ = some (Value.string x.i))
        have n1 := (blk_cell hm2 1).trans (rfl : _ = some (Value.int .i64 x.v))
        have n2 := (blk_cell hm2 2).trans (rfl : _ = some (Value.int .i64 x.w))
        have n3 := (blk_cell hm2 3).trans (rfl : _ = some (Value.string x.f))
        have n4 := (blk_cell hm2 4).trans (rfl : _ = some (Value.string x.t))
        have n5 := (blk_cell hm2 5).trans (rfl : _ = some (Value.int .i64 x.e))
        have HS := Aside0.mk hs
        have HB := Aside0.mk ((Rb.of_below (below_drew1 HB1.out)).trans hb)
        clear hs hb hm2
        refine hK _ _ ?_
        clear hK K
        refine RX.any_step [2] (by kernel_rfl) (by simp) ?_
        intro i hi
        simp only [List.mem_cons, List.not_mem_nil, or_false] at hi
        subst hi
        refine RX.op_hide (fun K hK => ?_)
        unfold wpOpIn
        go_simp
        refine hK _ _ ?_
        clear hK K
        refine RX.any_step [3] (by kernel_rfl) (by simp) ?_
        intro i hi
        simp only [List.mem_cons, List.not_mem_nil, or_false] at hi
        subst hi
        refine RX.op_hide (fun K hK => ?_)
        unfold wpOpIn
        go_simp
        refine ⟨trivial, ?_⟩
        gi_at_call 53
        refine (callsIn_wide.2 (VX.out _ HS.out.base)).mono ?_
        rintro e w3 ⟨hb, rfl⟩
        have HS3 := Aside0.mk (HS.out.below hb)
        have HB3 := Aside0.mk (HB.out.trans (Rb.of_below hb))
        clear hb
        refine ⟨rfl, ?_⟩
        simp only [HRT.out, hv]
        exact ⟨rfl, HB3.out.base H1.out.hr H.out.base⟩
      · refine RX.op_hide (fun K hK => ?_)
        unfold wpOpIn
        go_simp
        refine hK _ _ ?_
        clear hK K
        refine RX.any_step [1] (by kernel_rfl) (by simp) ?_
        intro i hi
        simp only [List.mem_cons, List.not_mem_nil, or_false] at hi
        subst hi
        refine RX.op_hide (fun K hK => ?_)
        unfold wpOpIn
        go_simp
        refine ⟨trivial, ?_⟩
        gi_at_call 36
        refine (callsIn_wide.2 (NX.out _ (H1.out.below (below_drew1 (Below.refl _ _))))).mono ?_
        rintro e w2 ⟨rfl, hs, hb⟩
        have hm2 := (hb.block b (by simpa using blk_lt HM.out) hbr).trans HM.out
        have n0 := (blk_cell hm2 0).trans (rfl : _ = some (Value.string x.i))
        have n1 := (blk_cell hm2 1).trans (rfl : _ = some (Value.int .i64 x.v))
        have n2 := (blk_cell hm2 2).trans (rfl : _ = some (Value.int .i64 x.w))
        have n3 := (blk_cell hm2 3).trans (rfl : _ = some (Value.string x.f))
        have n4 := (blk_cell hm2 4).trans (rfl : _ = some (Value.string x.t))
        have n5 := (blk_cell hm2 5).trans (rfl : _ = some (Value.int .i64 x.e))
        have HS := Aside0.mk hs
        have HB := Aside0.mk ((Rb.of_below (below_drew1 HB1.out)).trans hb)
        clear hs hb hm2
        refine hK _ _ ?_
        clear hK K
        refine RX.any_step [3] (by kernel_rfl) (by simp) ?_
        intro i hi
        simp only [List.mem_cons, List.not_mem_nil, or_false] at hi
        subst hi
        refine RX.op_hide (fun K hK => ?_)
        unfold wpOpIn
        go_simp
        refine ⟨trivial, ?_⟩
        gi_at_call 53
        refine (callsIn_wide.2 (VX.out _ HS.out.base)).mono ?_
        rintro e w3 ⟨hb, rfl⟩
        have HS3 := Aside0.mk (HS.out.below hb)
        have HB3 := Aside0.mk (HB.out.trans (Rb.of_below hb))
        clear hb
        refine ⟨rfl, ?_⟩
        simp only [HRT.out, hv]
        exact ⟨rfl, HB3.out.base H1.out.hr H.out.base⟩
    · refine RX.op_hide (fun K hK => ?_)
      unfold wpOpIn
      go_simp
      refine hK _ _ ?_
      clear hK K
      refine RX.any_step [0] (by kernel_rfl) (by simp) ?_
      intro i hi
      simp only [List.mem_cons, List.not_mem_nil, or_false] at hi
      subst hi
      refine RX.op_hide (fun K hK => ?_)
      unfold wpOpIn
      go_simp
      refine hK _ _ ?_
      clear hK K
      refine RX.any_step [1] (by kernel_rfl) (by simp) ?_
      intro i hi
      simp only [List.mem_cons, List.not_mem_nil, or_false] at hi
      subst hi
      refine RX.op_hide (fun K hK => ?_)
      unfold wpOpIn
      go_simp
      refine ⟨trivial, ?_⟩
      gi_at_call 36
      refine (callsIn_wide.2 (NX.out _ (H1.out.below (below_drew1 (Below.refl _ _))))).mono ?_
      rintro e w2 ⟨rfl, hs, hb⟩
      have hm2 := (hb.block b (by simpa using blk_lt HM.out) hbr).trans HM.out
      have n0 := (blk_cell hm2 0).trans (rfl : _ = some (Value.string x.i))
      have n1 := (blk_cell hm2 1).trans (rfl : _ = some (Value.int .i64 x.v))
      have n2 := (blk_cell hm2 2).trans (rfl : _ = some (Value.int .i64 x.w))
      have n3 := (blk_cell hm2 3).trans (rfl : _ = some (Value.string x.f))
      have n4 := (blk_cell hm2 4).trans (rfl : _ = some (Value.string x.t))
      have n5 := (blk_cell hm2 5).trans (rfl : _ = some (Value.int .i64 x.e))
      have HS := Aside0.mk hs
      have HB := Aside0.mk ((Rb.of_below (below_drew1 HB1.out)).trans hb)
      clear hs hb hm2
      refine hK _ _ ?_
      clear hK K
      refine RX.any_step [3] (by kernel_rfl) (by simp) ?_
      intro i hi
      simp only [List.mem_cons, List.not_mem_nil, or_false] at hi
      subst hi
      refine RX.op_hide (fun K hK => ?_)
      unfold wpOpIn
      go_simp
      refine ⟨trivial, ?_⟩
      gi_at_call 53
      refine (callsIn_wide.2 (VX.out _ HS.out.base)).mono ?_
      rintro e w3 ⟨hb, rfl⟩
      have HS3 := Aside0.mk (HS.out.below hb)
      have HB3 := Aside0.mk (HB.out.trans (Rb.of_below hb))
      clear hb
      refine ⟨rfl, ?_⟩
      simp only [HRT.out, hv]
      exact ⟨rfl, HB3.out.base H1.out.hr H.out.base⟩
  | some db =>
    obtain ⟨d, br⟩ := db
    simp only [hv] at VX
    have HV := Aside0.mk hv
    have HD := Aside0.mk (val_size HX.out hv)
    clear hv
    have KK1 : ∀ w3, RS W0 w3 r ts.tail → Rb r w w3 → K1 { tmps := #[Value.pointer (some ⟨r, 0, none⟩), Value.agg #[Value.string x.i, Value.int .i64 x.v, Value.int .i64 x.w, Value.string x.f, Value.string x.t, Value.int .i64 x.e], undef, Value.pointer (some ⟨b, 0, none⟩), Value.bool false, Value.string d, Value.bool br, undef, undef, undef, undef, undef, undef, undef, Value.tuple #[Value.string d, Value.bool br], Value.pointer (some ⟨r, 0, none⟩), Value.string p, Value.agg #[Value.string x.i, Value.int .i64 x.v, Value.int .i64 x.w, Value.string x.f, Value.string x.t, Value.int .i64 x.e], Value.tuple #[Value.string d, Value.bool br], Value.string d, Value.bool br, undef, undef, undef, undef, undef, undef, undef, undef, undef, undef, undef, undef, undef, undef, undef, undef, undef, undef, undef, undef, undef, undef, undef, undef, undef, undef, undef, undef, undef, undef, undef, undef, undef, undef, undef, undef, undef, undef, undef, undef, undef, undef, undef, undef, undef, undef, undef, undef, undef, undef], defers := [] } w3 := by
      intro w3 hs hb
      have HS3 := Aside0.mk hs
      have HB3 := Aside0.mk hb
      refine hK1 _ _ ?_
      clear hK1 NX VX m0 m1 m2 m3 m4 m5 hs hb
      have TK := Aside0.mk (fun (p : ByteArray) (hp : p ≠ ByteArray.empty) (ts2 : List ByteArray) (w2 : World) (h : RS W0 w2 r ts2) => take_in W0 w2 r p ts2 hp h)
      have HRR := Aside0.mk H1.out.hr
      gi_upto_region 3 with (fail)
      rename_i Kr hKr Kc hKc
      have KKr : ∀ (m : Int) (ts2 : List ByteArray) (w2 : World) (u22 u23 u24 u25 u26 u27 : Value), modT ts.tail = some (m, ts2) → RS W0 w2 r ts2 → Rb r w w2 → Kr { tmps := #[Value.pointer (some ⟨r, 0, none⟩), Value.agg #[Value.string x.i, Value.int .i64 x.v, Value.int .i64 x.w, Value.string x.f, Value.string x.t, Value.int .i64 x.e], undef, Value.pointer (some ⟨b, 0, none⟩), Value.bool false, Value.string d, Value.bool br, Value.int .i64 m, undef, undef, undef, undef, undef, undef, Value.tuple #[Value.string d, Value.bool br], Value.pointer (some ⟨r, 0, none⟩), Value.string p, Value.agg #[Value.string x.i, Value.int .i64 x.v, Value.int .i64 x.w, Value.string x.f, Value.string x.t, Value.int .i64 x.e], Value.tuple #[Value.string d, Value.bool br], Value.string d, Value.bool br, Value.pointer (some ⟨r, 0, none⟩), u22, u23, u24, u25, u26, u27, undef, undef, undef, undef, undef, undef, undef, undef, undef, undef, undef, undef, undef, undef, undef, undef, undef, undef, undef, undef, undef, undef, undef, undef, undef, undef, undef, undef, undef, undef, undef, undef, undef, undef, undef, undef, undef, undef, undef, undef, undef, undef, undef], defers := [] } w2 := by
        intro m ts2 w4 u22 u23 u24 u25 u26 u27 hm hs hb
        have HM1 := Aside0.mk hm
        have HS4 := Aside0.mk hs
        have HB4 := Aside0.mk hb
        refine hKr _ _ ?_
        clear hKr hm hs hb hKc Kc
        gi_upto_region 7 with (refine ⟨trivial, ?_⟩; gi_at_call 26; refine (callsIn_wide.2 (TK.out sNe neNe _ _ HS4.out)).mono ?_; rintro e w5 ⟨rfl, hs, hb⟩; have HS5 := Aside0.mk hs; have HB5 := Aside0.mk (HB4.out.trans hb); clear hs hb)
        rename_i K7 hK7
        have KK7 : ∀ (nt : Bool) (ts3 : List ByteArray) (w6 : World) (u32 u33 : Value), notT ts2 = some (nt, ts3) → RS W0 w6 r ts3 → Rb r w w6 → K7 { tmps := #[Value.pointer (some ⟨r, 0, none⟩), Value.agg #[Value.string x.i, Value.int .i64 x.v, Value.int .i64 x.w, Value.string x.f, Value.string x.t, Value.int .i64 x.e], undef, Value.pointer (some ⟨b, 0, none⟩), Value.bool false, Value.string d, Value.bool br, Value.int .i64 m, Value.bool nt, undef, undef, undef, undef, undef, Value.tuple #[Value.string d, Value.bool br], Value.pointer (some ⟨r, 0, none⟩), Value.string p, Value.agg #[Value.string x.i, Value.int .i64 x.v, Value.int .i64 x.w, Value.string x.f, Value.string x.t, Value.int .i64 x.e], Value.tuple #[Value.string d, Value.bool br], Value.string d, Value.bool br, Value.pointer (some ⟨r, 0, none⟩), u22, u23, u24, u25, u26, u27, Value.pointer (some ⟨r, 0, none⟩), Value.bool nt, Value.bool nt, Value.bool nt, u32, u33, Value.bool true, Value.tuple #[], undef, undef, undef, undef, undef, undef, undef, undef, undef, undef, undef, undef, undef, undef, undef, undef, undef, undef, undef, undef, undef, undef, undef, undef, undef, undef, undef, undef, undef, undef, undef, undef, undef, undef, undef], defers := [] } w6 := by
          intro nt ts3 w6 u32 u33 hn hs hb
          have HN1 := Aside0.mk hn
          have HS6 := Aside0.mk hs
          have HB6 := Aside0.mk hb
          refine hK7 _ _ ?_
          clear hK7 hn hs hb
          have RI := Aside0.mk (fun w2 => rest_in d m HD.out w2)
          obtain ⟨n, hn⟩ : ∃ n, n = restB d m := ⟨_, rfl⟩
          rw [← hn] at RI
          have HN2 := Aside0.mk hn
          clear hn
          gi_wp2_with (refine ⟨trivial, ?_⟩; gi_at_call 55; refine (callsIn_wide.2 (RI.out _)).mono ?_; rintro e w7 ⟨rfl, hb⟩; have HS7 := Aside0.mk (HS6.out.below hb); have HB7 := Aside0.mk (HB6.out.trans (Rb.of_below hb)); clear hb)
          gi_loopg [10, 11] (ts3.length + 1) (fun kq v10 v11 wr => ∃ (bb more : Bool) (tsr : List ByteArray), v10 = .bool bb ∧ v11 = .bool more ∧ RS W0 wr r tsr ∧ Rb r w wr ∧ Aside0 (more = true → tsr.length < kq) ∧ Aside0 ((if more = true then rangesT kq n bb tsr else some (bb, tsr)) = rangesT (ts3.length + 1) n false ts3))
          case atStart => exact ⟨false, true, ts3, rfl, rfl, HS7.out, HB7.out, ⟨fun _ => Nat.lt_succ_self _⟩, ⟨rfl⟩⟩
          case round =>
            obtain ⟨bb, more, tsr, rfl, rfl, hs, hb, HL, HA⟩ := hrel
            have HS8 := Aside0.mk hs
            have HB8 := Aside0.mk hb
            clear hs hb
            cases more with
            | false =>
              have HA2 : Aside0 (rangesT (ts3.length + 1) n false ts3 = some (bb, tsr)) := ⟨by have := HA.out; rw [if_neg (by decide)] at this; exact this.symm⟩
              cases bb <;> cases br <;> cases nt <;>
              · gi_wp2
                refine bodyPost_ret (results_tmp rfl _ _ _) rfl ?_
                simp only [HRT.out, HV.out, HM1.out, HN1.out]
                rw [← HN2.out, HA2.out]
                exact ⟨rfl, HS8.out, HB8.out⟩
            | true =>
              have HA2 : Aside0 (rangesT gk n bb tsr = rangesT (ts3.length + 1) n false ts3) := ⟨by have := HA.out; rw [if_pos rfl] at this; exact this⟩
              have NX2 := HL.out rfl
              clear HA HL
              cases gk with
              | zero => omega
              | succ k1 =>
                cases h1 : numT tsr with
                | none =>
                  have HR : Aside0 (rangesT (ts3.length + 1) n false ts3 = none) := ⟨by rw [← HA2.out]; simp only [rangesT, h1]⟩
                  have NF := Aside0.mk (fun w2 h => number_none (W0 := W0) (w := w2) (r := r) HGD.out h h1)
                  gi_wp2_with (refine ⟨trivial, ?_⟩; gi_at_call 54; refine (callsIn_wide.2 (NF.out _ HS8.out)).mono ?_; rintro e w9 ⟨rfl, hb⟩; have HB9 := Aside0.mk hb; clear hb)
                  refine ⟨rfl, ?_⟩
                  simp only [HRT.out, HV.out, HM1.out, HN1.out]
                  rw [← HN2.out, HR.out]
                  exact ⟨rfl, HB9.out⟩
                | some lt =>
                  obtain ⟨lo, t1⟩ := lt
                  have NS := Aside0.mk (fun w2 h => number_some (W0 := W0) (w := w2) (r := r) HGD.out h h1)
                  gi_upto_region 15 with (refine ⟨trivial, ?_⟩; gi_at_call 54; refine (callsIn_wide.2 (NS.out _ HS8.out)).mono ?_; rintro e w9 ⟨rfl, hs, hb⟩; have HS9 := Aside0.mk hs; have HB9 := Aside0.mk (HB8.out.trans hb); clear hs hb)
                  rename_i K17 hK17 Kc2 hKc2
                  have KK17 : ∀ (hi : Int) (t2 : List ByteArray) (w11 : World) (v46 v47 v48 : Value), highT lo t1 = some (hi, t2) → RS W0 w11 r t2 → Rb r w w11 → K17 { tmps := #[Value.pointer (some ⟨r, 0, none⟩), Value.agg #[Value.string x.i, Value.int .i64 x.v, Value.int .i64 x.w, Value.string x.f, Value.string x.t, Value.int .i64 x.e], undef, Value.pointer (some ⟨b, 0, none⟩), Value.bool false, Value.string d, Value.bool br, Value.int .i64 m, Value.bool nt, Value.int .i64 n, Value.bool bb, Value.bool true, Value.int .i64 lo, Value.int .i64 hi, Value.tuple #[Value.string d, Value.bool br], Value.pointer (some ⟨r, 0, none⟩), Value.string p, Value.agg #[Value.string x.i, Value.int .i64 x.v, Value.int .i64 x.w, Value.string x.f, Value.string x.t, Value.int .i64 x.e], Value.tuple #[Value.string d, Value.bool br], Value.string d, Value.bool br, Value.pointer (some ⟨r, 0, none⟩), u22, u23, u24, u25, u26, u27, Value.pointer (some ⟨r, 0, none⟩), Value.bool nt, Value.bool nt, Value.bool nt, u32, u33, Value.bool true, Value.tuple #[], Value.string d, Value.int .i64 m, Value.int .i64 n, Value.bool true, u40, u41, Value.pointer (some ⟨r, 0, none⟩), Value.int .i64 lo, Value.int .i64 lo, Value.pointer (some ⟨r, 0, none⟩), v46, v47, v48, u49, u50, u51, u52, u53, u54, u55, u56, u57, u58, u59, u60, u61, u62, u63, undef, undef, undef, undef, undef, undef, undef], defers := [] } w11 := by
                    intro hi t2 w11 v46 v47 v48 hh hs hb
                    have HS11 := Aside0.mk hs
                    have HB11 := Aside0.mk hb
                    refine hK17 _ _ ?_
                    clear hK17 hs hb hKc2 Kc2
                    by_cases hlh : lo ≤ hi
                    · have hd : decide (lo ≤ hi) = true := decide_eq_true hlh
                      have HEQ : Aside0 (∀ b', b' = (bb || (decide (lo ≤ n) && decide (n ≤ hi))) → (if (takeT sCom t2).1 = true then rangesT k1 n b' (takeT sCom t2).2 else some (b', (takeT sCom t2).2)) = rangesT (ts3.length + 1) n false ts3) := ⟨by
                        rintro _ rfl
                        rw [← HA2.out]
                        simp only [rangesT, h1, hh]
                        rw [if_pos hlh]
                        cases hc : (takeT sCom t2).1 with
                        | true => rfl
                        | false => rw [if_neg (by decide), if_neg (by decide), take_no hc]⟩
                      have HLE : Aside0 ((takeT sCom t2).2.length < k1) := ⟨by
                        have l1 := num_len h1
                        have l2 := high_len hh
                        have l3 := take_len sCom t2
                        omega⟩
                      clear hh h1 NX2 hlh
                      cases d1 : decide (lo ≤ n) <;> cases d2 : decide (n ≤ hi) <;> cases bb <;>
                      · simp only [d1, d2] at HEQ
                        gi_wp2_with (first | (refine ⟨trivial, ?_⟩; gi_at_call 28; refine (callsIn_wide.2 (must_in true w11)).mono ?_; rintro e w12 ⟨rfl, rfl⟩; skip) | (refine ⟨trivial, ?_⟩; gi_at_call 26; refine (callsIn_wide.2 (TK.out sCom neCom _ _ HS11.out)).mono ?_; rintro e w13 ⟨rfl, hs, hb⟩; have HS13 := Aside0.mk hs; have HB13 := Aside0.mk (HB11.out.trans hb); clear hs hb))
                        gi_roundg k1
                        case measure => exact Nat.lt_succ_self _
                        case rel => exact ⟨_, (takeT sCom t2).1, (takeT sCom t2).2, rfl, rfl, HS13.out, HB13.out, ⟨fun _ => HLE.out⟩, ⟨HEQ.out _ rfl⟩⟩
                    · have hd : decide (lo ≤ hi) = false := decide_eq_false hlh
                      have HR : Aside0 (rangesT (ts3.length + 1) n false ts3 = none) := ⟨by rw [← HA2.out]; simp only [rangesT, h1, hh]; rw [if_neg hlh]⟩
                      clear hh h1 NX2
                      gi_wp2_with (refine ⟨trivial, ?_⟩; gi_at_call 28; refine (callsIn_wide.2 (must_in false w11)).mono ?_; rintro e w12 ⟨rfl, rfl⟩; skip)
                      refine ⟨rfl, ?_⟩
                      simp only [HRT.out, HV.out, HM1.out, HN1.out]
                      rw [← HN2.out, HR.out]
                      exact ⟨rfl, HB11.out.base HRR.out HW0.out⟩
                  clear hK17
                  cases e3 : (takeT sDd t1).1 with
                  | true =>
                    cases h2 : numT (takeT sDd t1).2 with
                    | none =>
                      have HR : Aside0 (rangesT (ts3.length + 1) n false ts3 = none) := ⟨by rw [← HA2.out]; simp only [rangesT, h1]; rw [show highT lo t1 = none by unfold highT; rw [if_pos e3, h2]]⟩
                      have NF := Aside0.mk (fun w2 h => number_none (W0 := W0) (w := w2) (r := r) HGD.out h h2)
                      clear h1
                      gi_wp2_with (first | (refine ⟨trivial, ?_⟩; gi_at_call 26; refine (callsIn_wide.2 (TK.out sDd neDd _ _ HS9.out)).mono ?_; rintro e w10 ⟨he, hs, hb⟩; rw [e3] at he; subst he; have HS10 := Aside0.mk hs; have HB10 := Aside0.mk (HB9.out.trans hb); clear hs hb) | (refine ⟨trivial, ?_⟩; gi_at_call 54; refine (callsIn_wide.2 (NF.out _ HS10.out)).mono ?_; rintro e w14 ⟨rfl, hb⟩; have HB14 := Aside0.mk hb; clear hb))
                      refine ⟨rfl, ?_⟩
                      simp only [HRT.out, HV.out, HM1.out, HN1.out]
                      rw [← HN2.out, HR.out]
                      exact ⟨rfl, HB14.out⟩
                    | some ht =>
                      obtain ⟨hi, t2⟩ := ht
                      have HH : Aside0 (highT lo t1 = some (hi, t2)) := ⟨by unfold highT; rw [if_pos e3, h2]⟩
                      have NS2 := Aside0.mk (fun w2 h => number_some (W0 := W0) (w := w2) (r := r) HGD.out h h2)
                      clear h1
                      gi_wp2_with (first | (refine ⟨trivial, ?_⟩; gi_at_call 26; refine (callsIn_wide.2 (TK.out sDd neDd _ _ HS9.out)).mono ?_; rintro e w10 ⟨he, hs, hb⟩; rw [e3] at he; subst he; have HS10 := Aside0.mk hs; have HB10 := Aside0.mk (HB9.out.trans hb); clear hs hb) | (refine ⟨trivial, ?_⟩; gi_at_call 54; refine (callsIn_wide.2 (NS2.out _ HS10.out)).mono ?_; rintro e w14 ⟨rfl, hs, hb⟩; have HS14 := Aside0.mk hs; have HB14 := Aside0.mk (HB10.out.trans hb); clear hs hb))
                      exact KK17 hi t2 _ _ _ _ HH.out HS14.out HB14.out
                  | false =>
                    have HH : Aside0 (highT lo t1 = some (lo, t1)) := ⟨by unfold highT; rw [if_neg (by rw [e3]; decide)]⟩
                    have HT2 : Aside0 ((takeT sDd t1).2 = t1) := ⟨take_no e3⟩
                    clear h1
                    gi_wp2_with (refine ⟨trivial, ?_⟩; gi_at_call 26; refine (callsIn_wide.2 (TK.out sDd neDd _ _ HS9.out)).mono ?_; rintro e w10 ⟨he, hs, hb⟩; rw [e3] at he; subst he; have HS10 := Aside0.mk hs; have HB10 := Aside0.mk (HB9.out.trans hb); clear hs hb)
                    exact KK17 lo t1 _ _ _ _ HH.out (HT2.out ▸ HS10.out) HB10.out
        clear hK7
        cases e1 : (takeT sNe ts2).1 with
        | true =>
          have HN1 : Aside0 (notT ts2 = some (true, (takeT sNe ts2).2)) := ⟨by unfold notT; rw [if_pos e1]⟩
          gi_wp2_with (first | (refine ⟨trivial, ?_⟩; gi_at_call 28; refine (callsIn_wide.2 (must_in true w5)).mono ?_; rintro e w9 ⟨rfl, rfl⟩; skip) | (refine ⟨trivial, ?_⟩))
          exact KK7 true _ _ _ _ HN1.out HS5.out HB5.out
        | false =>
          have HT2 : Aside0 ((takeT sNe ts2).2 = ts2) := ⟨take_no e1⟩
          have HS5b := Aside0.mk (HT2.out ▸ HS5.out)
          cases e2 : (takeT sEq ts2).1 with
          | true =>
            have HN1 : Aside0 (notT ts2 = some (false, (takeT sEq ts2).2)) := ⟨by unfold notT; rw [if_neg (by rw [e1]; decide), if_pos e2]⟩
            gi_wp2_with (first | (refine ⟨trivial, ?_⟩; gi_at_call 26; refine (callsIn_wide.2 (TK.out sEq neEq _ _ HS5b.out)).mono ?_; rintro e w6 ⟨he, hs, hb⟩; rw [e2] at he; subst he; have HS6 := Aside0.mk hs; have HB6 := Aside0.mk (HB5.out.trans hb); clear hs hb) | (refine ⟨trivial, ?_⟩; gi_at_call 28; refine (callsIn_wide.2 (must_in true w6)).mono ?_; rintro e w9 ⟨rfl, rfl⟩; skip))
            exact KK7 false _ _ _ _ HN1.out HS6.out HB6.out
          | false =>
            have HN1 : Aside0 (notT ts2 = none) := ⟨by unfold notT; rw [if_neg (by rw [e1]; decide), if_neg (by rw [e2]; decide)]⟩
            gi_wp2_with (first | (refine ⟨trivial, ?_⟩; gi_at_call 26; refine (callsIn_wide.2 (TK.out sEq neEq _ _ HS5b.out)).mono ?_; rintro e w6 ⟨he, hs, hb⟩; rw [e2] at he; subst he; have HS6 := Aside0.mk hs; have HB6 := Aside0.mk (HB5.out.trans hb); clear hs hb) | (refine ⟨trivial, ?_⟩; gi_at_call 28; refine (callsIn_wide.2 (must_in false w6)).mono ?_; rintro e w9 ⟨rfl, rfl⟩; skip))
            refine ⟨rfl, ?_⟩
            simp only [HRT.out, HV.out, HM1.out, HN1.out]
            exact ⟨rfl, HB6.out.base HRR.out HW0.out⟩
      clear hKr
      cases ht : (takeT sPct ts.tail).1 with
      | true =>
        cases hn : numT (takeT sPct ts.tail).2 with
        | none =>
          have HM1 : Aside0 (modT ts.tail = none) := ⟨by unfold modT; rw [if_pos ht, hn]⟩
          have NF := Aside0.mk (fun w2 h => number_none (W0 := W0) (w := w2) (r := r) HGD.out h hn)
          gi_wp2_with (first | (refine ⟨trivial, ?_⟩; gi_at_call 26; refine (callsIn_wide.2 (TK.out sPct nePct _ _ HS3.out)).mono ?_; rintro e w4 ⟨he, hs, hb⟩; rw [ht] at he; subst he; have HS4 := Aside0.mk hs; have HB4 := Aside0.mk (HB3.out.trans hb); clear hs hb) | (refine ⟨trivial, ?_⟩; gi_at_call 54; refine (callsIn_wide.2 (NF.out _ HS4.out)).mono ?_; rintro e w5 ⟨rfl, hb⟩; have HB5 := Aside0.mk hb; clear hb))
          refine ⟨rfl, ?_⟩
          simp only [HRT.out, HV.out, HM1.out]
          exact ⟨rfl, HB5.out⟩
        | some mt =>
          obtain ⟨m, ts2⟩ := mt
          have NS := Aside0.mk (fun w2 h => number_some (W0 := W0) (w := w2) (r := r) HGD.out h hn)
          by_cases h0 : 0 < m
          · have HM1 : Aside0 (modT ts.tail = some (m, ts2)) := ⟨by unfold modT; rw [if_pos ht, hn]; exact if_pos h0⟩
            have hd : decide (0 < m) = true := decide_eq_true h0
            gi_wp2_with (first | (refine ⟨trivial, ?_⟩; gi_at_call 26; refine (callsIn_wide.2 (TK.out sPct nePct _ _ HS3.out)).mono ?_; rintro e w4 ⟨he, hs, hb⟩; rw [ht] at he; subst he; have HS4 := Aside0.mk hs; have HB4 := Aside0.mk (HB3.out.trans hb); clear hs hb) | (refine ⟨trivial, ?_⟩; gi_at_call 54; refine (callsIn_wide.2 (NS.out _ HS4.out)).mono ?_; rintro e w5 ⟨rfl, hs, hb⟩; have HS5 := Aside0.mk hs; have HB5 := Aside0.mk (HB4.out.trans hb); clear hs hb) | (refine ⟨trivial, ?_⟩; gi_at_call 28; refine (callsIn_wide.2 (must_in true w5)).mono ?_; rintro e w6 ⟨rfl, rfl⟩; skip))
            exact KKr m ts2 _ _ _ _ _ _ _ HM1.out HS5.out HB5.out
          · have HM1 : Aside0 (modT ts.tail = none) := ⟨by unfold modT; rw [if_pos ht, hn]; exact if_neg h0⟩
            have hd : decide (0 < m) = false := decide_eq_false h0
            gi_wp2_with (first | (refine ⟨trivial, ?_⟩; gi_at_call 26; refine (callsIn_wide.2 (TK.out sPct nePct _ _ HS3.out)).mono ?_; rintro e w4 ⟨he, hs, hb⟩; rw [ht] at he; subst he; have HS4 := Aside0.mk hs; have HB4 := Aside0.mk (HB3.out.trans hb); clear hs hb) | (refine ⟨trivial, ?_⟩; gi_at_call 54; refine (callsIn_wide.2 (NS.out _ HS4.out)).mono ?_; rintro e w5 ⟨rfl, hs, hb⟩; have HS5 := Aside0.mk hs; have HB5 := Aside0.mk (HB4.out.trans hb); clear hs hb) | (refine ⟨trivial, ?_⟩; gi_at_call 28; refine (callsIn_wide.2 (must_in false w5)).mono ?_; rintro e w6 ⟨rfl, rfl⟩; skip))
            refine ⟨rfl, ?_⟩
            simp only [HRT.out, HV.out, HM1.out]
            exact ⟨rfl, HB5.out.base HRR.out HW0.out⟩
      | false =>
        have HM1 : Aside0 (modT ts.tail = some (0, ts.tail)) := ⟨by unfold modT; rw [if_neg (by rw [ht]; decide)]⟩
        have HT2 : Aside0 ((takeT sPct ts.tail).2 = ts.tail) := ⟨take_no ht⟩
        gi_wp2_with (refine ⟨trivial, ?_⟩; gi_at_call 26; refine (callsIn_wide.2 (TK.out sPct nePct _ _ HS3.out)).mono ?_; rintro e w4 ⟨he, hs, hb⟩; rw [ht] at he; subst he; have HS4 := Aside0.mk hs; have HB4 := Aside0.mk (HB3.out.trans hb); clear hs hb)
        exact KKr 0 ts.tail _ _ _ _ _ _ _ HM1.out (HT2.out ▸ HS4.out) HB4.out
    clear hK1
    refine wpIn_region_any hmx ?_
    refine RX.any_step [0, 2] (by kernel_rfl) (by simp) ?_
    intro i hi
    simp only [List.mem_cons, List.not_mem_nil, or_false] at hi
    rcases hi with rfl | rfl
    · refine RX.op_hide (fun K hK => ?_)
      unfold wpOpIn
      go_simp
      refine hK _ _ ?_
      clear hK K
      refine RX.any_step [1, 2] (by kernel_rfl) (by simp) ?_
      intro i hi
      simp only [List.mem_cons, List.not_mem_nil, or_false] at hi
      rcases hi with rfl | rfl
      · refine RX.op_hide (fun K hK => ?_)
        unfold wpOpIn
        go_simp
        refine ⟨trivial, ?_⟩
        gi_at_call 36
        refine (callsIn_wide.2 (NX.out _ (H1.out.below (below_drew1 (Below.refl _ _))))).mono ?_
        rintro e w2 ⟨rfl, hs, hb⟩
        have hm2 := (hb.block b (by simpa using blk_lt HM.out) hbr).trans HM.out
        have n0 := (blk_cell hm2 0).trans (rfl : _ = some (Value.string x.i))
        have n1 := (blk_cell hm2 1).trans (rfl : _ = some (Value.int .i64 x.v))
        have n2 := (blk_cell hm2 2).trans (rfl : _ = some (Value.int .i64 x.w))
        have n3 := (blk_cell hm2 3).trans (rfl : _ = some (Value.string x.f))
        have n4 := (blk_cell hm2 4).trans (rfl : _ = some (Value.string x.t))
        have n5 := (blk_cell hm2 5).trans (rfl : _ = some (Value.int .i64 x.e))
        have HS := Aside0.mk hs
        have HB := Aside0.mk ((Rb.of_below (below_drew1 HB1.out)).trans hb)
        clear hs hb hm2
        refine hK _ _ ?_
        clear hK K
        refine RX.any_step [2] (by kernel_rfl) (by simp) ?_
        intro i hi
        simp only [List.mem_cons, List.not_mem_nil, or_false] at hi
        subst hi
        refine RX.op_hide (fun K hK => ?_)
        unfold wpOpIn
        go_simp
        refine hK _ _ ?_
        clear hK K
        refine RX.any_step [3] (by kernel_rfl) (by simp) ?_
        intro i hi
        simp only [List.mem_cons, List.not_mem_nil, or_false] at hi
        subst hi
        refine RX.op_hide (fun K hK => ?_)
        unfold wpOpIn
        go_simp
        refine ⟨trivial, ?_⟩
        gi_at_call 53
        refine (callsIn_wide.2 (VX.out _ HS.out.base)).mono ?_
        rintro e w3 ⟨hb, rfl⟩
        have HS3 := Aside0.mk (HS.out.below hb)
        have HB3 := Aside0.mk (HB.out.trans (Rb.of_below hb))
        clear hb
        refine hK _ _ ?_
        clear hK K
        refine RX.any_rest (P := Tryd.prog) [_, _, _, _, _] 4 (by kernel_rfl) (by kernel_rfl) rfl (by kernel_rfl) ?_
        repeat (refine wpQuietIn_step (fun _ _ _ _ => trivial) (fun K hK => ?_); go_simp; refine hK _ ?_; clear hK K)
        refine wpQuietIn_nil ?_
        exact KK1 w3 HS3.out HB3.out
      · refine RX.op_hide (fun K hK => ?_)
        unfold wpOpIn
        go_simp
        refine hK _ _ ?_
        clear hK K
        refine RX.any_step [1] (by kernel_rfl) (by simp) ?_
        intro i hi
        simp only [List.mem_cons, List.not_mem_nil, or_false] at hi
        subst hi
        refine RX.op_hide (fun K hK => ?_)
        unfold wpOpIn
        go_simp
        refine ⟨trivial, ?_⟩
        gi_at_call 36
        refine (callsIn_wide.2 (NX.out _ (H1.out.below (below_drew1 (Below.refl _ _))))).mono ?_
        rintro e w2 ⟨rfl, hs, hb⟩
        have hm2 := (hb.block b (by simpa using blk_lt HM.out) hbr).trans HM.out
        have n0 := (blk_cell hm2 0).trans (rfl : _ = some (Value.string x.i))
        have n1 := (blk_cell hm2 1).trans (rfl : _ = some (Value.int .i64 x.v))
        have n2 := (blk_cell hm2 2).trans (rfl : _ = some (Value.int .i64 x.w))
        have n3 := (blk_cell hm2 3).trans (rfl : _ = some (Value.string x.f))
        have n4 := (blk_cell hm2 4).trans (rfl : _ = some (Value.string x.t))
        have n5 := (blk_cell hm2 5).trans (rfl : _ = some (Value.int .i64 x.e))
        have HS := Aside0.mk hs
        have HB := Aside0.mk ((Rb.of_below (below_drew1 HB1.out)).trans hb)
        clear hs hb hm2
        refine hK _ _ ?_
        clear hK K
        refine RX.any_step [3] (by kernel_rfl) (by simp) ?_
        intro i hi
        simp only [List.mem_cons, List.not_mem_nil, or_false] at hi
        subst hi
        refine RX.op_hide (fun K hK => ?_)
        unfold wpOpIn
        go_simp
        refine ⟨trivial, ?_⟩
        gi_at_call 53
        refine (callsIn_wide.2 (VX.out _ HS.out.base)).mono ?_
        rintro e w3 ⟨hb, rfl⟩
        have HS3 := Aside0.mk (HS.out.below hb)
        have HB3 := Aside0.mk (HB.out.trans (Rb.of_below hb))
        clear hb
        refine hK _ _ ?_
        clear hK K
        refine RX.any_rest (P := Tryd.prog) [_, _, _, _, _] 4 (by kernel_rfl) (by kernel_rfl) rfl (by kernel_rfl) ?_
        repeat (refine wpQuietIn_step (fun _ _ _ _ => trivial) (fun K hK => ?_); go_simp; refine hK _ ?_; clear hK K)
        refine wpQuietIn_nil ?_
        exact KK1 w3 HS3.out HB3.out
    · refine RX.op_hide (fun K hK => ?_)
      unfold wpOpIn
      go_simp
      refine hK _ _ ?_
      clear hK K
      refine RX.any_step [0] (by kernel_rfl) (by simp) ?_
      intro i hi
      simp only [List.mem_cons, List.not_mem_nil, or_false] at hi
      subst hi
      refine RX.op_hide (fun K hK => ?_)
      unfold wpOpIn
      go_simp
      refine hK _ _ ?_
      clear hK K
      refine RX.any_step [1] (by kernel_rfl) (by simp) ?_
      intro i hi
      simp only [List.mem_cons, List.not_mem_nil, or_false] at hi
      subst hi
      refine RX.op_hide (fun K hK => ?_)
      unfold wpOpIn
      go_simp
      refine ⟨trivial, ?_⟩
      gi_at_call 36
      refine (callsIn_wide.2 (NX.out _ (H1.out.below (below_drew1 (Below.refl _ _))))).mono ?_
      rintro e w2 ⟨rfl, hs, hb⟩
      have hm2 := (hb.block b (by simpa using blk_lt HM.out) hbr).trans HM.out
      have n0 := (blk_cell hm2 0).trans (rfl : _ = some (Value.string x.i))
      have n1 := (blk_cell hm2 1).trans (rfl : _ = some (Value.int .i64 x.v))
      have n2 := (blk_cell hm2 2).trans (rfl : _ = some (Value.int .i64 x.w))
      have n3 := (blk_cell hm2 3).trans (rfl : _ = some (Value.string x.f))
      have n4 := (blk_cell hm2 4).trans (rfl : _ = some (Value.string x.t))
      have n5 := (blk_cell hm2 5).trans (rfl : _ = some (Value.int .i64 x.e))
      have HS := Aside0.mk hs
      have HB := Aside0.mk ((Rb.of_below (below_drew1 HB1.out)).trans hb)
      clear hs hb hm2
      refine hK _ _ ?_
      clear hK K
      refine RX.any_step [3] (by kernel_rfl) (by simp) ?_
      intro i hi
      simp only [List.mem_cons, List.not_mem_nil, or_false] at hi
      subst hi
      refine RX.op_hide (fun K hK => ?_)
      unfold wpOpIn
      go_simp
      refine ⟨trivial, ?_⟩
      gi_at_call 53
      refine (callsIn_wide.2 (VX.out _ HS.out.base)).mono ?_
      rintro e w3 ⟨hb, rfl⟩
      have HS3 := Aside0.mk (HS.out.below hb)
      have HB3 := Aside0.mk (HB.out.trans (Rb.of_below hb))
      clear hb
      refine hK _ _ ?_
      clear hK K
      refine RX.any_rest (P := Tryd.prog) [_, _, _, _, _] 4 (by kernel_rfl) (by kernel_rfl) rfl (by kernel_rfl) ?_
      repeat (refine wpQuietIn_step (fun _ _ _ _ => trivial) (fun K hK => ?_); go_simp; refine hK _ ?_; clear hK K)
      refine wpQuietIn_nil ?_
      exact KK1 w3 HS3.out HB3.out
end Go.Proofs.YtnkggincckdoiaaDoor.Q
