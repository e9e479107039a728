import Derived.Test.YtnkggincckdoiaaDoorKr14
namespace Go.Proofs.YtnkggincckdoiaaDoor.Q
open Go.RowKit Go.Shelf Go.Proofs.YtnkggincckdoiaaDoorW.PrintWords Go.Proofs.YtnkggincckdoiaaDoorW.PrintLast Go.Proofs.YtnkggincckdoiaaDoorW.PrintMore
set_option linter.unusedVariables false
set_option linter.unusedSimpArgs false
def sAnd : ByteArray := ⟨#[97, 110, 100]⟩
def sOr : ByteArray := ⟨#[111, 114]⟩
theorem neAnd : sAnd ≠ ByteArray.empty := fun e => absurd (congrArg ByteArray.size e) (by decide)
theorem neOr : sOr ≠ ByteArray.empty := fun e => absurd (congrArg ByteArray.size e) (by decide)
/-- Relations with "and". -/
def andT (x : Opr) : Nat → Bool → List ByteArray → Option (Bool × List ByteArray)
  | 0, _, _ => none
  | k + 1, a, ts =>
    match relT x ts with
    | none => none
    | some (h, ts1) => if (takeT sAnd ts1).1 = true then andT x k (a && h) (takeT sAnd ts1).2 else some (a && h, ts1)
/-- .. with "or". -/
def orT (x : Opr) : Nat → Bool → List ByteArray → Option (Bool × List ByteArray)
  | 0, _, _ => none
  | k + 1, a, ts =>
    match andT x (ts.length + 1) true ts with
    | none => none
    | some (h, ts1) => if (takeT sOr ts1).1 = true then orT x k (a || h) (takeT sOr ts1).2 else some (a || h, ts1)
/-- A condition: does it hold? -/
def condT (x : Opr) (ts : List ByteArray) : Option (Bool × List ByteArray) := orT x (ts.length + 1) false ts
theorem mod_len {ts ts' : List ByteArray} {m : Int} (h : modT ts = some (m, ts')) : ts'.length ≤ ts.length := by
  unfold modT at h
  split at h
  · split at h
    · rename_i m' ts2 e
      split at h
      · injection h with h; injection h with _ h; subst h
        exact Nat.le_trans (Nat.le_of_lt (num_len e)) (take_len _ _)
      · cases h
    · cases h
  · injection h with h; injection h with _ h; subst h; exact Nat.le_refl _
theorem not_len {ts ts' : List ByteArray} {n : Bool} (h : notT ts = some (n, ts')) : ts'.length ≤ ts.length := by
  unfold notT at h
  split at h
  · injection h with h; injection h with _ h; subst h; exact take_len _ _
  · split at h
    · injection h with h; injection h with _ h; subst h; exact take_len _ _
    · cases h
theorem ranges_len : ∀ (k : Nat) (n : Int) (b b' : Bool) (ts ts' : List ByteArray), rangesT k n b ts = some (b', ts') → ts'.length < ts.length
  | 0, _, _, _, _, _, h => by simp [rangesT] at h
  | k + 1, n, b, b', ts, ts', h => by
    simp only [rangesT] at h
    split at h
    · cases h
    · rename_i lo ts1 h1
      have l1 := num_len h1
      split at h
      · cases h
      · rename_i hi ts2 h2
        have l2 := high_len h2
        split at h
        · split at h
          · have l3 := ranges_len k _ _ _ _ _ h
            have l4 := take_len sCom ts2
            omega
          · injection h with h; injection h with _ h; subst h; omega
        · cases h
theorem rel_len {x : Opr} {ts ts' : List ByteArray} {b : Bool} (h : relT x ts = some (b, ts')) : ts'.length < ts.length := by
  unfold relT at h
  split at h
  · cases h
  · split at h
    · cases h
    · rename_i m ts2 h2
      split at h
      · cases h
      · rename_i nt ts3 h3
        split at h
        · cases h
        · rename_i bb ts4 h4
          injection h with h; injection h with _ h; subst h
          have l1 := mod_len h2
          have l2 := not_len h3
          have l3 := ranges_len _ _ _ _ _ _ h4
          rw [List.length_tail] at l1
          omega
theorem and_len (x : Opr) : ∀ (k : Nat) (a b : Bool) (ts ts' : List ByteArray), andT x k a ts = some (b, ts') → ts'.length < ts.length
  | 0, _, _, _, _, h => by simp [andT] at h
  | k + 1, a, b, ts, ts', h => by
    simp only [andT] at h
    split at h
    · cases h
    · rename_i hh ts1 h1
      have l1 := rel_len h1
      split at h
      · have l2 := and_len x k _ _ _ _ h
        have l3 := take_len sAnd ts1
        omega
      · injection h with h; injection h with _ h; subst h; exact l1
theorem relation_some {W0 w : World} {r : Nat} {x : Opr} {ts ts' : List ByteArray} {v : Bool} (hG : Gd W0) (hx : OIn x) (h : RS W0 w r ts) (e : relT x ts = some (v, ts')) :
    Calls Tryd.prog 44 #[.pointer (some ⟨r, 0, none⟩), encO x] w fun e w' => e = .returned (.bool v) ∧ RS W0 w' r ts' ∧ Rb r w w' := by
  have := relation_in W0 w r x ts hG hx h
  rw [e] at this
  exact this
theorem relation_none {W0 w : World} {r : Nat} {x : Opr} {ts : List ByteArray} (hG : Gd W0) (hx : OIn x) (h : RS W0 w r ts) (e : relT x ts = none) :
    Calls Tryd.prog 44 #[.pointer (some ⟨r, 0, none⟩), encO x] w fun e w' => e = .panicked wrongP ∧ Below W0.heap.size W0 w' := by
  have := relation_in W0 w r x ts hG hx h
  rw [e] at this
  exact this
set_option maxHeartbeats 4000000 in
set_option maxRecDepth 100000 in
theorem condition_in (W0 w : World) (r : Nat) (x : Opr) (ts : List ByteArray) (hG : Gd W0) (hx : OIn x) (h : RS W0 w r ts) :
    Calls Tryd.prog 34 #[.pointer (some ⟨r, 0, none⟩), encO x] w fun e w' => PostR W0 w r ((condT x ts).map fun y => (.bool y.1, y.2)) e w' := by
  have hu29 := Tryd.underlying29
  have HX := Aside0.mk hx
  have HGD := Aside0.mk hG
  have HW0 := Aside0.mk h.base
  have HRR := Aside0.mk h.hr
  have TK := Aside0.mk (fun (p : ByteArray) (hp : p ≠ ByteArray.empty) (ts2 : List ByteArray) (w2 : World) (h : RS W0 w2 r ts2) => take_in W0 w2 r p ts2 hp h)
  have RS1 := Aside0.mk (fun (w2 : World) (t1 t2 : List ByteArray) (v : Bool) (h : RS W0 w2 r t1) (e : relT x t1 = some (v, t2)) => relation_some hG hx h e)
  have RN1 := Aside0.mk (fun (w2 : World) (t1 : List ByteArray) (h : RS W0 w2 r t1) (e : relT x t1 = none) => relation_none hG hx h e)
  unfold encO at RS1 RN1 ⊢
  have hb1 := below_alloc (Below.refl w.heap.size w) (Obj.cells #[.string x.i, .int .i64 x.v, .int .i64 x.w, .string x.f, .string x.t, .int .i64 x.e] 29)
  have hm := blk_new w (Obj.cells #[.string x.i, .int .i64 x.v, .int .i64 x.w, .string x.f, .string x.t, .int .i64 x.e] 29)
  have hr := h.at_size
  obtain ⟨w1, hw1⟩ : ∃ w1, w1 = w.alloc (Obj.cells #[.string x.i, .int .i64 x.v, .int .i64 x.w, .string x.f, .string x.t, .int .i64 x.e] 29) := ⟨_, rfl⟩
  rw [← hw1] at hb1 hm
  have H1 := Aside0.mk (h.below hb1)
  have HB1 := Aside0.mk hb1
  have HW1 := Aside0.mk hw1
  obtain ⟨b, hbe⟩ : ∃ b, b = w.heap.size := ⟨_, rfl⟩
  rw [← hbe] at hm
  have hbr : b ≠ r := by omega
  have HM := Aside0.mk hm
  have HBE := Aside0.mk hbe
  obtain ⟨R, hR⟩ : ∃ R, R = condT x ts := ⟨_, rfl⟩
  rw [← hR]
  have HRT : Aside0 (orT x (ts.length + 1) false ts = R) := ⟨hR.symm⟩
  clear hG hx h hb1 hm hr hw1 hbe hR
  refine (callsIn_wide (n := 1)).1 ?_
  refine callsIn_of_wp Tryd.func34 rfl trivial ?_ rfl
  simp only [Tryd.ntmps34, List.size_toArray, List.length_cons, List.length_nil, Nat.reduceAdd, Nat.reduceSub, Array.replicate_succ, Array.replicate_zero, List.push_toArray, List.append_toArray, List.nil_append, List.cons_append]
  gi_upto_region 1 with (fail)
  rw [← HW1.out, ← HBE.out]
  gi_wp2
  gi_loopg [5, 6] (ts.length + 1) (fun kq v5 v6 wr => ∃ (an more : Bool) (tsr : List ByteArray), v5 = .bool an ∧ v6 = .bool more ∧ RS W0 wr r tsr ∧ Rb r w1 wr ∧ Aside0 (more = true → tsr.length < kq) ∧ Aside0 ((if more = true then orT x kq an tsr else some (an, tsr)) = R))
  case atStart => exact ⟨false, true, ts, rfl, rfl, H1.out, Rb.refl _ _, ⟨fun _ => Nat.lt_succ_self _⟩, ⟨HRT.out⟩⟩
  case round =>
    obtain ⟨an, more, tsr, rfl, rfl, hs, hb, HL, HA⟩ := hrel
    have HS8 := Aside0.mk hs
    have HB8 := Aside0.mk hb
    clear hs hb HRT
    cases more with
    | false =>
      have HA2 : Aside0 (R = some (an, tsr)) := ⟨by have := HA.out; rw [if_neg (by decide)] at this; exact this.symm⟩
      clear HL HA
      gi_wp2
      refine bodyPost_ret (results_tmp rfl _ _ _) rfl ?_
      rw [HA2.out]
      exact ⟨rfl, HS8.out, (Rb.of_below HB1.out).trans HB8.out⟩
    | true =>
      have HA2 : Aside0 (orT x gk an tsr = R) := ⟨by have := HA.out; rw [if_pos rfl] at this; exact this⟩
      have hlt := HL.out rfl
      clear HA HL
      cases gk with
      | zero => omega
      | succ k1 =>
        have HLT := Aside0.mk hlt
        clear hlt
        gi_wp2
        gi_loopg [7, 8] (tsr.length + 1) (fun kq v7 v8 wr2 => ∃ (al also : Bool) (ts2 : List ByteArray), v7 = .bool al ∧ v8 = .bool also ∧ RS W0 wr2 r ts2 ∧ Rb r w1 wr2 ∧ Aside0 (also = true → ts2.length < kq) ∧ Aside0 ((if also = true then andT x kq al ts2 else some (al, ts2)) = andT x (tsr.length + 1) true tsr))
        case atStart => exact ⟨true, true, tsr, rfl, rfl, HS8.out, HB8.out, ⟨fun _ => Nat.lt_succ_self _⟩, ⟨rfl⟩⟩
        case round =>
          obtain ⟨al, also, ts2, rfl, rfl, hs, hb, HL, HA⟩ := hrel
          have HS9 := Aside0.mk hs
          have HB9 := Aside0.mk hb
          clear hs hb
          cases also with
          | false =>
            have hA := HA.out
            rw [if_neg (by decide)] at hA
            have HEQ : Aside0 (∀ b', b' = (an || al) → (if (takeT sOr ts2).1 = true then orT x k1 b' (takeT sOr ts2).2 else some (b', (takeT sOr ts2).2)) = R) := ⟨by
              rintro _ rfl
              rw [← HA2.out]
              simp only [orT, ← hA]
              cases hc : (takeT sOr ts2).1 with
              | true => rfl
              | false => rw [if_neg (by decide), if_neg (by decide), take_no hc]⟩
            have HLE : Aside0 ((takeT sOr ts2).2.length < k1) := ⟨by
              have l2 := and_len x _ _ _ _ _ hA.symm
              have l3 := take_len sOr ts2
              have := HLT.out
              omega⟩
            clear HA HL hA
            cases an <;> cases al <;>
            · gi_wp2_with (refine ⟨trivial, ?_⟩; gi_at_call 26; refine (callsIn_wide.2 (TK.out sOr neOr _ _ HS9.out)).mono ?_; rintro e w13 ⟨rfl, hs, hb⟩; have HS13 := Aside0.mk hs; have HB13 := Aside0.mk (HB9.out.trans hb); clear hs hb)
              gi_roundg k1
              case measure => exact Nat.lt_succ_self _
              case rel => exact ⟨_, (takeT sOr ts2).1, (takeT sOr ts2).2, rfl, rfl, HS13.out, HB13.out, ⟨fun _ => HLE.out⟩, ⟨HEQ.out _ rfl⟩⟩
          | true =>
            have HA3 : Aside0 (andT x gk al ts2 = andT x (tsr.length + 1) true tsr) := ⟨by have := HA.out; rw [if_pos rfl] at this; exact this⟩
            have hlt2 := HL.out rfl
            clear HA HL
            cases gk with
            | zero => omega
            | succ k2 =>
              have hm2 := (HB9.out.block b (blk_lt HM.out) hbr).trans HM.out
              have n0 := (blk_cell hm2 0).trans (rfl : _ = some (Value.string x.i))
              have n1 := (blk_cell hm2 1).trans (rfl : _ = some (Value.int .i64 x.v))
              have n2 := (blk_cell hm2 2).trans (rfl : _ = some (Value.int .i64 x.w))
              have n3 := (blk_cell hm2 3).trans (rfl : _ = some (Value.string x.f))
              have n4 := (blk_cell hm2 4).trans (rfl : _ = some (Value.string x.t))
              have n5 := (blk_cell hm2 5).trans (rfl : _ = some (Value.int .i64 x.e))
              clear hm2
              cases hq : relT x ts2 with
              | none =>
                have HR : Aside0 (R = none) := ⟨by
                  rw [← HA2.out]
                  simp only [orT, ← HA3.out]
                  simp only [andT, hq]⟩
                have NF := Aside0.mk (RN1.out _ ts2 HS9.out hq)
                clear hq hlt2
                gi_wp2_with (refine ⟨trivial, ?_⟩; gi_at_call 44; refine (callsIn_wide.2 NF.out).mono ?_; rintro e w14 ⟨rfl, hb⟩; have HB14 := Aside0.mk hb; clear hb)
                refine ⟨rfl, ?_⟩
                rw [HR.out]
                exact ⟨rfl, HB14.out⟩
              | some ht =>
                obtain ⟨hh, t3⟩ := ht
                have NF := Aside0.mk (RS1.out _ ts2 t3 hh HS9.out hq)
                have HEQ : Aside0 (∀ b', b' = (al && hh) → (if (takeT sAnd t3).1 = true then andT x k2 b' (takeT sAnd t3).2 else some (b', (takeT sAnd t3).2)) = andT x (tsr.length + 1) true tsr) := ⟨by
                  rintro _ rfl
                  rw [← HA3.out]
                  simp only [andT, hq]
                  cases hc : (takeT sAnd t3).1 with
                  | true => rfl
                  | false => rw [if_neg (by decide), if_neg (by decide), take_no hc]⟩
                have HLE : Aside0 ((takeT sAnd t3).2.length < k2) := ⟨by
                  have l2 := rel_len hq
                  have l3 := take_len sAnd t3
                  omega⟩
                clear hq hlt2
                cases al <;> cases hh <;>
                · gi_wp2_with (first | (refine ⟨trivial, ?_⟩; gi_at_call 44; refine (callsIn_wide.2 NF.out).mono ?_; rintro e w14 ⟨rfl, hs, hb⟩; have HS14 := Aside0.mk hs; have HB14 := Aside0.mk (HB9.out.trans hb); clear hs hb) | (refine ⟨trivial, ?_⟩; gi_at_call 26; refine (callsIn_wide.2 (TK.out sAnd neAnd _ _ HS14.out)).mono ?_; rintro e w15 ⟨rfl, hs, hb⟩; have HS15 := Aside0.mk hs; have HB15 := Aside0.mk (HB14.out.trans hb); clear hs hb))
                  gi_roundg k2
                  case measure => exact Nat.lt_succ_self _
                  case rel => exact ⟨_, (takeT sAnd t3).1, (takeT sAnd t3).2, rfl, rfl, HS15.out, HB15.out, ⟨fun _ => HLE.out⟩, ⟨HEQ.out _ rfl⟩⟩
end Go.Proofs.YtnkggincckdoiaaDoor.Q
