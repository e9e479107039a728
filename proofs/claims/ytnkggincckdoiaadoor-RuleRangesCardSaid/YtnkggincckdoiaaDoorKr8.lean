import Derived.Test.YtnkggincckdoiaaDoorKr5
import Derived.Test.YtnkggincckdoiaaDoorKr6
import Derived.Test.YtnkggincckdoiaaDoorKr7
import Derived.RangeFuncBound
import Derived.RangeFuncCalls
import Derived.RangeFuncLeaves
import Derived.Shelf.Abstract
import Derived.Shelf.RegionOpen
import Derived.OwnWalkIn
import Derived.TacticsInMore
import Derived.LoopNIn
import Derived.LoopIn
import Derived.Sort.CutIn
import Derived.Sort.LoopGhostIn
namespace Go.Proofs.YtnkggincckdoiaaDoor.Q
open Go.RowKit Go.Shelf Go.Proofs.YtnkggincckdoiaaDoorW.PrintWords Go.Proofs.YtnkggincckdoiaaDoorW.PrintLast Go.Proofs.YtnkggincckdoiaaDoorW.PrintMore
set_option linter.unusedVariables false
set_option linter.unusedSimpArgs false
attribute [local go_sem] Oper.semAt_some
theorem w64i {x : Int} (h0 : 0 ≤ x) (h1 : x ≤ 1000000000000) : wrap64 x = x := by unfold wrap64; omega
theorem cutL_size (s c : ByteArray) : (cutL s c).size ≤ s.size := by
  show (Lib.trimLeftS s.data.toList c.data.toList).toArray.size ≤ _
  rw [List.size_toArray, Lib.trimLeftS, ← slen s]
  exact (List.dropWhile_sublist _).length_le
theorem wsub (s c : ByteArray) (h : s.size ≤ 1000000) : IntKind.i64.wrap ((s.size : Int) - ((cutL s c).size : Int)) = ((s.size - (cutL s c).size : Nat) : Int) := by
  have := cutL_size s c
  simp [IntKind.wrap, IntKind.signed, IntKind.bits]
  omega
theorem tok_n {s' : ByteArray} {n n1 n2 : Nat} (hn : n = if n1 = 0 then n2 else n1) (h1 : n1 = s'.size - (cutL s' sLow).size) (h2 : n2 = s'.size - (cutL s' sDig).size) :
    tokN s' = if n ≠ 0 then some n else if (Lib.hasPrefix s'.data.toList [33, 61] || Lib.hasPrefix s'.data.toList [46, 46]) = true then some 2 else if s'.size = 0 then some 0 else if 0 ≤ Lib.indexByte sSig.data.toList (s'.data.toList.headD 0) then some 1 else none := by
  unfold tokN
  rw [← h1, ← h2]
  by_cases z : n1 = 0
  · rw [if_pos z] at hn; rw [if_neg (fun h => h z), hn]
  · rw [if_neg z] at hn; rw [if_pos z, hn, if_pos z]
theorem ex_one {s : ByteArray} (h : 1 ≤ s.size) : s.extract 0 1 = ⟨#[s.data.toList.headD 0]⟩ := by
  rcases s with ⟨⟨l⟩⟩
  cases l with
  | nil => simp [ByteArray.size] at h
  | cons a b => apply ByteArray.ext; apply Array.toList_inj.1; simp [ByteArray.data_extract]
theorem ne_list {s : ByteArray} (h : s.size ≠ 0) : s.toList.isEmpty = false := by
  rcases s with ⟨⟨l⟩⟩
  cases l with
  | nil => exact absurd rfl h
  | cons a b => rw [ByteArray.toList_eq]; rfl
theorem tokN_le {s : ByteArray} {n : Nat} (h : tokN s = some n) : n ≤ s.size := by
  unfold tokN at h
  split at h
  · cases h; omega
  · split at h
    · cases h; omega
    · split at h
      · rename_i hp
        cases h
        rw [← slen s]
        rcases s with ⟨⟨l⟩⟩
        match l, hp with
        | [], hp => simp [Lib.hasPrefix] at hp
        | [a], hp => simp [Lib.hasPrefix] at hp
        | a :: b :: c, hp => show 2 ≤ (a :: b :: c).length; simp
      · split at h
        · cases h; omega
        · rename_i h0
          split at h
          · cases h; omega
          · cases h
theorem tokN_pos {s : ByteArray} {n : Nat} (h : tokN s = some n) (h0 : s.size ≠ 0) : 0 < n := by
  unfold tokN at h
  split at h
  · cases h; omega
  · split at h
    · cases h; omega
    · split at h
      · cases h; omega
      · first | rw [if_neg h0] at h | skip
        split at h
        · cases h; omega
        · cases h
theorem byteArray_size_zero {s : ByteArray} (h : s.size = 0) : s = ByteArray.empty := by
  rcases s with ⟨⟨l⟩⟩
  cases l with
  | nil => rfl
  | cons a b => simp [ByteArray.size] at h
set_option maxHeartbeats 4000000 in
set_option maxRecDepth 100000 in
theorem parts_in (B m l gs : Nat) (s0 : ByteArray) (hs0 : s0.size ≤ 1000000) (I : ByteArray × List ByteArray → World → Prop) (J : World → Prop)
    (hIW : ∀ β W, I β W → W.heap[gs]? = some (.cells #[.string β.1] 9 (0, 0)) ∧ B ≤ W.heap.size)
    (hIk : ∀ β W W', I β W → Below W.heap.size W W' → I β W') (hJk : ∀ W W', J W → Below W.heap.size W W' → J W')
    (hIs : ∀ β s W, I β W → I (s, β.2) (W.setCell ⟨gs, 0, none⟩ (.string s))) (hJs : ∀ s W, J W → J (W.setCell ⟨gs, 0, none⟩ (.string s)))
    (hY : ∀ (β : ByteArray × List ByteArray) (W : World) (n : Nat), tokN β.1 = some n → β.2.length ≤ s0.size → I β W → J W → YieldAt Fence.wide m Tryd.prog l #[.string (β.1.extract 0 n)] W fun e W' => e = .returned (.bool true) ∧ I (β.1, β.2 ++ [β.1.extract 0 n]) W' ∧ J W')
    (W : World) (h0 : I (s0, []) W) (hj0 : J W) :
    CallsIn Fence.wide (m + 1) Tryd.prog 45 #[.func (.yield l) #[] #[], .pointer (some ⟨gs, 0, none⟩)] W fun e W' =>
      (∃ v, e = .returned v ∧ (∃ s ts, toks (s0.size + 1) s0 = some ts ∧ I (s, ts ++ [ByteArray.empty]) W' ∧ J W')) ∨ (e = .panicked wrongP ∧ toks (s0.size + 1) s0 = none ∧ (∃ β, I β W') ∧ J W') := by
  have HIW := Aside0.mk hIW
  have HIK := Aside0.mk hIk
  have HJK := Aside0.mk hJk
  have HIS := Aside0.mk hIs
  have HJS := Aside0.mk hJs
  have HY := Aside0.mk hY
  have H0 := Aside0.mk h0
  have HJ0 := Aside0.mk hj0
  clear hIW hIk hJk hIs hJs hY h0 hj0
  refine callsIn_of_wp Tryd.func45 rfl trivial ?_ rfl
  simp only [Tryd.ntmps45, List.size_toArray, List.length_cons, List.length_nil, Nat.reduceAdd, Nat.reduceSub, Array.replicate_succ, Array.replicate_zero, List.push_toArray, List.append_toArray, List.nil_append, List.cons_append]
  gi_wp2
  gi_loopg [3] (s0.size + 1) (fun kq v3 wr => ∃ (s : ByteArray) (l' : List ByteArray), I (s, l') wr ∧ J wr ∧ Aside0 (s.size < kq ∧ s.size ≤ 1000000 ∧ l'.length + kq = s0.size + 1) ∧ Aside0 ((toks kq s).map (l' ++ ·) = toks (s0.size + 1) s0))
  case atStart => exact ⟨s0, [], H0.out, HJ0.out, ⟨Nat.lt_succ_self _, hs0, Nat.zero_add _⟩, ⟨by simp⟩⟩
  case round =>
    obtain ⟨s, l', hi, hj, HL, HA⟩ := hrel
    have hx := (HIW.out _ _ hi).1
    have q0 := (blk_cell hx 0).trans (rfl : _ = some (Value.string s))
    have HI := Aside0.mk hi
    have HJ := Aside0.mk hj
    have HX := Aside0.mk hx
    have T1 := Aside0.mk (fun (w2 : World) => trim_in s sBl asc_bl w2)
    obtain ⟨s', hs'⟩ : ∃ s', s' = cutL s sBl := ⟨_, rfl⟩
    rw [← hs'] at T1
    have HC := Aside0.mk hs'
    clear hi hj hx hs'
    gi_upto_region 1 with (refine ⟨trivial, ?_⟩; gi_at_call 46; refine (callsIn_wide.2 (T1.out _)).mono ?_; rintro e w2 ⟨rfl, hb⟩; have hx2 := blk_below HX.out hb; have q1 := (blk_cell hx2 0).trans (rfl : _ = some (Value.string s)); have qf := blk_frozen hx2 0; have HI2 := Aside0.mk (HIS.out _ s' _ (HIK.out _ _ _ HI.out hb)); have HJ2 := Aside0.mk (HJS.out s' _ (HJK.out _ _ HJ.out hb)); clear hb hx2)
    have hmx : Tryd.prog.follows .mixedOrders = true := by kernel_rfl
    have hx3 := (HIW.out _ _ HI2.out).1
    have q3 := (blk_cell hx3 0).trans (rfl : _ = some (Value.string s'))
    generalize w2.setCell ⟨gs, 0, none⟩ (.string s') = w3 at HI2 HJ2 q3 ⊢
    have qq3 := cell_regrown q3
    have TL : ∀ d os, CallsIn Fence.wide m Tryd.prog 46 #[.string s', .string sLow] (Go.Sort.grow (redrawn w3 d) os) fun e w'' => e = .returned (.string (cutL s' sLow)) ∧ ∃ p : Regrown, w'' = Go.Sort.grow (redrawn w3 p.d) p.os := fun d os => CallsIn.regrown_of (callsIn_wide.2 (trim_in s' sLow asc_low _))
    clear hx3 q0 q1 qf
    refine RX.wpIn_region_below (by assumption) (by kernel_rfl) (by kernel_rfl) ?_
    repeat (refine wpQuietIn_step (fun _ _ _ _ => trivial) (fun K hK => ?_); go_simp; first | (refine hK _ ?_; clear hK K) | (apply Exists.intro; refine ⟨fun _ => ?_, hK _ ?_⟩; (first | exact ⟨by intro h; cases h, TL _ _⟩ | exact TL _ _); clear hK K))
    refine wpQuietIn_nil ?_
    intro w4 hb4
    have HI4 := Aside0.mk (HIK.out _ _ _ HI2.out hb4)
    have HJ4 := Aside0.mk (HJK.out _ _ HJ2.out hb4)
    clear hb4 qq3 TL q3
    rename_i Kb hKb
    have HSZ : Aside0 (s'.size ≤ 1000000) := ⟨by rw [HC.out]; exact Nat.le_trans (cutL_size s sBl) HL.out.2.1⟩
    rw [wsub s' sLow HSZ.out]
    obtain ⟨n1, hn1⟩ : ∃ n1, n1 = s'.size - (cutL s' sLow).size := ⟨_, rfl⟩
    rw [← hn1]
    have HN1 := Aside0.mk hn1
    clear hn1
    refine hKb _ _ ?_
    clear hKb Kb
    gi_upto_region 2 with (fail)
    rename_i K4 hK4 Kc hKc
    obtain ⟨n2, hn2⟩ : ∃ n2, n2 = s'.size - (cutL s' sDig).size := ⟨_, rfl⟩
    have HN2 := Aside0.mk hn2
    clear hn2
    have KK4 : ∀ (n : Nat) (w5 : World) (v13 v14 v15 v16 v17 v18 v19 : Value), n = (if n1 = 0 then n2 else n1) → I (s', l') w5 → J w5 → K4 { tmps := #[Value.func (Fn.yield l) #[] #[], Value.pointer (some ⟨gs, 0, none⟩), undef, Value.int .i64 (n : Int), Value.string s, Value.string s', Value.string s', Value.int .i64 (s'.size : Int), Value.string s', Value.string (cutL s' sLow), Value.int .i64 ((cutL s' sLow).size : Int), Value.int .i64 (n1 : Int), Value.int .i64 (n1 : Int), v13, v14, v15, v16, v17, v18, v19, u20, u21, u22, u23, u24, u25, u26, u27, u28, u29, u30, u31, u32, u33, u34, u35, u36, u37, u38, u39, u40, u41, u42, u43, u44, u45, u46, u47, u48, u49], defers := [] } w5 := by
      intro n w5 v13 v14 v15 v16 v17 v18 v19 hn hi hj
      have HI5 := Aside0.mk hi
      have HJ5 := Aside0.mk hj
      have HNN := Aside0.mk hn
      refine hK4 _ _ ?_
      clear hK4 hi hj hn hKc Kc
      gi_upto_region 4 with (fail)
      rename_i K10 hK10 Kd hKd
      have HT : Aside0 (tokN s' = if n ≠ 0 then some n else if (Lib.hasPrefix s'.data.toList [33, 61] || Lib.hasPrefix s'.data.toList [46, 46]) = true then some 2 else if s'.size = 0 then some 0 else if 0 ≤ Lib.indexByte sSig.data.toList (s'.data.toList.headD 0) then some 1 else none) := ⟨tok_n HNN.out HN1.out HN2.out⟩
      have KK10 : ∀ (n : Nat) (w6 : World) (v13 v14 v15 v16 v17 v18 v19 v20 v21 v22 v23 v24 v25 v26 v27 v28 v29 v30 v31 v32 v33 v34 v35 v36 : Value), tokN s' = some n → I (s', l') w6 → J w6 → K10 { tmps := #[Value.func (Fn.yield l) #[] #[], Value.pointer (some ⟨gs, 0, none⟩), undef, Value.int .i64 (n : Int), Value.string s, Value.string s', Value.string s', Value.int .i64 (s'.size : Int), Value.string s', Value.string (cutL s' sLow), Value.int .i64 ((cutL s' sLow).size : Int), Value.int .i64 (n1 : Int), Value.int .i64 (n1 : Int), v13, v14, v15, v16, v17, v18, v19, v20, v21, v22, v23, v24, v25, v26, v27, v28, v29, v30, v31, v32, v33, v34, v35, v36, u37, u38, u39, u40, u41, u42, u43, u44, u45, u46, u47, u48, u49], defers := [] } w6 := by
        intro n w6 v13 v14 v15 v16 v17 v18 v19 v20 v21 v22 v23 v24 v25 v26 v27 v28 v29 v30 v31 v32 v33 v34 v35 v36 ht hi hj
        have HI6 := Aside0.mk hi
        have HJ6 := Aside0.mk hj
        have HTT := Aside0.mk ht
        refine hK10 _ _ ?_
        clear hK10 hi hj ht HT HNN HI5 HJ5 hKd Kd
        have hle : n ≤ s'.size := tokN_le HTT.out
        have hx8 := (HIW.out _ _ HI6.out).1
        have q8 := (blk_cell hx8 0).trans (rfl : _ = some (Value.string s'))
        obtain ⟨fn, tmps, assign, body, hy, hR⟩ := HY.out (s', l') w6 n HTT.out (by have h1 := HL.out.1; have h2 := HL.out.2.2; show l'.length ≤ _; omega) HI6.out HJ6.out
        have HRR := Aside0.mk hR
        clear hx8 hR
        obtain ⟨k1, rfl⟩ : ∃ k1, gk = k1 + 1 := ⟨gk - 1, by have := HL.out.1; omega⟩
        by_cases z0 : s'.size = 0
        · have hsb : s'.toList.isEmpty = true := by rw [byteArray_size_zero z0, ByteArray.toList_eq]; rfl
          gi_wp2_with (refine HRR.out.mono ?_; rintro e W3 ⟨rfl, hi8, hj8⟩; have hx9 := (HIW.out _ _ hi8).1; have q9 := (blk_cell hx9 0).trans (rfl : _ = some (Value.string s')); have qf9 := blk_frozen hx9 0; have HI8 := Aside0.mk hi8; have HJ8 := Aside0.mk hj8; clear hi8 hj8 hx9 q8)
          refine bodyPost_ret (results_none rfl _ _ _) rfl ?_
          refine Or.inl ⟨_, rfl, s', l', ?_, ?_, HJ8.out⟩
          · rw [← HA.out, toks, ← HC.out, HTT.out]
            simp only [z0, if_pos]
            simp
          · have he : s'.extract 0 n = ByteArray.empty := byteArray_size_zero (by simp [z0])
            rw [← he]; exact HI8.out
        · have hsb : s'.toList.isEmpty = false := ne_list z0
          gi_wp2_with (refine HRR.out.mono ?_; rintro e W3 ⟨rfl, hi8, hj8⟩; have hx9 := (HIW.out _ _ hi8).1; have q9 := (blk_cell hx9 0).trans (rfl : _ = some (Value.string s')); have qf9 := blk_frozen hx9 0; have HI8 := Aside0.mk hi8; have HJ8 := Aside0.mk hj8; clear hi8 hj8 hx9 q8)
          gi_roundg k1
          case rel =>
            refine ⟨s'.extract n s'.size, l' ++ [s'.extract 0 n], HIS.out _ _ _ HI8.out, HJS.out _ _ HJ8.out, ⟨?_, ?_, ?_⟩, ⟨?_⟩⟩
            · have h1 := tokN_pos HTT.out z0
              have h2 := HL.out.1
              have h3 : s'.size ≤ s.size := by rw [HC.out]; exact cutL_size s sBl
              simp only [ByteArray.size_extract]
              omega
            · have := HSZ.out
              simp only [ByteArray.size_extract]
              omega
            · have := HL.out.2.2
              simp only [List.length_append, List.length_singleton]
              omega
            · rw [← HA.out]
              conv => rhs; rw [toks, ← HC.out, HTT.out]
              simp only [if_neg z0, Option.map_map]
              congr 1
              funext q
              simp
          case measure => exact Nat.lt_succ_self _
      clear hK10
      by_cases zn : n = 0
      · subst zn
        have HI5b := HI5
        have hx6 := (HIW.out _ _ HI5.out).1
        have q6 := (blk_cell hx6 0).trans (rfl : _ = some (Value.string s'))
        rw [if_neg (fun h => h rfl)] at HT
        obtain ⟨b1, hb1⟩ : ∃ b1, b1 = Lib.hasPrefix s'.data.toList [33, 61] := ⟨_, rfl⟩
        obtain ⟨b2, hb2⟩ : ∃ b2, b2 = Lib.hasPrefix s'.data.toList [46, 46] := ⟨_, rfl⟩
        rw [← hb1, ← hb2] at HT
        have TP1 : Aside0 (∀ w, Calls Tryd.prog 39 #[.string s', .string ⟨#[33, 61]⟩] w fun e w' => e = .returned (.bool b1) ∧ w' = w) := ⟨fun w => by rw [hb1]; exact Tryd.strings_HasPrefix s' _ w⟩
        have TP2 : Aside0 (∀ w, Calls Tryd.prog 39 #[.string s', .string ⟨#[46, 46]⟩] w fun e w' => e = .returned (.bool b2) ∧ w' = w) := ⟨fun w => by rw [hb2]; exact Tryd.strings_HasPrefix s' _ w⟩
        clear hb1 hb2 hx6
        cases b1
        · cases b2
          · rw [if_neg (by decide)] at HT
            gi_upto_region 7 with (first | (refine ⟨trivial, ?_⟩; gi_at_call 39; refine (callsIn_wide.2 (TP1.out _)).mono ?_; rintro e w2 ⟨rfl, rfl⟩) | (refine ⟨trivial, ?_⟩; gi_at_call 39; refine (callsIn_wide.2 (TP2.out _)).mono ?_; rintro e w2 ⟨rfl, rfl⟩) | (refine ⟨trivial, ?_⟩))
            clear TP1 TP2 q6
            have hx7 := (HIW.out _ _ HI5b.out).1
            have q7 := (blk_cell hx7 0).trans (rfl : _ = some (Value.string s'))
            clear hx7
            by_cases z0 : s'.size = 0
            · rw [if_pos z0] at HT
              have hse : s' = ⟨#[]⟩ := by rcases s' with ⟨⟨l⟩⟩; cases l with | nil => rfl | cons a b => simp [ByteArray.size] at z0
              have hsb : s'.toList.isEmpty = true := by rw [hse, ByteArray.toList_eq]; rfl
              clear hse
              gi_wp2_with (fail)
              exact KK10 0 _ _ _ _ _ _ _ _ _ _ _ _ _ _ _ _ _ _ _ _ _ _ _ _ _ HT.out HI5b.out HJ5.out
            · rw [if_neg z0] at HT
              have hse : s' ≠ ⟨#[]⟩ := fun h => z0 (by rw [h]; rfl)
              have hsb : s'.toList.isEmpty = false := ne_list z0
              gi_upto_region 8 with (fail)
              have h1 : 1 ≤ s'.size := Nat.one_le_iff_ne_zero.2 z0
              obtain ⟨bc, hbc⟩ : ∃ bc, bc = decide (0 ≤ Lib.indexByte sSig.data.toList (s'.data.toList.headD 0)) := ⟨_, rfl⟩
              have TC : Aside0 (∀ w, Calls Tryd.prog 47 #[.string ⟨#[58, 59, 37, 61, 44, 43]⟩, .string (s'.extract 0 1)] w fun e w' => e = .returned (.bool bc) ∧ w' = w) := ⟨fun w => by rw [hbc, ex_one h1]; exact Tryd.strings_Contains_one sSig _ w⟩
              cases bc
              · rw [if_neg (of_decide_eq_false hbc.symm)] at HT
                clear hbc
                have TMu := Aside0.mk (fun w => must_in false w)
                gi_upto_region 9 with (first | (refine ⟨trivial, ?_⟩; gi_at_call 47; refine (callsIn_wide.2 (TC.out _)).mono ?_; rintro e w2 ⟨rfl, rfl⟩) | (refine ⟨trivial, ?_⟩; gi_at_call 28; refine (callsIn_wide.2 (TMu.out _)).mono ?_; rintro e w2 ⟨rfl, rfl⟩) | (refine ⟨trivial, ?_⟩))
                clear KK10
                refine ⟨rfl, Or.inr ⟨rfl, ?_, ⟨_, HI5b.out⟩, HJ5.out⟩⟩
                obtain ⟨k1, rfl⟩ : ∃ k1, gk = k1 + 1 := ⟨gk - 1, by have := HL.out.1; omega⟩
                rw [← HA.out, toks, ← HC.out, HT.out]
                rfl
              · rw [if_pos (of_decide_eq_true hbc.symm)] at HT
                clear hbc
                have TMu := Aside0.mk (fun w => must_in true w)
                gi_wp2_with (first | (refine ⟨trivial, ?_⟩; gi_at_call 47; refine (callsIn_wide.2 (TC.out _)).mono ?_; rintro e w2 ⟨rfl, rfl⟩) | (refine ⟨trivial, ?_⟩; gi_at_call 28; refine (callsIn_wide.2 (TMu.out _)).mono ?_; rintro e w2 ⟨rfl, rfl⟩) | (refine ⟨trivial, ?_⟩))
                exact KK10 1 _ _ _ _ _ _ _ _ _ _ _ _ _ _ _ _ _ _ _ _ _ _ _ _ _ HT.out HI5b.out HJ5.out
          · rw [if_pos (by decide)] at HT
            gi_wp2_with (first | (refine ⟨trivial, ?_⟩; gi_at_call 39; refine (callsIn_wide.2 (TP1.out _)).mono ?_; rintro e w2 ⟨rfl, rfl⟩) | (refine ⟨trivial, ?_⟩; gi_at_call 39; refine (callsIn_wide.2 (TP2.out _)).mono ?_; rintro e w2 ⟨rfl, rfl⟩) | (refine ⟨trivial, ?_⟩))
            exact KK10 2 _ _ _ _ _ _ _ _ _ _ _ _ _ _ _ _ _ _ _ _ _ _ _ _ _ HT.out HI5b.out HJ5.out
        · rw [if_pos (by simp)] at HT
          gi_wp2_with (first | (refine ⟨trivial, ?_⟩; gi_at_call 39; refine (callsIn_wide.2 (TP1.out _)).mono ?_; rintro e w2 ⟨rfl, rfl⟩) | (refine ⟨trivial, ?_⟩; gi_at_call 39; refine (callsIn_wide.2 (TP2.out _)).mono ?_; rintro e w2 ⟨rfl, rfl⟩) | (refine ⟨trivial, ?_⟩))
          exact KK10 2 _ _ _ _ _ _ _ _ _ _ _ _ _ _ _ _ _ _ _ _ _ _ _ _ _ HT.out HI5b.out HJ5.out
      · have hgt : decide ((n : Int) > 0) = true := decide_eq_true (by omega)
        gi_wp2
        exact KK10 n _ _ _ _ _ _ _ _ _ _ _ _ _ _ _ _ _ _ _ _ _ _ _ _ _ (by rw [HT.out, if_pos zn]) HI5.out HJ5.out
    clear hK4
    by_cases z1 : n1 = 0
    · have hq : ((n1 : Int) == 0) = true := beq_iff_eq.2 (by omega)
      have hx5 := (HIW.out _ _ HI4.out).1
      have q5 := (blk_cell hx5 0).trans (rfl : _ = some (Value.string s'))
      have qq5 := cell_regrown q5
      have TD : ∀ d os, CallsIn Fence.wide m Tryd.prog 46 #[.string s', .string sDig] (Go.Sort.grow (redrawn w4 d) os) fun e w'' => e = .returned (.string (cutL s' sDig)) ∧ ∃ p : Regrown, w'' = Go.Sort.grow (redrawn w4 p.d) p.os := fun d os => CallsIn.regrown_of (callsIn_wide.2 (trim_in s' sDig asc_dig _))
      clear hx5 q5
      gi_upto_region 3 with (fail)
      refine RX.wpIn_region_below (by assumption) (by kernel_rfl) (by kernel_rfl) ?_
      repeat (refine wpQuietIn_step (fun _ _ _ _ => trivial) (fun K hK => ?_); go_simp; first | (refine hK _ ?_; clear hK K) | (apply Exists.intro; refine ⟨fun _ => ?_, hK _ ?_⟩; (first | exact ⟨by intro h; cases h, TD _ _⟩ | exact TD _ _); clear hK K))
      refine wpQuietIn_nil ?_
      intro w5 hb5
      have HI5 := Aside0.mk (HIK.out _ _ _ HI4.out hb5)
      have HJ5 := Aside0.mk (HJK.out _ _ HJ4.out hb5)
      rw [wsub s' sDig HSZ.out, ← HN2.out]
      subst z1
      exact KK4 n2 _ _ _ _ _ _ _ _ rfl HI5.out HJ5.out
    · have hq : ((n1 : Int) == 0) = false := beq_eq_false_iff_ne.2 (by omega)
      gi_wp2
      exact KK4 n1 _ _ _ _ _ _ _ _ (by rw [if_neg z1]) HI4.out HJ4.out
end Go.Proofs.YtnkggincckdoiaaDoor.Q
