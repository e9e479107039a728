import Derived.Test.YtnkggincckdoiaaDoorKs22
import Derived.Test.YtnkggincckdoiaaDoorKs31
import Derived.Test.YtnkggincckdoiaaDoorKs24
namespace Go.Proofs.YtnkggincckdoiaaDoor.Q
open Go.RowKit Go.Proofs.YtnkggincckdoiaaDoorW.PrintWords Go.Proofs.YtnkggincckdoiaaDoorW.PrintMore Go.Proofs.YtnkggincckdoiaaDoor.OB
set_option linter.unusedVariables false
set_option linter.unusedSimpArgs false
def nb (l : List UInt8) : List Int := l.map fun b => (b.toNat : Int)
theorem nb_len (l : List UInt8) : (nb l).length = l.length := List.length_map _
theorem nb_app (a b : List UInt8) : nb (a ++ b) = nb a ++ nb b := List.map_append
theorem str_nb (l : List UInt8) : strOfNums (nb l) = mkS l := by
  unfold strOfNums nb mkS
  congr 1
  rw [List.map_map]
  congr 1
  refine (List.map_congr_left (g := id) fun b _ => ?_).trans (List.map_id l)
  simp
theorem wS (i : Nat) (h : i < 100000) : wrap64 ((i : Int) + 1) = ((i : Int) + 1) := by unfold wrap64; omega
theorem wS2 (i : Nat) (h : i < 100000) : IntKind.i64.wrap ((i : Int) + 1) = ((i : Int) + 1) := IntWalk.i64_in _ (by omega)
theorem conv_own {w : World} {base : Nat} {v : Value} {l : List UInt8} (h : OwnB w base 5 v (nb l)) : (convert 39 9 v).run Tryd.prog w = .ok (.string (mkS l)) w := by
  obtain ⟨g, cap, rfl, _⟩ := h.slice
  rw [← str_nb]
  exact string_of_reads Tryd.underlying39 Tryd.underlying5 Tryd.underlying9 h.reads.2
set_option maxHeartbeats 2000000 in
set_option maxRecDepth 100000 in
theorem rmay_range (i : ByteArray) (v u : Int) (f t : ByteArray) (e : Int) (w : World) (h : rangeO v u e = false) :
    Calls Tryd.prog 17 #[.agg #[.string i, .int .i64 v, .int .i64 u, .string f, .string t, .int .i64 e]] w fun e' w' => e' = .returned (.bool false) ∧ Below w.heap.size w w' := by
  have hu29 := Tryd.underlying29
  by_cases h0 : v < 0
  · have q0 : decide (v < 0) = true := decide_eq_true h0
    clear h
    go_enter Tryd.func17, Tryd.ntmps17
    go_wp2
    go_ret
    exact ⟨rfl, below_alloc (Below.refl _ _) _⟩
  have q0 : decide (v < 0) = false := decide_eq_false h0
  by_cases h1 : 8192 < v
  · have q1 : decide (8192 < v) = true := decide_eq_true h1
    clear h
    go_enter Tryd.func17, Tryd.ntmps17
    go_wp2
    go_ret
    exact ⟨rfl, below_alloc (Below.refl _ _) _⟩
  have q1 : decide (8192 < v) = false := decide_eq_false h1
  by_cases h2 : u < 0
  · have q2 : decide (u < 0) = true := decide_eq_true h2
    clear h
    go_enter Tryd.func17, Tryd.ntmps17
    go_wp2
    go_ret
    exact ⟨rfl, below_alloc (Below.refl _ _) _⟩
  have q2 : decide (u < 0) = false := decide_eq_false h2
  by_cases h3 : v < u
  · have q3 : decide (v < u) = true := decide_eq_true h3
    clear h
    go_enter Tryd.func17, Tryd.ntmps17
    go_wp2
    go_ret
    exact ⟨rfl, below_alloc (Below.refl _ _) _⟩
  have q3 : decide (v < u) = false := decide_eq_false h3
  by_cases h4 : e < 0
  · have q4 : decide (e < 0) = true := decide_eq_true h4
    clear h
    go_enter Tryd.func17, Tryd.ntmps17
    go_wp2
    go_ret
    exact ⟨rfl, below_alloc (Below.refl _ _) _⟩
  have q4 : decide (e < 0) = false := decide_eq_false h4
  by_cases h5 : 8192 < e
  · have q5 : decide (8192 < e) = true := decide_eq_true h5
    clear h
    go_enter Tryd.func17, Tryd.ntmps17
    go_wp2
    go_ret
    exact ⟨rfl, below_alloc (Below.refl _ _) _⟩
  have q5 : decide (8192 < e) = false := decide_eq_false h5
  exfalso
  unfold rangeO at h
  rw [decide_eq_true (show 0 ≤ v by omega), decide_eq_true (show v ≤ 8192 by omega), decide_eq_true (show 0 ≤ u by omega), decide_eq_true (show u ≤ v by omega), decide_eq_true (show 0 ≤ e by omega), decide_eq_true (show e ≤ 8192 by omega)] at h
  cases h
theorem rangeO_yes {v u e : Int} (h : rangeO v u e = true) : 0 ≤ v ∧ v ≤ 8192 ∧ 0 ≤ u ∧ u ≤ v ∧ 0 ≤ e ∧ e ≤ 8192 := by
  unfold rangeO at h
  simp only [Bool.and_eq_true, decide_eq_true_eq] at h
  omega
theorem blkM {W W' : World} {cs : Array Value} (hb : Below (W.alloc (.cells cs 29)).heap.size (W.alloc (.cells cs 29)) W') : W'.heap[W.heap.size]? = some (.cells cs 29 (0, 0)) := by
  rw [hb.block _ (by simp)]; exact blk_new W _
theorem nn1 {x V : Nat} (h : x < V) (hV : V ≤ 8192) : x < 100000 := by omega
theorem nn2 {U x V n : Nat} {l : List UInt8} (h : x ≤ V) (hV : V ≤ 8192) (hl : l.length = n) (hn : n ≤ 8193) : (l ++ List.replicate (x - U) 48).length ≤ 20000 := by
  rw [List.length_append, List.length_replicate]; omega
theorem nn3 {U x V : Nat} (h : x ≤ V) (h2 : ¬ x < V) : ((V : Int) - (U : Int)).toNat = x - U := by omega
theorem nn4 {x V : Nat} (h : x < V) : decide ((x : Int) < (V : Int)) = true := decide_eq_true (by omega)
theorem nn5 {x V : Nat} (h : ¬ x < V) : decide ((x : Int) < (V : Int)) = false := decide_eq_false (by omega)
theorem nn7 {n : Nat} (h : n ≤ 20000) : n < 140737488355328 := by omega
theorem nn8 {U x : Nat} (h : U ≤ x) : x + 1 - U = x - U + 1 := by omega
theorem rnum_calls (s : ByteArray) (m : Int) (hs : s.size ≤ 140737488355328) (w : World) : Calls Tryd.prog 23 #[.string s, .int .i64 m] w fun e w' => e = .returned (.bool (numberB s m)) ∧ Below w.heap.size w w' :=
  (quipuref08_number.calls (s.size + 1) s m _ w (rnum_p s m hs _ (by omega))).mono fun _ _ h => ⟨h.1, h.2.below⟩
set_option maxHeartbeats 4000000 in
set_option maxRecDepth 100000 in
theorem rmay_rest (i : ByteArray) (v u : Int) (f t : ByteArray) (e : Int) (w : World) (hi : i.size ≤ 140737488355328) (hf : f.size ≤ 140737488355328) (ht : t.size ≤ 140737488355328) (h : rangeO v u e = true) :
    Calls Tryd.prog 17 #[.agg #[.string i, .int .i64 v, .int .i64 u, .string f, .string t, .int .i64 e]] w fun e' w' => e' = .returned (.bool (numberB i 8192 && (numberB f v && (numberB t u && lastO v u f t)))) ∧ Below w.heap.size w w' := by
  have hu29 := Tryd.underlying29
  obtain ⟨g0, g1, g2, g3, g4, g5⟩ := rangeO_yes h
  have q0 : decide (v < 0) = false := decide_eq_false (by omega)
  have q1 : decide (8192 < v) = false := decide_eq_false (by omega)
  have q2 : decide (u < 0) = false := decide_eq_false (by omega)
  have q3 : decide (v < u) = false := decide_eq_false (by omega)
  have q4 : decide (e < 0) = false := decide_eq_false (by omega)
  have q5 : decide (8192 < e) = false := decide_eq_false (by omega)
  have HR := Aside0.mk h
  clear h
  go_enter Tryd.func17, Tryd.ntmps17
  go_wp2_with fail
  refine (rnum_calls i 8192 hi _).mono ?_
  rintro e' w1 ⟨rfl, hb1⟩
  have K1 : Aside0 (w1.heap[w.heap.size]? = some (.cells #[.string i, .int .i64 v, .int .i64 u, .string f, .string t, .int .i64 e] 29 (0, 0))) := ⟨blkM hb1⟩
  have HB1 := Aside0.mk (below_step (below_alloc (Below.refl _ _) _) hb1)
  clear hb1
  have z1_w1 : w1.cell? ⟨w.heap.size, 1, none⟩ = some (.int .i64 v) := (blk_cell K1.out 1).trans rfl
  have z2_w1 : w1.cell? ⟨w.heap.size, 2, none⟩ = some (.int .i64 u) := (blk_cell K1.out 2).trans rfl
  have z3_w1 : w1.cell? ⟨w.heap.size, 3, none⟩ = some (.string f) := (blk_cell K1.out 3).trans rfl
  have z4_w1 : w1.cell? ⟨w.heap.size, 4, none⟩ = some (.string t) := (blk_cell K1.out 4).trans rfl
  cases n1 : numberB i 8192 with
  | false =>
    go_wp2
    go_ret
    exact ⟨by first | rfl | (rw [n1]; rfl), HB1.out⟩
  | true =>
  have N1 := Aside0.mk n1
  clear n1
  go_wp2_with fail
  refine (rnum_calls f v hf _).mono ?_
  rintro e' w2 ⟨rfl, hb2⟩
  have K2 : Aside0 (w2.heap[w.heap.size]? = some (.cells #[.string i, .int .i64 v, .int .i64 u, .string f, .string t, .int .i64 e] 29 (0, 0))) := ⟨by rw [hb2.block _ (blk_lt K1.out)]; exact K1.out⟩
  have HB2 := Aside0.mk (below_step HB1.out hb2)
  clear hb2 z1_w1 z2_w1 z3_w1 z4_w1
  have z1_w2 : w2.cell? ⟨w.heap.size, 1, none⟩ = some (.int .i64 v) := (blk_cell K2.out 1).trans rfl
  have z2_w2 : w2.cell? ⟨w.heap.size, 2, none⟩ = some (.int .i64 u) := (blk_cell K2.out 2).trans rfl
  have z3_w2 : w2.cell? ⟨w.heap.size, 3, none⟩ = some (.string f) := (blk_cell K2.out 3).trans rfl
  have z4_w2 : w2.cell? ⟨w.heap.size, 4, none⟩ = some (.string t) := (blk_cell K2.out 4).trans rfl
  cases n2 : numberB f v with
  | false =>
    go_wp2
    go_ret
    exact ⟨by first | rfl | (rw [N1.out, n2]; rfl), HB2.out⟩
  | true =>
  have N2 := Aside0.mk n2
  clear n2
  go_wp2_with fail
  refine (rnum_calls t u ht _).mono ?_
  rintro e' w3 ⟨rfl, hb3⟩
  have K3 : Aside0 (w3.heap[w.heap.size]? = some (.cells #[.string i, .int .i64 v, .int .i64 u, .string f, .string t, .int .i64 e] 29 (0, 0))) := ⟨by rw [hb3.block _ (blk_lt K2.out)]; exact K2.out⟩
  have HB3 := Aside0.mk (below_step HB2.out hb3)
  clear hb3 z1_w2 z2_w2 z3_w2 z4_w2
  have z1_w3 : w3.cell? ⟨w.heap.size, 1, none⟩ = some (.int .i64 v) := (blk_cell K3.out 1).trans rfl
  have z2_w3 : w3.cell? ⟨w.heap.size, 2, none⟩ = some (.int .i64 u) := (blk_cell K3.out 2).trans rfl
  have z3_w3 : w3.cell? ⟨w.heap.size, 3, none⟩ = some (.string f) := (blk_cell K3.out 3).trans rfl
  have z4_w3 : w3.cell? ⟨w.heap.size, 4, none⟩ = some (.string t) := (blk_cell K3.out 4).trans rfl
  cases n3 : numberB t u with
  | false =>
    go_wp2
    go_ret
    exact ⟨by first | rfl | (rw [N1.out, N2.out, n3]; rfl), HB3.out⟩
  | true =>
  have N3 := Aside0.mk n3
  have hts := number_size n3
  clear n3
  by_cases h7 : t.toList = ([48] : List UInt8)
  · have L7 : Aside0 (lastO v u f t = (f.toList == ([48] : List UInt8))) := ⟨if_pos h7⟩
    have h8 : (t.toList == ([48] : List UInt8)) = true := beq_iff_eq.2 h7
    have FIN : Aside0 ((numberB i 8192 && (numberB f v && (numberB t u && lastO v u f t))) = (f.toList == ([48] : List UInt8))) := ⟨by rw [N1.out, N2.out, N3.out, L7.out]; rfl⟩
    clear h7 L7 N1 N2 N3
    go_wp2
    go_ret
    exact ⟨by rw [FIN.out]; rfl, HB3.out⟩
  · have L7 : Aside0 (lastO v u f t = (f.toList == t.toList ++ List.replicate (v - u).toNat 48)) := ⟨if_neg h7⟩
    have h8 : (t.toList == ([48] : List UInt8)) = false := beq_eq_false_iff_ne.2 h7
    have FIN : Aside0 ((numberB i 8192 && (numberB f v && (numberB t u && lastO v u f t))) = (f.toList == t.toList ++ List.replicate (v - u).toNat 48)) := ⟨by rw [N1.out, N2.out, N3.out, L7.out]; rfl⟩
    clear L7 N1 N2 N3
    have hcv := fun (W : World) => Lib.run_convert_string_bytes (P := Tryd.prog) W 9 39 5 t Tryd.underlying9 Tryd.underlying39 Tryd.underlying5
    have hs3 := blk_lt K3.out
    have OM := Aside0.mk (OwnB.made w3 5 t (w.heap.size + 1) (by omega) (by unfold maxLen; omega))
    have HB4 := Aside0.mk (bytes_below HB3.out HB3.out.size 5 t)
    have K4 := Aside0.mk ((Lib.bytesWorld_at_old w3 5 t w.heap.size hs3).trans K3.out)
    have hz4 := Lib.bytesWorld_size w3 5 t
    obtain ⟨w4, hw4⟩ : ∃ W, W = Lib.bytesWorld w3 5 t := ⟨_, rfl⟩
    rw [← hw4] at OM HB4 K4 hz4
    have hcv3 := hcv w3
    rw [← hw4] at hcv3
    have hs4 : w.heap.size < w4.heap.size := by omega
    clear hcv hw4 hz4
    have y1 : w4.cell? ⟨w.heap.size, 1, none⟩ = some (.int .i64 v) := (blk_cell K4.out 1).trans rfl
    have y2 : w4.cell? ⟨w.heap.size, 2, none⟩ = some (.int .i64 u) := (blk_cell K4.out 2).trans rfl
    have ET : Aside0 (bytesOf t = nb t.toList) := ⟨by rw [toList_data]; rfl⟩
    rw [bytesOf_length, ET.out] at OM
    have htl : t.toList.length = t.size := by rw [toList_data, slen]
    have HTL := Aside0.mk htl
    have ht8 : t.size ≤ 8193 := by omega
    have hV8 : v ≤ 8192 := g1
    clear htl h7 ET hts g1 g4 g5 hi hf
    go_wp2
    obtain ⟨V, rfl⟩ := Int.eq_ofNat_of_zero_le g0
    obtain ⟨U, rfl⟩ := Int.eq_ofNat_of_zero_le g2
    have hV : V ≤ 8192 := Int.ofNat_le.1 hV8
    have HV := Aside0.mk hV
    have HUV : Aside0 (U ≤ V) := ⟨by omega⟩
    clear hV8 hV g0 g2 g3
    clear y1 y2
    go_loopw [3, 4] (fun v3 v4 wr => ∃ x : Nat, v4 = .int .i64 (x : Int) ∧ U ≤ x ∧ x ≤ V ∧ w.heap.size < wr.heap.size ∧ Aside0 (OwnB wr (w.heap.size + 1) 5 v3 (nb (t.toList ++ List.replicate (x - U) 48))) ∧ Aside0 (wr.heap[w.heap.size]? = some (.cells #[.string i, .int .i64 V, .int .i64 U, .string f, .string t, .int .i64 e] 29 (0, 0))) ∧ Aside0 (Below w.heap.size w wr)) (fun _ v4 _ => V - (intOf v4).toNat)
    case atStart => exact ⟨U, rfl, Nat.le_refl _, HUV.out, hs4, ⟨by rw [Nat.sub_self]; simpa using OM.out⟩, K4, HB4⟩
    case round =>
      clear OM K4 HB4 hs4
      obtain ⟨x, rfl, hUx, hk, hsr, OM, K4, HBr⟩ := hrel
      have y1 : wr.cell? ⟨w.heap.size, 1, none⟩ = some (.int .i64 V) := (blk_cell K4.out 1).trans rfl
      by_cases hlt : x < V
      · have d0 : decide ((x : Int) < (V : Int)) = true := nn4 hlt
        have d1 : decide (x < V) = true := decide_eq_true hlt
        have r1 := wS x (nn1 hlt HV.out)
        have r2 := wS2 x (nn1 hlt HV.out)
        have hln : (t.toList ++ List.replicate (x - U) 48).length ≤ 20000 := nn2 hk HV.out HTL.out ht8
        go_wp2_with ((with_reducible refine gate_builtin (b := .append) (xs := #[.tmp 72, .tmp 73]) rfl ?_); at_builtin; obtain ⟨i0, hi0, hi2, hi1, hi3⟩ := info_parts info5; refine wpList_append_B rfl (.tmp 72) (.tmp 73) 39 rfl (w.heap.size + 1) 5 i0 Tryd.underlying39 hi0 hi2 hi1 hi3 _ (nb (t.toList ++ List.replicate (x - U) 48)) rfl ?aqO ⟨wr.heap.size, 0, none⟩ 1 48 rfl ?aqY ?aqL ?aqB ?_; (case aqO => exact OM.out.alloc _); (case aqY => exact (blk_cell (blk_new wr _) 0).trans rfl); (case aqL => rw [nb_len]; exact nn7 hln); (case aqB => simp; omega); intro v' w' hO hg hat; have HO := Aside0.mk hO; have HG := Aside0.mk hg; clear hO hg hat hi0 hi1 hi2 hi3)
        have hgs := HG.out.size
        simp at hgs
        have hvb := fun k hk => (OM.out.block k hk).1
        have HO2 : Aside0 (OwnB w' (w.heap.size + 1) 5 v' (nb (t.toList ++ List.replicate (x + 1 - U) 48))) := ⟨by rw [nn8 hUx, List.replicate_succ', ← List.append_assoc, nb_app]; exact HO.out⟩
        have K5 : Aside0 (w'.heap[w.heap.size]? = some (.cells #[.string i, .int .i64 V, .int .i64 U, .string f, .string t, .int .i64 e] 29 (0, 0))) := ⟨by
          rw [HG.out.block w.heap.size (by simp; omega) (fun h => by have := hvb _ h.symm; omega)]; exact blk_alloc K4.out _⟩
        have HB2 : Aside0 (Below w.heap.size w w') := ⟨(below_alloc HBr.out _).grown HG.out (by simp; omega) (fun k hk => by have := hvb _ hk; omega)⟩
        clear HO HG hvb OM K4 HBr hln y1
        go_wp2
        go_roundw
        case rel => exact ⟨x + 1, by go_num, by omega, by omega, by omega, HO2, K5, HB2⟩
        case measure => simp [intOf]; omega
      · have d0 : decide ((x : Int) < (V : Int)) = false := nn5 hlt
        have d1 : decide (x < V) = false := decide_eq_false hlt
        have hcv1 := conv_own OM.out
        have y3 : wr.cell? ⟨w.heap.size, 3, none⟩ = some (.string f) := (blk_cell K4.out 3).trans rfl
        have hk2 : ((V : Int) - (U : Int)).toNat = x - U := nn3 hk hlt
        have FIN2 : Aside0 ((numberB i 8192 && (numberB f V && (numberB t U && lastO V U f t))) = ((mkS (t.toList ++ List.replicate (x - U) 48)).toList == f.toList)) := ⟨by
          rw [FIN.out, hk2, toList_data (mkS _), mkS_data]; exact Bool.beq_comm⟩
        clear hk2 FIN
        generalize mkS (t.toList ++ List.replicate (x - U) 48) = X at hcv1 FIN2
        go_wp2
        go_ret
        exact ⟨by rw [FIN2.out]; rfl, HBr.out⟩
def quipuref08_May.f (i : ByteArray) (v u : Int) (f t : ByteArray) (e : Int) : Option Bool :=
  if i.size ≤ 140737488355328 then (if f.size ≤ 140737488355328 then (if t.size ≤ 140737488355328 then some (mayO i v u f t e) else none) else none) else none
theorem quipuref08_May.calls (a0_0 : ByteArray) (a0_1 a0_2 : Int) (a0_3 a0_4 : ByteArray) (a0_5 : Int) (r : Bool) (w : World) (h : quipuref08_May.f a0_0 a0_1 a0_2 a0_3 a0_4 a0_5 = some r) :
    Calls Tryd.prog 17 #[.agg #[.string a0_0, .int .i64 a0_1, .int .i64 a0_2, .string a0_3, .string a0_4, .int .i64 a0_5]] w fun e w' => e = .returned (.bool r) ∧ Below w.heap.size w w' := by
  unfold quipuref08_May.f at h
  by_cases c1 : a0_0.size ≤ 140737488355328
  · rw [if_pos c1] at h
    by_cases c2 : a0_3.size ≤ 140737488355328
    · rw [if_pos c2] at h
      by_cases c3 : a0_4.size ≤ 140737488355328
      · rw [if_pos c3] at h
        obtain rfl := Option.some.inj h
        unfold mayO
        cases hr : rangeO a0_1 a0_2 a0_5 with
        | false => exact rmay_range a0_0 a0_1 a0_2 a0_3 a0_4 a0_5 w hr
        | true => exact rmay_rest a0_0 a0_1 a0_2 a0_3 a0_4 a0_5 w c1 c2 c3 hr
      · rw [if_neg c3] at h; cases h
    · rw [if_neg c2] at h; cases h
  · rw [if_neg c1] at h; cases h
end Go.Proofs.YtnkggincckdoiaaDoor.Q
