import Derived.Test.YtfgjfkocbennnaaDoorTop
import Derived.Test.YtfgjfkocbennnaaDoorWholep
namespace Go.Proofs.YtfgjfkocbennnaaDoor.Q
open Go.RowKit Go.Proofs.YtfgjfkocbennnaaDoorW.PrintWords Go.Proofs.YtfgjfkocbennnaaDoorW.PrintMore
set_option linter.unusedVariables false
set_option linter.unusedSimpArgs false
attribute [local go_sem high] eqA25
theorem blkS {W W' : World} {cs : Array Value} (hb : Below (W.alloc (.cells cs 23)).heap.size (W.alloc (.cells cs 23)) W') : W'.heap[W.heap.size]? = some (.cells cs 23 (0, 0)) := by
  rw [hb.block _ (by simp)]; exact blk_new W _
set_option maxHeartbeats 1000000 in
set_option maxRecDepth 100000 in
theorem whole_out (c : Int) (n : Bool) (a b : ByteArray) (e : Int) (p : Bool) (I F T : ByteArray) (V U E er : Int) (w : World)
    (h : opOf.f c n a b e p = some (I, V, U, F, T, E, er)) (hx : er ≠ 0 ∨ (er = 0 ∧ (4000 < I.size ∨ (I.size ≤ 4000 ∧ 4000 < V)))) :
    Calls Tryd.prog 6 #[.agg #[.int .i64 c, .bool n, .string a, .string b, .int .i64 e, .bool p]] w fun e' w' => e' = .returned (.bool true) ∧ Below w.heap.size w w' := by
  have hu23 := Tryd.underlying23
  have hu25 := Tryd.underlying25
  have H := Aside0.mk h
  clear h
  have X := Aside0.mk hx
  clear hx
  go_enter Tryd.func6, Tryd.ntmps6
  go_wp2_with fail
  refine (opOf.calls c n a b e p I V U F T E er _ H.out).mono ?_
  rintro e1 w1 ⟨rfl, hb1⟩
  have HB1 := Aside0.mk (below_step (below_alloc (Below.refl _ _) _) hb1)
  clear hb1
  go_wp2_with fail
  refine (quipulaw08_awake.calls true _ rfl).mono ?_
  rintro e2 w2 ⟨rfl, hb2⟩
  have K2 := Aside0.mk (blk25 hb2)
  have HB2 := Aside0.mk (below_step (below_alloc HB1.out _) hb2)
  clear hb2
  have z0 : w2.cell? ⟨w1.heap.size, 0, none⟩ = some (.string I) := (blk_cell K2.out 0).trans rfl
  have z1 : w2.cell? ⟨w1.heap.size, 1, none⟩ = some (.int .i64 V) := (blk_cell K2.out 1).trans rfl
  rcases X.out with h0 | ⟨rfl, h0 | ⟨h0, h1⟩⟩
  · have c0 : (er == 0) = false := beq_eq_false_iff_ne.2 h0
    have c1 : (er != 0) = true := bne_iff_ne.2 h0
    clear h0 X
    go_wp2
    go_ret
    exact ⟨rfl, HB2.out⟩
  · have c0 : decide (4000 < I.size) = true := decide_eq_true h0
    have c1 : decide (4000 < (I.size : Int)) = true := decide_eq_true (by omega)
    clear h0 X
    go_wp2
    go_ret
    exact ⟨rfl, HB2.out⟩
  · have c0 : decide (4000 < I.size) = false := decide_eq_false (by omega)
    have c1 : decide (4000 < (I.size : Int)) = false := decide_eq_false (by omega)
    have c2 : decide (4000 < V) = true := decide_eq_true h1
    clear h0 h1 X
    go_wp2
    go_ret
    exact ⟨rfl, HB2.out⟩
theorem eqA34 (d : Nat) (w : World) (x0 y0 : Int) (x1 y1 : Bool) (x2 y2 : ByteArray) (x3 y3 : Int) :
    (Op.equalIn (d + 2) 34 (.agg #[.int .i64 x0, .bool x1, .string x2, .int .i64 x3]) (.agg #[.int .i64 y0, .bool y1, .string y2, .int .i64 y3])).run Tryd.prog w = .ok (x0 == y0 && (x1 == y1 && (x2.toList == y2.toList && (x3 == y3)))) w := by
  refine eqA_of Tryd.underlying34 (by kernel_rfl) ?_
  refine eqf_cons (by rfl) (by go_simp; rfl) (by go_simp; rfl) (by go_simp) ?_
  refine eqf_cons (by rfl) (by go_simp; rfl) (by go_simp; rfl) (by go_simp) ?_
  refine eqf_cons (by rfl) (by go_simp; rfl) (by go_simp; rfl) (by go_simp) ?_
  exact eqf_last (by rfl) (by go_simp; rfl) (by go_simp; rfl) (by go_simp)
theorem app48 (l : List UInt8) : mkS l ++ (⟨#[48]⟩ : ByteArray) = mkS (l ++ [48]) := by
  apply ByteArray.ext
  apply Array.ext'
  rw [app_data, mkS_data, mkS_data]
theorem appS (l m : List UInt8) : mkS l ++ mkS m = mkS (l ++ m) := by
  apply ByteArray.ext
  apply Array.ext'
  rw [app_data, mkS_data, mkS_data, mkS_data]
theorem rep_more (L : List UInt8) (x : Nat) : mkS (L ++ List.replicate x 48) ++ (⟨#[48]⟩ : ByteArray) = mkS (L ++ List.replicate (x + 1) 48) := by
  rw [app48, List.replicate_succ', List.append_assoc]
attribute [local go_sem high] eqA34
set_option maxHeartbeats 4000000 in
set_option maxRecDepth 100000 in
theorem whole_yes (c : Int) (n : Bool) (a b : ByteArray) (e : Int) (p : Bool) (I F T : ByteArray) (V U : Nat) (E : Int) (w : World) (k : Int) (ng : Bool) (ds : ByteArray) (ex er : Int) (fr : ByteArray)
    (h : opOf.f c n a b e p = some (I, (V : Int), (U : Int), F, T, E, 0)) (hI : I.size ≤ 4000) (hV : V ≤ 4000) (hU : U ≤ V) (hT : T.size ≤ U + 1)
    (hv : wValue.f c n a b (if p = true then e else 0) p = some (k, ng, ds, ex, er)) (hv2 : wValue.f 0 n I fr 0 false = some (k, ng, ds, ex, er))
    (ho2 : opOf.f 0 n I fr 0 false = some (I, (V : Int), (U : Int), F, T, 0, 0)) (hm : rMay7.f 0 n I fr 0 false = some true) (hE : E = if p = true then e else 0)
    (hT0 : T.toList = [48] → U = 0 ∧ fr = mkS (List.replicate V 48))
    (hT1 : T.toList ≠ [48] → T.size ≤ U ∧ fr = mkS (List.replicate (U - T.size) 48 ++ T.toList ++ List.replicate (V - U) 48)) :
    Calls Tryd.prog 6 #[.agg #[.int .i64 c, .bool n, .string a, .string b, .int .i64 e, .bool p]] w fun e' w' => e' = .returned (.bool true) ∧ Below w.heap.size w w' := by
  have hu23 := Tryd.underlying23
  have hu25 := Tryd.underlying25
  have H := Aside0.mk h
  have HV1 := Aside0.mk hv
  have HV2 := Aside0.mk hv2
  have HO2 := Aside0.mk ho2
  have HM := Aside0.mk hm
  have HE := Aside0.mk hE
  have HT0 := Aside0.mk hT0
  have HT1 := Aside0.mk hT1
  have hVV := Aside0.mk hV
  have hUU := Aside0.mk hU
  clear h hv hv2 ho2 hm hE hT0 hT1 hV hU
  have c0 : decide (4000 < I.size) = false := decide_eq_false (by omega)
  have c1 : decide (4000 < (I.size : Int)) = false := decide_eq_false (by omega)
  have c2 : decide (4000 < V) = false := decide_eq_false (by have := hVV.out; omega)
  have c3 : decide (4000 < (V : Int)) = false := decide_eq_false (by have := hVV.out; omega)
  go_enter Tryd.func6, Tryd.ntmps6
  go_wp2_with fail
  refine (opOf.calls c n a b e p I V U F T E 0 _ H.out).mono ?_
  rintro e1 w1 ⟨rfl, hb1⟩
  have K1 := Aside0.mk (blkS hb1)
  have HB1 := Aside0.mk (below_step (below_alloc (Below.refl _ _) _) hb1)
  clear hb1
  go_wp2_with fail
  refine (quipulaw08_awake.calls true _ rfl).mono ?_
  rintro e2 w2 ⟨rfl, hb2⟩
  have K2 := Aside0.mk (blk25 hb2)
  have K3 : Aside0 (w2.heap[w.heap.size]? = some (.cells #[.int .i64 c, .bool n, .string a, .string b, .int .i64 e, .bool p] 23 (0, 0))) := ⟨by rw [hb2.block _ (by simp; have := blk_lt K1.out; omega)]; exact blk_alloc K1.out _⟩
  have HB2 := Aside0.mk (below_step (below_alloc HB1.out _) hb2)
  clear hb2 HB1 K1
  have l0 : w.heap.size < w2.heap.size := blk_lt K3.out
  have l1 : w1.heap.size < w2.heap.size := blk_lt K2.out
  have z0 : w2.cell? ⟨w1.heap.size, 0, none⟩ = some (.string I) := (blk_cell K2.out 0).trans rfl
  have z1 : w2.cell? ⟨w1.heap.size, 1, none⟩ = some (.int .i64 V) := (blk_cell K2.out 1).trans rfl
  have y0 : w2.cell? ⟨w.heap.size, 0, none⟩ = some (.int .i64 c) := (blk_cell K3.out 0).trans rfl
  have y1 : w2.cell? ⟨w.heap.size, 1, none⟩ = some (.bool n) := (blk_cell K3.out 1).trans rfl
  have y2 : w2.cell? ⟨w.heap.size, 2, none⟩ = some (.string a) := (blk_cell K3.out 2).trans rfl
  have y3 : w2.cell? ⟨w.heap.size, 3, none⟩ = some (.string b) := (blk_cell K3.out 3).trans rfl
  have y4 : w2.cell? ⟨w.heap.size, 4, none⟩ = some (.int .i64 e) := (blk_cell K3.out 4).trans rfl
  have y5 : w2.cell? ⟨w.heap.size, 5, none⟩ = some (.bool p) := (blk_cell K3.out 5).trans rfl
  have f4 := blk_frozen K3.out 4
  have NE := Aside0.mk (blk_ne K2.out K3.out (by decide))
  cases p
  case' true =>
    go_wp2_with fail
    refine (wValue.calls c n a b e true k ng ds ex er _ HV1.out).mono ?_
    rintro e3 w3 ⟨rfl, hb3⟩
    have K5 : Aside0 (w3.heap[w1.heap.size]? = some (.cells #[.string I, .int .i64 V, .int .i64 U, .string F, .string T, .int .i64 E] 25 (0, 0))) := ⟨by rw [hb3.block _ l1]; exact K2.out⟩
    have K6 : Aside0 (∃ (e3 : Int) (p3 : Bool), E = e3 ∧ w3.heap[w.heap.size]? = some (.cells #[.int .i64 c, .bool n, .string a, .string b, .int .i64 e3, .bool p3] 23 (0, 0))) := ⟨e, true, HE.out, by rw [hb3.block _ l0]; exact K3.out⟩
    have HB3 := Aside0.mk (below_step HB2.out hb3)
  case' false =>
    go_wp2_with fail
    refine (wValue.calls c n a b 0 false k ng ds ex er _ HV1.out).mono ?_
    rintro e3 w3 ⟨rfl, hb3⟩
    have K5 : Aside0 (w3.heap[w1.heap.size]? = some (.cells #[.string I, .int .i64 V, .int .i64 U, .string F, .string T, .int .i64 E] 25 (0, 0))) := ⟨by rw [hb3.block _ (by simpa using l1)]; exact blk_far K2.out NE.out _⟩
    have K6 : Aside0 (∃ (e3 : Int) (p3 : Bool), E = e3 ∧ w3.heap[w.heap.size]? = some (.cells #[.int .i64 c, .bool n, .string a, .string b, .int .i64 e3, .bool p3] 23 (0, 0))) := ⟨0, false, HE.out, by rw [hb3.block _ (by simpa using l0)]; exact blk_put K3.out 4 _ rfl⟩
    have HB3 : Aside0 (Below w.heap.size w w3) := ⟨below_step (HB2.out.setCell (Nat.le_refl _) _) hb3⟩
  all_goals
    clear hb3 HB2 K2 K3 f4 y0 y1 y2 y3 y4 y5 z0 z1 HE H HV1
    obtain ⟨_, p3, rfl, K6⟩ := K6.out
    replace K6 := Aside0.mk K6
    have l3 : w.heap.size < w3.heap.size := blk_lt K6.out
    have l4 : w1.heap.size < w3.heap.size := blk_lt K5.out
    have z1 : w3.cell? ⟨w1.heap.size, 1, none⟩ = some (.int .i64 V) := (blk_cell K5.out 1).trans rfl
    have z2 : w3.cell? ⟨w1.heap.size, 2, none⟩ = some (.int .i64 U) := (blk_cell K5.out 2).trans rfl
    have z4 : w3.cell? ⟨w1.heap.size, 4, none⟩ = some (.string T) := (blk_cell K5.out 4).trans rfl
    have NE2 := Aside0.mk (blk_ne K5.out K6.out (by decide))
    by_cases ht : T.toList = ([48] : List UInt8)
    case' neg =>
      obtain ⟨hTU, hfr⟩ := HT1.out ht
      have HFR := Aside0.mk hfr
      have HTU := Aside0.mk hTU
      have t0 : (T.toList == ([48] : List UInt8)) = false := beq_eq_false_iff_ne.2 ht
      have t1 : (T.toList != ([48] : List UInt8)) = true := bne_iff_ne.2 ht
      clear ht hfr hTU HT0 HT1
      go_wp2_with fail
      go_loop [7, 8] (fun v7 v8 => ∃ (x : Nat) (X : ByteArray), v8 = .int .i64 ((T.size + x : Nat) : Int) ∧ v7 = .string X ∧ Aside0 (X = mkS ([] ++ List.replicate x 48)) ∧ (x = 0 ∨ T.size + x ≤ U)) (fun _ v8 => U - (intOf v8).toNat)
      case' atStart => exact ⟨0, _, rfl, rfl, ⟨rfl⟩, Or.inl rfl⟩
      case' round =>
        obtain ⟨x, X, rfl, rfl, HX, hx⟩ := hrel
        by_cases hlt : T.size + x < U
        case' pos =>
          have d0 : decide (((T.size + x : Nat) : Int) < (U : Int)) = true := decide_eq_true (by omega)
          have d1 : decide (T.size + x < U) = true := decide_eq_true hlt
          have hz : X.size ≤ 20000 := by rw [HX.out, mkS_size, List.length_append, List.length_replicate]; have := hVV.out; have := hUU.out; have := HTU.out; simp only [List.length_nil]; omega
          have hb : T.size + x < 5000 := by have := hVV.out; have := hUU.out; omega
          go_wp2
          go_round
          case rel => exact ⟨x + 1, _, by go_num, rfl, ⟨by rw [HX.out]; exact rep_more _ _⟩, Or.inr hlt⟩
          case measure => simp [intOf]; omega
        case' neg =>
          have d0 : decide (((T.size + x : Nat) : Int) < (U : Int)) = false := decide_eq_false (by omega)
          have d1 : decide (T.size + x < U) = false := decide_eq_false hlt
          have HX2 : Aside0 (X ++ T = mkS (List.replicate (U - T.size) 48 ++ T.toList)) := ⟨by
            have hx2 : x = U - T.size := by have := HTU.out; omega
            rw [HX.out, hx2, List.nil_append]
            apply ByteArray.ext; apply Array.ext'
            rw [app_data, mkS_data, mkS_data, toList_data]⟩
          have hz : X.size ≤ 20000 := by rw [HX.out, mkS_size, List.length_append, List.length_replicate]; have := hVV.out; have := hUU.out; have := HTU.out; simp only [List.length_nil]; omega
          have hz3 : (mkS (List.replicate (U - T.size) 48 ++ T.toList)).size ≤ 9000 := by rw [mkS_size, List.length_append, List.length_replicate, toList_data, slen]; have := hVV.out; have := hUU.out; have := HTU.out; omega
          have hT5 : T.size ≤ 5000 := by have := hVV.out; have := hUU.out; have := HTU.out; omega
          have hge : U ≤ T.size + x := Nat.le_of_not_lt hlt
          clear HX hx hlt d0 d1
          go_wp2_with fail
          rw [HX2.out]
          clear hz hT5 HX2
          go_loop [7, 9] (fun v7 v9 => ∃ (x : Nat) (X : ByteArray), v9 = .int .i64 ((U + x : Nat) : Int) ∧ v7 = .string X ∧ Aside0 (X = mkS ((List.replicate (U - T.size) 48 ++ T.toList) ++ List.replicate x 48)) ∧ (x = 0 ∨ U + x ≤ V)) (fun _ v9 => V - (intOf v9).toNat)
          case' atStart => exact ⟨0, _, rfl, rfl, ⟨by rw [List.replicate_zero, List.append_nil]⟩, Or.inl rfl⟩
          case' round =>
            obtain ⟨x, X, rfl, rfl, HX, hx⟩ := hrel
            by_cases hlt : U + x < V
            case' pos =>
              have d0 : decide (((U + x : Nat) : Int) < (V : Int)) = true := decide_eq_true (by omega)
              have d1 : decide (U + x < V) = true := decide_eq_true hlt
              have hz : X.size ≤ 20000 := by rw [HX.out, mkS_size, List.length_append, List.length_replicate]; have := hVV.out; have := hUU.out; rw [mkS_size] at hz3; omega
              have hb : U + x < 5000 := by have := hVV.out; have := hUU.out; omega
              go_wp2
              go_round
              case rel => exact ⟨x + 1, _, by go_num, rfl, ⟨by rw [HX.out]; exact rep_more _ _⟩, Or.inr hlt⟩
              case measure => simp [intOf]; omega
            case' neg =>
              have d0 : decide (((U + x : Nat) : Int) < (V : Int)) = false := decide_eq_false (by omega)
              have d1 : decide (U + x < V) = false := decide_eq_false hlt
              obtain rfl : X = fr := by
                have hx2 : x = V - U := by have := hUU.out; omega
                rw [HX.out, HFR.out, hx2]
              have hge : V ≤ U + x := Nat.le_of_not_lt hlt
              clear HX hx hlt d0 d1 HFR hz3
              have y1 : w3.cell? ⟨w.heap.size, 1, none⟩ = some (.bool n) := (blk_cell K6.out 1).trans rfl
              have z0 : w3.cell? ⟨w1.heap.size, 0, none⟩ = some (.string I) := (blk_cell K5.out 0).trans rfl
              go_wp2_with fail
              refine (wValue.calls 0 n I X 0 false k ng ds ex er _ HV2.out).mono ?_
              rintro e5 w5 ⟨rfl, hb5⟩
              have hs5 := hb5.size
              simp at hs5
              have K7 : Aside0 (w5.heap[w1.heap.size]? = some (.cells #[.string I, .int .i64 V, .int .i64 U, .string F, .string T, .int .i64 E] 25 (0, 0))) := ⟨blk_below (blk_alloc (blk_alloc K5.out _) _) hb5⟩
              have K8 : Aside0 (w5.heap[w.heap.size]? = some (.cells #[.int .i64 c, .bool n, .string a, .string b, .int .i64 E, .bool p3] 23 (0, 0))) := ⟨blk_below (blk_alloc (blk_alloc K6.out _) _) hb5⟩
              have K9 : Aside0 (w5.heap[w3.heap.size]? = some (.cells #[.int .i64 k, .bool ng, .string ds, .int .i64 ex] 34 (0, 0))) := ⟨blk_below (blk_alloc (blk_new _ _) _) hb5⟩
              have KA : Aside0 (w5.heap[w3.heap.size + 1]? = some (.cells #[.int .i64 0, .bool n, .string I, .string X, .int .i64 0, .bool false] 23 (0, 0))) := ⟨by have := blk_below (blk_new (w3.alloc (.cells #[.int .i64 k, .bool ng, .string ds, .int .i64 ex] 34)) _) hb5; simpa using this⟩
              have HB5 := Aside0.mk (below_step (below_alloc (below_alloc HB3.out _) _) hb5)
              clear hb5 K5 K6 z0 z1 z2 z4 y1 l3 l4 HB3
              have m0 : w3.heap.size + 1 < w5.heap.size := blk_lt KA.out
              have q0 : w5.cell? ⟨w3.heap.size + 1, 0, none⟩ = some (.int .i64 0) := (blk_cell KA.out 0).trans rfl
              have q1 : w5.cell? ⟨w3.heap.size + 1, 1, none⟩ = some (.bool n) := (blk_cell KA.out 1).trans rfl
              have q2 : w5.cell? ⟨w3.heap.size + 1, 2, none⟩ = some (.string I) := (blk_cell KA.out 2).trans rfl
              have q3 : w5.cell? ⟨w3.heap.size + 1, 3, none⟩ = some (.string X) := (blk_cell KA.out 3).trans rfl
              have q4 : w5.cell? ⟨w3.heap.size + 1, 4, none⟩ = some (.int .i64 0) := (blk_cell KA.out 4).trans rfl
              have q5 : w5.cell? ⟨w3.heap.size + 1, 5, none⟩ = some (.bool false) := (blk_cell KA.out 5).trans rfl
              go_wp2_with fail
              refine (opOf.calls 0 n I X 0 false I V U F T 0 0 _ HO2.out).mono ?_
              rintro e6 w6 ⟨rfl, hb6⟩
              have G7 : Aside0 (w6.heap[w1.heap.size]? = some (.cells #[.string I, .int .i64 V, .int .i64 U, .string F, .string T, .int .i64 E] 25 (0, 0))) := ⟨blk_below (blk_alloc K7.out _) hb6⟩
              have G8 : Aside0 (w6.heap[w.heap.size]? = some (.cells #[.int .i64 c, .bool n, .string a, .string b, .int .i64 E, .bool p3] 23 (0, 0))) := ⟨blk_below (blk_alloc K8.out _) hb6⟩
              have G9 : Aside0 (w6.heap[w3.heap.size]? = some (.cells #[.int .i64 k, .bool ng, .string ds, .int .i64 ex] 34 (0, 0))) := ⟨blk_below (blk_alloc K9.out _) hb6⟩
              have GA : Aside0 (w6.heap[w3.heap.size + 1]? = some (.cells #[.int .i64 0, .bool n, .string I, .string X, .int .i64 0, .bool false] 23 (0, 0))) := ⟨blk_below (blk_alloc KA.out _) hb6⟩
              have GB : Aside0 (w6.heap[w5.heap.size]? = some (.cells #[.int .i64 k, .bool ng, .string ds, .int .i64 ex] 34 (0, 0))) := ⟨blk_below (blk_new _ _) hb6⟩
              have HB6 := Aside0.mk (below_step (below_alloc HB5.out _) hb6)
              clear hb6 K7 K8 K9 KA q0 q1 q2 q3 q4 q5 m0 hs5 HB5
              have m7 : w1.heap.size < w6.heap.size := blk_lt G7.out
              have m8 : w.heap.size < w6.heap.size := blk_lt G8.out
              have m9 : w3.heap.size < w6.heap.size := blk_lt G9.out
              have mA : w3.heap.size + 1 < w6.heap.size := blk_lt GA.out
              have mB : w5.heap.size < w6.heap.size := blk_lt GB.out
              have r70 : w6.cell? ⟨w1.heap.size, 0, none⟩ = some (.string I) := (blk_cell G7.out 0).trans rfl
              have r71 : w6.cell? ⟨w1.heap.size, 1, none⟩ = some (.int .i64 V) := (blk_cell G7.out 1).trans rfl
              have r72 : w6.cell? ⟨w1.heap.size, 2, none⟩ = some (.int .i64 U) := (blk_cell G7.out 2).trans rfl
              have r73 : w6.cell? ⟨w1.heap.size, 3, none⟩ = some (.string F) := (blk_cell G7.out 3).trans rfl
              have r74 : w6.cell? ⟨w1.heap.size, 4, none⟩ = some (.string T) := (blk_cell G7.out 4).trans rfl
              have r75 : w6.cell? ⟨w1.heap.size, 5, none⟩ = some (.int .i64 E) := (blk_cell G7.out 5).trans rfl
              have r84 : w6.cell? ⟨w.heap.size, 4, none⟩ = some (.int .i64 E) := (blk_cell G8.out 4).trans rfl
              have r85 : w6.cell? ⟨w.heap.size, 5, none⟩ = some (.bool p3) := (blk_cell G8.out 5).trans rfl
              have r90 : w6.cell? ⟨w3.heap.size, 0, none⟩ = some (.int .i64 k) := (blk_cell G9.out 0).trans rfl
              have r91 : w6.cell? ⟨w3.heap.size, 1, none⟩ = some (.bool ng) := (blk_cell G9.out 1).trans rfl
              have r92 : w6.cell? ⟨w3.heap.size, 2, none⟩ = some (.string ds) := (blk_cell G9.out 2).trans rfl
              have r93 : w6.cell? ⟨w3.heap.size, 3, none⟩ = some (.int .i64 ex) := (blk_cell G9.out 3).trans rfl
              have ra0 : w6.cell? ⟨w3.heap.size + 1, 0, none⟩ = some (.int .i64 0) := (blk_cell GA.out 0).trans rfl
              have ra1 : w6.cell? ⟨w3.heap.size + 1, 1, none⟩ = some (.bool n) := (blk_cell GA.out 1).trans rfl
              have ra2 : w6.cell? ⟨w3.heap.size + 1, 2, none⟩ = some (.string I) := (blk_cell GA.out 2).trans rfl
              have ra3 : w6.cell? ⟨w3.heap.size + 1, 3, none⟩ = some (.string X) := (blk_cell GA.out 3).trans rfl
              have ra4 : w6.cell? ⟨w3.heap.size + 1, 4, none⟩ = some (.int .i64 0) := (blk_cell GA.out 4).trans rfl
              have ra5 : w6.cell? ⟨w3.heap.size + 1, 5, none⟩ = some (.bool false) := (blk_cell GA.out 5).trans rfl
              have rb0 : w6.cell? ⟨w5.heap.size, 0, none⟩ = some (.int .i64 k) := (blk_cell GB.out 0).trans rfl
              have rb1 : w6.cell? ⟨w5.heap.size, 1, none⟩ = some (.bool ng) := (blk_cell GB.out 1).trans rfl
              have rb2 : w6.cell? ⟨w5.heap.size, 2, none⟩ = some (.string ds) := (blk_cell GB.out 2).trans rfl
              have rb3 : w6.cell? ⟨w5.heap.size, 3, none⟩ = some (.int .i64 ex) := (blk_cell GB.out 3).trans rfl
              go_wp2_with fail
              refine (rMay7.calls 0 n I X 0 false true _ HM.out).mono ?_
              rintro e7 w7 ⟨rfl, hb7⟩
              have s7 := hb7.size
              simp at s7
              have HB7 := Aside0.mk (below_step (below_alloc HB6.out _) hb7)
              have u7 : w7.cell? ⟨w1.heap.size, 5, none⟩ = some (.int .i64 E) := (blk_cell (blk_below (blk_alloc G7.out _) hb7) 5).trans rfl
              have u8 : w7.cell? ⟨w.heap.size, 4, none⟩ = some (.int .i64 E) := (blk_cell (blk_below (blk_alloc G8.out _) hb7) 4).trans rfl
              have u9 : w7.cell? ⟨w.heap.size, 5, none⟩ = some (.bool p3) := (blk_cell (blk_below (blk_alloc G8.out _) hb7) 5).trans rfl
              clear hb7
              go_wp2
              go_ret
              exact ⟨rfl, HB7.out⟩
    case' pos =>
      obtain ⟨hU0, hfr⟩ := HT0.out ht
      have HU0 := Aside0.mk hU0
      have hU1 : U ≤ 0 := Nat.le_of_eq hU0
      clear hU0
      have HFR := Aside0.mk hfr
      have hT1 : Aside0 (T.size = 1) := ⟨by have := congrArg List.length ht; rw [toList_data, slen] at this; simpa using this⟩
      have t0 : (T.toList == ([48] : List UInt8)) = true := beq_iff_eq.2 ht
      have t1 : (T.toList != ([48] : List UInt8)) = false := by rw [bne, t0]; rfl
      clear ht hfr HT0 HT1
      go_wp2_with fail
      go_loop [7, 8] (fun v7 v8 => v8 = .int .i64 ((T.size : Nat) : Int) ∧ v7 = .string ⟨#[]⟩) (fun _ _ => 0)
      case' atStart => exact ⟨rfl, rfl⟩
      case' round =>
        obtain ⟨rfl, rfl⟩ := hrel
        have hge : 1 ≤ T.size := by have := hT1.out; omega
        go_wp2_with fail
        go_loop [7, 9] (fun v7 v9 => ∃ (x : Nat) (X : ByteArray), v9 = .int .i64 ((x : Nat) : Int) ∧ v7 = .string X ∧ Aside0 (X = mkS (List.replicate x 48)) ∧ (x ≤ V)) (fun _ v9 => V - (intOf v9).toNat)
        case' atStart => exact ⟨U, _, rfl, rfl, ⟨by rw [HU0.out]; rfl⟩, hUU.out⟩
        case' round =>
          obtain ⟨x, X, rfl, rfl, HX, hx⟩ := hrel
          by_cases hlt : x < V
          case' pos =>
            have hz : X.size ≤ 20000 := by rw [HX.out, mkS_size, List.length_replicate]; have := hVV.out; omega
            have hb : x < 5000 := by have := hVV.out; omega
            go_wp2
            go_round
            case rel => exact ⟨x + 1, _, by go_num, rfl, ⟨by rw [HX.out]; exact rep_more [] _⟩, hlt⟩
            case measure => simp [intOf]; omega
          case' neg =>
            obtain rfl : X = fr := by
              have hx2 : x = V := by omega
              rw [HX.out, HFR.out, hx2]
            have hzV : Aside0 (X.size = V) := ⟨by rw [HFR.out, mkS_size, List.length_replicate]⟩
            have hge2 : V ≤ x := Nat.le_of_not_lt hlt
            have d4 : decide ((V : Int) < (X.size : Int)) = false := decide_eq_false (by have := hzV.out; omega)
            have d5 : decide (V < X.size) = false := decide_eq_false (by have := hzV.out; omega)
            clear HX hx hlt HFR
            have y1 : w3.cell? ⟨w.heap.size, 1, none⟩ = some (.bool n) := (blk_cell K6.out 1).trans rfl
            have z0 : w3.cell? ⟨w1.heap.size, 0, none⟩ = some (.string I) := (blk_cell K5.out 0).trans rfl
            go_wp2_with fail
            refine (wValue.calls 0 n I X 0 false k ng ds ex er _ HV2.out).mono ?_
            rintro e5 w5 ⟨rfl, hb5⟩
            have hs5 := hb5.size
            simp at hs5
            have K7 : Aside0 (w5.heap[w1.heap.size]? = some (.cells #[.string I, .int .i64 V, .int .i64 U, .string F, .string T, .int .i64 E] 25 (0, 0))) := ⟨blk_below (blk_alloc (blk_alloc K5.out _) _) hb5⟩
            have K8 : Aside0 (w5.heap[w.heap.size]? = some (.cells #[.int .i64 c, .bool n, .string a, .string b, .int .i64 E, .bool p3] 23 (0, 0))) := ⟨blk_below (blk_alloc (blk_alloc K6.out _) _) hb5⟩
            have K9 : Aside0 (w5.heap[w3.heap.size]? = some (.cells #[.int .i64 k, .bool ng, .string ds, .int .i64 ex] 34 (0, 0))) := ⟨blk_below (blk_alloc (blk_new _ _) _) hb5⟩
            have KA : Aside0 (w5.heap[w3.heap.size + 1]? = some (.cells #[.int .i64 0, .bool n, .string I, .string X, .int .i64 0, .bool false] 23 (0, 0))) := ⟨by have := blk_below (blk_new (w3.alloc (.cells #[.int .i64 k, .bool ng, .string ds, .int .i64 ex] 34)) _) hb5; simpa using this⟩
            have HB5 := Aside0.mk (below_step (below_alloc (below_alloc HB3.out _) _) hb5)
            clear hb5 K5 K6 z0 z1 z2 z4 y1 l3 l4 HB3
            have m0 : w3.heap.size + 1 < w5.heap.size := blk_lt KA.out
            have q0 : w5.cell? ⟨w3.heap.size + 1, 0, none⟩ = some (.int .i64 0) := (blk_cell KA.out 0).trans rfl
            have q1 : w5.cell? ⟨w3.heap.size + 1, 1, none⟩ = some (.bool n) := (blk_cell KA.out 1).trans rfl
            have q2 : w5.cell? ⟨w3.heap.size + 1, 2, none⟩ = some (.string I) := (blk_cell KA.out 2).trans rfl
            have q3 : w5.cell? ⟨w3.heap.size + 1, 3, none⟩ = some (.string X) := (blk_cell KA.out 3).trans rfl
            have q4 : w5.cell? ⟨w3.heap.size + 1, 4, none⟩ = some (.int .i64 0) := (blk_cell KA.out 4).trans rfl
            have q5 : w5.cell? ⟨w3.heap.size + 1, 5, none⟩ = some (.bool false) := (blk_cell KA.out 5).trans rfl
            go_wp2_with fail
            refine (opOf.calls 0 n I X 0 false I V U F T 0 0 _ HO2.out).mono ?_
            rintro e6 w6 ⟨rfl, hb6⟩
            have G7 : Aside0 (w6.heap[w1.heap.size]? = some (.cells #[.string I, .int .i64 V, .int .i64 U, .string F, .string T, .int .i64 E] 25 (0, 0))) := ⟨blk_below (blk_alloc K7.out _) hb6⟩
            have G8 : Aside0 (w6.heap[w.heap.size]? = some (.cells #[.int .i64 c, .bool n, .string a, .string b, .int .i64 E, .bool p3] 23 (0, 0))) := ⟨blk_below (blk_alloc K8.out _) hb6⟩
            have G9 : Aside0 (w6.heap[w3.heap.size]? = some (.cells #[.int .i64 k, .bool ng, .string ds, .int .i64 ex] 34 (0, 0))) := ⟨blk_below (blk_alloc K9.out _) hb6⟩
            have GA : Aside0 (w6.heap[w3.heap.size + 1]? = some (.cells #[.int .i64 0, .bool n, .string I, .string X, .int .i64 0, .bool false] 23 (0, 0))) := ⟨blk_below (blk_alloc KA.out _) hb6⟩
            have GB : Aside0 (w6.heap[w5.heap.size]? = some (.cells #[.int .i64 k, .bool ng, .string ds, .int .i64 ex] 34 (0, 0))) := ⟨blk_below (blk_new _ _) hb6⟩
            have HB6 := Aside0.mk (below_step (below_alloc HB5.out _) hb6)
            clear hb6 K7 K8 K9 KA q0 q1 q2 q3 q4 q5 m0 hs5 HB5
            have m7 : w1.heap.size < w6.heap.size := blk_lt G7.out
            have m8 : w.heap.size < w6.heap.size := blk_lt G8.out
            have m9 : w3.heap.size < w6.heap.size := blk_lt G9.out
            have mA : w3.heap.size + 1 < w6.heap.size := blk_lt GA.out
            have mB : w5.heap.size < w6.heap.size := blk_lt GB.out
            have r70 : w6.cell? ⟨w1.heap.size, 0, none⟩ = some (.string I) := (blk_cell G7.out 0).trans rfl
            have r71 : w6.cell? ⟨w1.heap.size, 1, none⟩ = some (.int .i64 V) := (blk_cell G7.out 1).trans rfl
            have r72 : w6.cell? ⟨w1.heap.size, 2, none⟩ = some (.int .i64 U) := (blk_cell G7.out 2).trans rfl
            have r73 : w6.cell? ⟨w1.heap.size, 3, none⟩ = some (.string F) := (blk_cell G7.out 3).trans rfl
            have r74 : w6.cell? ⟨w1.heap.size, 4, none⟩ = some (.string T) := (blk_cell G7.out 4).trans rfl
            have r75 : w6.cell? ⟨w1.heap.size, 5, none⟩ = some (.int .i64 E) := (blk_cell G7.out 5).trans rfl
            have r84 : w6.cell? ⟨w.heap.size, 4, none⟩ = some (.int .i64 E) := (blk_cell G8.out 4).trans rfl
            have r85 : w6.cell? ⟨w.heap.size, 5, none⟩ = some (.bool p3) := (blk_cell G8.out 5).trans rfl
            have r90 : w6.cell? ⟨w3.heap.size, 0, none⟩ = some (.int .i64 k) := (blk_cell G9.out 0).trans rfl
            have r91 : w6.cell? ⟨w3.heap.size, 1, none⟩ = some (.bool ng) := (blk_cell G9.out 1).trans rfl
            have r92 : w6.cell? ⟨w3.heap.size, 2, none⟩ = some (.string ds) := (blk_cell G9.out 2).trans rfl
            have r93 : w6.cell? ⟨w3.heap.size, 3, none⟩ = some (.int .i64 ex) := (blk_cell G9.out 3).trans rfl
            have ra0 : w6.cell? ⟨w3.heap.size + 1, 0, none⟩ = some (.int .i64 0) := (blk_cell GA.out 0).trans rfl
            have ra1 : w6.cell? ⟨w3.heap.size + 1, 1, none⟩ = some (.bool n) := (blk_cell GA.out 1).trans rfl
            have ra2 : w6.cell? ⟨w3.heap.size + 1, 2, none⟩ = some (.string I) := (blk_cell GA.out 2).trans rfl
            have ra3 : w6.cell? ⟨w3.heap.size + 1, 3, none⟩ = some (.string X) := (blk_cell GA.out 3).trans rfl
            have ra4 : w6.cell? ⟨w3.heap.size + 1, 4, none⟩ = some (.int .i64 0) := (blk_cell GA.out 4).trans rfl
            have ra5 : w6.cell? ⟨w3.heap.size + 1, 5, none⟩ = some (.bool false) := (blk_cell GA.out 5).trans rfl
            have rb0 : w6.cell? ⟨w5.heap.size, 0, none⟩ = some (.int .i64 k) := (blk_cell GB.out 0).trans rfl
            have rb1 : w6.cell? ⟨w5.heap.size, 1, none⟩ = some (.bool ng) := (blk_cell GB.out 1).trans rfl
            have rb2 : w6.cell? ⟨w5.heap.size, 2, none⟩ = some (.string ds) := (blk_cell GB.out 2).trans rfl
            have rb3 : w6.cell? ⟨w5.heap.size, 3, none⟩ = some (.int .i64 ex) := (blk_cell GB.out 3).trans rfl
            go_wp2_with fail
            refine (rMay7.calls 0 n I X 0 false true _ HM.out).mono ?_
            rintro e7 w7 ⟨rfl, hb7⟩
            have s7 := hb7.size
            simp at s7
            have HB7 := Aside0.mk (below_step (below_alloc HB6.out _) hb7)
            have u7 : w7.cell? ⟨w1.heap.size, 5, none⟩ = some (.int .i64 E) := (blk_cell (blk_below (blk_alloc G7.out _) hb7) 5).trans rfl
            have u8 : w7.cell? ⟨w.heap.size, 4, none⟩ = some (.int .i64 E) := (blk_cell (blk_below (blk_alloc G8.out _) hb7) 4).trans rfl
            have u9 : w7.cell? ⟨w.heap.size, 5, none⟩ = some (.bool p3) := (blk_cell (blk_below (blk_alloc G8.out _) hb7) 5).trans rfl
            clear hb7
            go_wp2
            go_ret
            exact ⟨rfl, HB7.out⟩
theorem fits_w {a b : ByteArray} {e : Int} (ha : a.size ≤ 140737488351232) (hb : b.size ≤ 140737488351232) (he : -9223372036854775808 ≤ e ∧ e ≤ 9223372036854775807) : fits a b e = true := by
  unfold fits
  rw [decide_eq_true (show a.size ≤ 140737488355328 by omega), decide_eq_true (show b.size ≤ 140737488355328 by omega), decide_eq_true he.1, decide_eq_true he.2]; rfl
theorem may_exp {n : Bool} {a b : ByteArray} {e e' : Int} (h : mayR 0 n a b e = true) (h1 : -2001 ≤ e') (h2 : e' ≤ 2001) : mayR 0 n a b e' = true := by
  unfold mayR at *
  rw [if_pos rfl] at h ⊢
  rw [decide_eq_true h1, decide_eq_true h2]
  simp only [Bool.and_eq_true] at h ⊢
  exact ⟨⟨trivial, trivial⟩, h.2⟩
/-- The law's call is true of every Shown. -/
theorem whole_row (W : World) (c : Int) (n : Bool) (a b : ByteArray) (e : Int) (p : Bool) (he : -9223372036854775808 ≤ e ∧ e ≤ 9223372036854775807) (ha : a.size ≤ 140737488351232) (hb : b.size ≤ 140737488351232) :
    Calls Tryd.prog 6 #[.agg #[.int .i64 c, .bool n, .string a, .string b, .int .i64 e, .bool p]] W fun e' w' => e' = .returned (.bool true) ∧ Below W.heap.size W w' := by
  have h3 : opOf.f c n a b e p = some (ofP c n a b e p) := if_pos (fits_w ha hb he)
  by_cases hg0 : ¬ (mayR c n a b e = true ∧ c = 0 ∧ ¬ (p = true ∧ e < 0))
  · exact whole_out c n a b e p _ _ _ _ _ _ 80 W (h3.trans (congrArg some (if_neg hg0))) (Or.inl (by decide))
  have hg := Classical.not_not.1 hg0
  have h4 : ofP c n a b e p = okOps a.data.toList b.data.toList (expP e p) := if_pos hg
  rw [h4] at h3
  obtain ⟨g1, rfl, g3⟩ := hg
  obtain ⟨s1, s2, s3, s4, s5, s6, s7⟩ := may_size g1
  by_cases hI : 4000 < (mkS (aheadL (wholeL a.data.toList b.data.toList (expP e p)))).size
  · exact whole_out 0 n a b e p _ _ _ _ _ _ 0 W h3 (Or.inr ⟨rfl, Or.inl hI⟩)
  by_cases hV : 4000 < (b.data.toList.drop (expP e p)).length
  · exact whole_out 0 n a b e p _ _ _ _ _ _ 0 W h3 (Or.inr ⟨rfl, Or.inr ⟨Nat.le_of_not_lt hI, by omega⟩⟩)
  have hE : ((expP e p : Nat) : Int) = if p = true then e else 0 := by
    unfold expP
    cases p with
    | false => rfl
    | true => have : ¬ e < 0 := fun h => g3 ⟨rfl, h⟩; simp; omega
  have hI2 : (aheadL (wholeL a.data.toList b.data.toList (expP e p))).length ≤ 4000 := by rw [mkS_size] at hI; omega
  have hV2 : (b.data.toList.drop (expP e p)).length ≤ 4000 := by omega
  have he2 : -2001 ≤ (if p = true then e else 0) ∧ (if p = true then e else 0) ≤ 2001 := by split <;> omega
  have g2 : mayR 0 n a b (if p = true then e else 0) = true := may_exp g1 he2.1 he2.2
  have hf := flat_may (n := n) (i := expP e p) s5 s6 hI2 hV2
  have hv := flat_val (n := n) (a := a) (b := b) (e := if p = true then e else 0) (i := expP e p) hE.symm g2 hI2 hV2
  have ho := flat_of a.data.toList b.data.toList (expP e p)
  have hfit : fits (mkS (aheadL (wholeL a.data.toList b.data.toList (expP e p)))) (mkS (b.data.toList.drop (expP e p))) 0 = true := fits_w (by rw [mkS_size]; omega) (by rw [mkS_size]; omega) (by omega)
  have hfit2 : fits a b (if p = true then e else 0) = true := fits_w ha hb (by omega)
  have hbl := bareL_le (b.data.toList.drop (expP e p))
  have hal : (aheadL (bareL (b.data.toList.drop (expP e p)))).length ≤ (bareL (b.data.toList.drop (expP e p))).length + 1 := by
    rw [aheadL_eq]; split
    · simp
    · have := leadL_le (bareL (b.data.toList.drop (expP e p))); omega
  refine whole_yes 0 n a b e p _ _ _ (b.data.toList.drop (expP e p)).length (bareL (b.data.toList.drop (expP e p))).length (expP e p) W
    (valP 0 n a b (if p = true then e else 0)).1 (valP 0 n a b (if p = true then e else 0)).2.1 (valP 0 n a b (if p = true then e else 0)).2.2.1 (valP 0 n a b (if p = true then e else 0)).2.2.2.1 (valP 0 n a b (if p = true then e else 0)).2.2.2.2 (mkS (b.data.toList.drop (expP e p)))
    h3 (Nat.le_of_not_lt hI) hV2 hbl (by rw [mkS_size]; exact hal) ?_ ?_ ?_ ?_ hE ?_ ?_
  · unfold wValue.f; rw [if_pos hfit2]
  · unfold wValue.f; rw [if_pos hfit, hv]
  · unfold opOf.f ofP
    rw [if_pos hfit, if_pos ⟨hf, rfl, by simp⟩, mkS_data, mkS_data]
    have e0 : expP 0 false = 0 := rfl
    rw [e0, ho]; rfl
  · unfold rMay7.f; rw [if_pos hfit, hf]
  · intro ht
    rw [toList_data, mkS_data] at ht
    have hz : bareL (b.data.toList.drop (expP e p)) = [] := Classical.byContradiction fun h => ahead_nought h ht
    refine ⟨by rw [hz]; rfl, ?_⟩
    rw [frac_noughts hz]
  · intro ht
    rw [toList_data, mkS_data] at ht
    have hz : bareL (b.data.toList.drop (expP e p)) ≠ [] := fun h => ht (by rw [h]; rfl)
    have e1 : aheadL (bareL (b.data.toList.drop (expP e p))) = leadL (bareL (b.data.toList.drop (expP e p))) := by rw [aheadL_eq, if_neg (bare_lead hz)]
    refine ⟨by rw [mkS_size, e1]; exact leadL_le _, ?_⟩
    rw [mkS_size, toList_data, mkS_data, frac_again hz]
end Go.Proofs.YtfgjfkocbennnaaDoor.Q
