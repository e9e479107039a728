import Derived.Test.YtffldajbnhbkkaaDoorKv36
namespace Go.Proofs.YtffldajbnhbkkaaDoor.Q
open Go.RowKit Go.Proofs.YtffldajbnhbkkaaDoorW.PrintWords Go.Proofs.YtffldajbnhbkkaaDoorW.PrintLast Go.Proofs.YtffldajbnhbkkaaDoorW.PrintMore
set_option linter.unusedVariables false
set_option linter.unusedSimpArgs false
theorem eqA43 (d : Nat) (w : World) (x0 y0 : ByteArray) (x1 y1 : Int) :
    (Op.equalIn (d + 2) 43 (.agg #[.string x0, .int .i64 x1]) (.agg #[.string y0, .int .i64 y1])).run Tryd.prog w = .ok (x0.toList == y0.toList && (x1 == y1)) w := by
  refine eqA_of Tryd.underlying43 (by kernel_rfl) ?_
  refine eqf_cons (by rfl) (by go_simp; rfl) (by go_simp; rfl) (by go_simp) ?_
  exact eqf_last (by rfl) (by go_simp; rfl) (by go_simp; rfl) (by go_simp)
/-- The cells of pieces. -/
def C43 (l : List S43) : List Value := l.flatMap fun x => [.string x.f0, .int .i64 x.f1]
theorem C43_cons (x : S43) (l : List S43) : C43 (x :: l) = [.string x.f0, .int .i64 x.f1] ++ C43 l := rfl
theorem C43_len (l : List S43) : (C43 l).length = l.length * 2 := by
  induction l with
  | nil => rfl
  | cons x l ih => rw [C43_cons, List.length_append, ih, List.length_cons]; simp; omega
theorem C43_drop : ∀ (l : List S43) (i : Nat), (C43 l).drop (i * 2) = C43 (l.drop i)
  | l, 0 => by rw [Nat.zero_mul, List.drop_zero, List.drop_zero]
  | [], i + 1 => by rw [List.drop_nil]; rfl
  | x :: l, i + 1 => by
    rw [List.drop_succ_cons, ← C43_drop l i, C43_cons, show (i + 1) * 2 = 2 + i * 2 from by omega, ← List.drop_drop]
    rfl
theorem C43_reps {W : World} {base : Nat} {ok : Nat → Prop} (l : List S43) : Reps (k43.M W base ok) 2 l (C43 l) := by
  refine ⟨C43_len l, fun j p hp => ?_⟩
  obtain ⟨hj, rfl⟩ := List.getElem?_eq_some_iff.1 hp
  rw [C43_drop, List.drop_eq_getElem_cons hj, C43_cons]
  exact k43_mkM _ _ _ _
theorem lit43 (W : World) (l : List S43) (hl : l.length ≤ 1000) : Kd.C k43 (W.alloc (.cells (C43 l).toArray 43)) (some ⟨W.heap.size, 0, none⟩) l.length l := by
  have h : Kd.R k43 43 (W.alloc (.cells (C43 l).toArray 43)) 0 (fun _ => True) (.slice (some ⟨W.heap.size, 0, none⟩) l.length l.length) l :=
    ⟨fun _ _ => trivial, C43 l, World.ownsRow_lit W (C43 l).toArray l.length (Nat.zero_le _) (by simp only [maxLen]; omega) (by rw [List.size_toArray, C43_len]; rfl), C43_reps l⟩
  obtain ⟨A, c, e, _, hC⟩ := Kd.R_reads h
  injection e with e
  rw [← e] at hC; exact hC
theorem lit31 (W : World) (l : List S31) (hl : l.length ≤ 1000) : Kd.C k31 (W.alloc (.cells (C3 l).toArray 31)) (some ⟨W.heap.size, 0, none⟩) l.length l := by
  have h : Kd.R k31 31 (W.alloc (.cells (C3 l).toArray 31)) 0 (fun _ => True) (.slice (some ⟨W.heap.size, 0, none⟩) l.length l.length) l :=
    ⟨fun _ _ => trivial, C3 l, World.ownsRow_lit W (C3 l).toArray l.length (Nat.zero_le _) (by simp only [maxLen]; omega) (by rw [List.size_toArray, C3_len]; rfl), C3_reps l⟩
  obtain ⟨A, c, e, _, hC⟩ := Kd.R_reads h
  injection e with e
  rw [← e] at hC; exact hC
def quipulaw17_awake.f : Option Bool := some true
set_option maxHeartbeats 40000000 in
set_option maxRecDepth 100000 in
theorem quipulaw17_awake.calls (r : Bool) (w : World) (hG : Gd w) (h : quipulaw17_awake.f = some r) : Calls Tryd.prog 11 #[] w fun e w' => e = .returned (.bool r) ∧ Below w.heap.size w w' := by
  obtain rfl := Option.some.inj h
  clear h
  have hu25 := Tryd.underlying25
  have hu31 := Tryd.underlying31
  have hu43 := Tryd.underlying43
  have C1 := lit43 w L6 (by decide)
  have hb1 := below_alloc (Below.refl w.heap.size w) (.cells (C43 L6).toArray 43)
  have e6 : (C43 L6).toArray = #[.string ⟨#[45]⟩, .int .i64 1, .string ⟨#[49]⟩, .int .i64 2, .string ⟨#[44]⟩, .int .i64 3, .string ⟨#[50, 51, 52]⟩, .int .i64 2, .string ⟨#[46]⟩, .int .i64 4, .string ⟨#[53]⟩, .int .i64 5] := rfl
  have hc1 := build_walk _ 6 L6 _ (Gd.below hG hb1) C1 (Nat.le_refl _) (by decide) (by decide)
  unfold BuildPost at hc1
  rw [aw_b6] at hc1
  rw [e6] at hc1 hb1
  have B1 := Aside0.mk hb1
  have HG := Aside0.mk hG
  clear hG C1 hb1
  go_enter Tryd.func11, Tryd.ntmps11
  go_wp2_with fail
  go_at_call 8
  refine hc1.mono ?_
  rintro e w2 ⟨v1, rfl, hr1, hb2⟩
  have B2 := Aside0.mk (below_step B1.out hb2)
  obtain ⟨A1, c1, e1, hl1, hC1⟩ := Kd.R_reads hr1
  replace e1 : v1 = .slice A1 5 c1 := e1
  subst e1
  have HC1 := Aside0.mk (hC1 : Kd.C k31 w2 A1 5 wantS)
  have HL1 := Aside0.mk (hl1 : 5 ≤ c1)
  clear hr1 hb2 hc1 hC1 hl1 e6
  go_upto_region 2 with (fail)
  have hx3 := blk_new w2 (Obj.cells #[Value.string wantT, Value.slice A1 5 c1] 25)
  have hb3 := below_alloc (Below.refl w2.heap.size w2) (Obj.cells #[Value.string wantT, Value.slice A1 5 c1] 25)
  generalize w2.alloc (Obj.cells #[Value.string wantT, Value.slice A1 5 c1] 25) = w3 at hx3 hb3 ⊢
  generalize w2.heap.size = b1 at hx3 ⊢
  have HX3 := Aside0.mk hx3
  have B3 := Aside0.mk (below_step B2.out hb3)
  have HC3 := Aside0.mk (Kd.C_below HC1.out hb3)
  clear hx3 hb3 HC1
  have C2 := lit31 w3 wantS (by decide)
  have hb4 := below_alloc (Below.refl w3.heap.size w3) (.cells (C3 wantS).toArray 31)
  have e5 : (C3 wantS).toArray = #[.int .i64 1, .int .i64 0, .int .i64 1, .int .i64 2, .int .i64 1, .int .i64 6, .int .i64 3, .int .i64 2, .int .i64 3, .int .i64 4, .int .i64 6, .int .i64 7, .int .i64 5, .int .i64 7, .int .i64 8] := rfl
  rw [e5] at C2 hb4
  go_upto_region 3 with (fail)
  have hx4 := blk_new (w3.alloc (Obj.cells #[Value.int .i64 1, Value.int .i64 0, Value.int .i64 1, Value.int .i64 2, Value.int .i64 1, Value.int .i64 6, Value.int .i64 3, Value.int .i64 2, Value.int .i64 3, Value.int .i64 4, Value.int .i64 6, Value.int .i64 7, Value.int .i64 5, Value.int .i64 7, Value.int .i64 8] 31)) (Obj.cells #[Value.string ⟨#[45, 49, 44, 50, 51, 52, 46, 53]⟩, Value.slice (some ⟨w3.heap.size, 0, none⟩) 5 5] 25)
  have hb5 := below_alloc (Below.refl (w3.alloc (Obj.cells #[Value.int .i64 1, Value.int .i64 0, Value.int .i64 1, Value.int .i64 2, Value.int .i64 1, Value.int .i64 6, Value.int .i64 3, Value.int .i64 2, Value.int .i64 3, Value.int .i64 4, Value.int .i64 6, Value.int .i64 7, Value.int .i64 5, Value.int .i64 7, Value.int .i64 8] 31)).heap.size (w3.alloc (Obj.cells #[Value.int .i64 1, Value.int .i64 0, Value.int .i64 1, Value.int .i64 2, Value.int .i64 1, Value.int .i64 6, Value.int .i64 3, Value.int .i64 2, Value.int .i64 3, Value.int .i64 4, Value.int .i64 6, Value.int .i64 7, Value.int .i64 5, Value.int .i64 7, Value.int .i64 8] 31))) (Obj.cells #[Value.string ⟨#[45, 49, 44, 50, 51, 52, 46, 53]⟩, Value.slice (some ⟨w3.heap.size, 0, none⟩) 5 5] 25)
  have hC5 := Kd.C_below C2 hb5
  have hb6 := below_step hb4 hb5
  have hgw : (w3.alloc (Obj.cells #[Value.int .i64 1, Value.int .i64 0, Value.int .i64 1, Value.int .i64 2, Value.int .i64 1, Value.int .i64 6, Value.int .i64 3, Value.int .i64 2, Value.int .i64 3, Value.int .i64 4, Value.int .i64 6, Value.int .i64 7, Value.int .i64 5, Value.int .i64 7, Value.int .i64 8] 31)).heap.size = w3.heap.size + 1 := by simp
  rw [hgw] at hx4
  generalize (w3.alloc (Obj.cells #[Value.int .i64 1, Value.int .i64 0, Value.int .i64 1, Value.int .i64 2, Value.int .i64 1, Value.int .i64 6, Value.int .i64 3, Value.int .i64 2, Value.int .i64 3, Value.int .i64 4, Value.int .i64 6, Value.int .i64 7, Value.int .i64 5, Value.int .i64 7, Value.int .i64 8] 31)).alloc (Obj.cells #[Value.string ⟨#[45, 49, 44, 50, 51, 52, 46, 53]⟩, Value.slice (some ⟨w3.heap.size, 0, none⟩) 5 5] 25) = w4 at hx4 hb6 hC5 ⊢
  generalize w3.heap.size + 1 = b3 at hx4 ⊢
  generalize w3.heap.size = gw at hx4 hC5 ⊢
  have hwt : (⟨#[45, 49, 44, 50, 51, 52, 46, 53]⟩ : ByteArray) = wantT := rfl
  rw [hwt] at hx4
  have HX4 := Aside0.mk hx4
  have HXA := Aside0.mk (blk_below HX3.out hb6)
  have B4 := Aside0.mk (below_step B3.out hb6)
  have HCA := Aside0.mk (Kd.C_below HC3.out hb6)
  have HCW := Aside0.mk (hC5 : Kd.C k31 w4 (some ⟨gw, 0, none⟩) 5 wantS)
  clear hx4 hb4 hb5 hb6 hC5 C2 e5 hgw HX3 HC3
  have C3' := lit43 w4 [⟨⟨#[]⟩, 18⟩] (by decide)
  have hb7 := below_alloc (Below.refl w4.heap.size w4) (.cells (C43 [⟨⟨#[]⟩, 18⟩]).toArray 43)
  have e7 : (C43 [⟨⟨#[]⟩, 18⟩]).toArray = #[.string ⟨#[]⟩, .int .i64 18] := rfl
  have hc7 := build_walk _ 1 [⟨⟨#[]⟩, 18⟩] _ (Gd.below HG.out (below_step B4.out hb7)) C3' (Nat.le_refl _) (by decide) (by decide)
  unfold BuildPost at hc7
  rw [aw_b1] at hc7
  rw [e7] at hc7 hb7
  have B7 := Aside0.mk hb7
  clear C3' hb7 e7
  go_wp2_with fail
  go_at_call 8
  refine hc7.mono ?_
  rintro e w5 ⟨v2, rfl, hr2, hb8⟩
  obtain ⟨A2, c2, e2⟩ := Kd.R_slice hr2
  replace e2 : v2 = .slice A2 0 c2 := e2
  subst e2
  have hb9 := below_step B7.out hb8
  have HX5 := Aside0.mk (blk_below HX4.out hb9)
  have HXB := Aside0.mk (blk_below HXA.out hb9)
  have B5 := Aside0.mk (below_step B4.out hb9)
  have HCB := Aside0.mk (Kd.C_below HCA.out hb9)
  have HCX := Aside0.mk (Kd.C_below HCW.out hb9)
  clear hr2 hb8 hc7 hb9 HX4 HXA HCA HCW
  go_upto_region 4 with (fail)
  have hb9 := below_alloc (Below.refl w5.heap.size w5) (Obj.cells #[Value.string ⟨#[]⟩, Value.slice A2 0 c2] 25)
  generalize w5.alloc (Obj.cells #[Value.string ⟨#[]⟩, Value.slice A2 0 c2] 25) = w6 at hb9 ⊢
  have hx6 := blk_below HX5.out hb9
  have HXC := Aside0.mk (blk_below HXB.out hb9)
  have B6 := Aside0.mk (below_step B5.out hb9)
  have HCC := Aside0.mk (Kd.C_below HCB.out hb9)
  have HCY := Aside0.mk (Kd.C_below HCX.out hb9)
  have q0 : w6.cell? ⟨b3, 0, none⟩ = some (.string wantT) := (blk_cell hx6 0).trans rfl
  have q1 : w6.cell? ⟨b3, 1, none⟩ = some (.slice (some ⟨gw, 0, none⟩) 5 5) := (blk_cell hx6 1).trans rfl
  have HX6 := Aside0.mk hx6
  clear hb9 hx6 HX5 HXB B5 HCB HCX
  have hc8 := wrap_walk wantT (some ⟨gw, 0, none⟩) 5 wantS ⟨17, 0, 8⟩ w6 (Gd.below HG.out B6.out) (by decide) HCY.out (Nat.le_refl _) (by decide)
  unfold WrapPost at hc8
  rw [aw_wr] at hc8
  go_wp2_with fail
  go_at_call 13
  refine hc8.mono ?_
  rintro e w7 ⟨v3, rfl, hr3, hb10⟩
  obtain ⟨A3, c3, e3, hl3, hC3⟩ := Kd.R_reads hr3
  replace e3 : v3 = .slice A3 6 c3 := e3
  subst e3
  have HC7 := Aside0.mk (hC3 : Kd.C k31 w7 A3 6 (⟨17, 0, 8⟩ :: wantS))
  have HX7 := Aside0.mk (blk_below HX6.out hb10)
  have HXD := Aside0.mk (blk_below HXC.out hb10)
  have B7' := Aside0.mk (below_step B6.out hb10)
  have HCD := Aside0.mk (Kd.C_below HCC.out hb10)
  have HCZ := Aside0.mk (Kd.C_below HCY.out hb10)
  clear hr3 hb10 hc8 hC3 hl3 HX6 HXC B6 HCC HCY q0 q1
  go_upto_region 5 with (fail)
  have hx8 := blk_new w7 (Obj.cells #[Value.string wantT, Value.slice A3 6 c3] 25)
  have hb11 := below_alloc (Below.refl w7.heap.size w7) (Obj.cells #[Value.string wantT, Value.slice A3 6 c3] 25)
  generalize w7.alloc (Obj.cells #[Value.string wantT, Value.slice A3 6 c3] 25) = w8 at hx8 hb11 ⊢
  generalize w7.heap.size = b6 at hx8 ⊢
  have hx8w := blk_below HX7.out hb11
  have HX8 := Aside0.mk hx8
  have HX8w := Aside0.mk hx8w
  have HXE := Aside0.mk (blk_below HXD.out hb11)
  have B8 := Aside0.mk (below_step B7'.out hb11)
  have HC8 := Aside0.mk (Kd.C_below HC7.out hb11)
  have HCE := Aside0.mk (Kd.C_below HCD.out hb11)
  have HCU := Aside0.mk (Kd.C_below HCZ.out hb11)
  have q0 : w8.cell? ⟨b3, 0, none⟩ = some (.string wantT) := (blk_cell hx8w 0).trans rfl
  have q1 : w8.cell? ⟨b3, 1, none⟩ = some (.slice (some ⟨gw, 0, none⟩) 5 5) := (blk_cell hx8w 1).trans rfl
  clear hx8 hb11 hx8w HX7 HXD B7' HC7 HCD HCZ
  have hc9 := leaves_walk wantT (some ⟨gw, 0, none⟩) 5 wantS w8 (Gd.below HG.out B8.out) (by decide) HCU.out (Nat.le_refl _) (by decide)
  unfold LeafPost at hc9
  rw [aw_lv] at hc9
  go_wp2_with fail
  go_at_call 18
  refine hc9.mono ?_
  rintro e w9 ⟨v4, rfl, hr4, hb12⟩
  obtain ⟨A4, c4, e4, hl4, hC4⟩ := Kd.R_reads hr4
  replace e4 : v4 = .slice A4 6 c4 := e4
  subst e4
  have hC4' : Kd.C k43 w9 A4 6 L6 := hC4
  have hx9 := blk_below HX8.out hb12
  have hx9w := blk_below HX8w.out hb12
  have hx9a := blk_below HXE.out hb12
  have B9 := Aside0.mk (below_step B8.out hb12)
  have HC9 := Aside0.mk (Kd.C_below HC8.out hb12)
  have HCF := Aside0.mk (Kd.C_below HCE.out hb12)
  have HCV := Aside0.mk (Kd.C_below HCU.out hb12)
  have q0 : w9.cell? ⟨b3, 0, none⟩ = some (.string wantT) := (blk_cell hx9w 0).trans rfl
  have q1 : w9.cell? ⟨b3, 1, none⟩ = some (.slice (some ⟨gw, 0, none⟩) 5 5) := (blk_cell hx9w 1).trans rfl
  have a0 : w9.cell? ⟨b1, 0, none⟩ = some (.string wantT) := (blk_cell hx9a 0).trans rfl
  have a1 : w9.cell? ⟨b1, 1, none⟩ = some (.slice A1 5 c1) := (blk_cell hx9a 1).trans rfl
  have HX9 := Aside0.mk hx9
  have HX9w := Aside0.mk hx9w
  have HC4 := Aside0.mk hC4'
  clear hr4 hb12 hc9 hC4 hC4' hl4 hx9 hx9w hx9a HX8 HX8w HXE B8 HC8 HCE HCU
  go_upto_region 6 with (fail)
  have hsm := quipuref17_Same.calls 20 wantT A1 c1 wantS wantT (some ⟨gw, 0, none⟩) 5 wantS true w9 HCF.out HL1.out HCV.out (Nat.le_refl _) (same_self wantT wantS (by decide) 20 (by decide))
  go_wp2_with fail
  go_at_call 10
  refine hsm.mono ?_
  rintro e w10 ⟨rfl, hb13⟩
  have hx10 := blk_below HX9.out hb13
  have hx10w := blk_below HX9w.out hb13
  have B10 := Aside0.mk (below_step B9.out hb13)
  have HCW10 := Kd.C_below HCV.out hb13
  have hC3 := Kd.C_below HC9.out hb13
  have hC4 := Kd.C_below HC4.out hb13
  have q0 : w10.cell? ⟨b3, 0, none⟩ = some (.string wantT) := (blk_cell hx10w 0).trans rfl
  have q1 : w10.cell? ⟨b3, 1, none⟩ = some (.slice (some ⟨gw, 0, none⟩) 5 5) := (blk_cell hx10w 1).trans rfl
  have g0 : w10.cell? ⟨b6, 1, none⟩ = some (.slice A3 6 c3) := (blk_cell hx10 1).trans rfl
  obtain ⟨ad3, ea3, m0, m1, m2⟩ := at_T31 hC3 0 (by decide) (by decide)
  obtain ⟨ad4, ea4, n0, n1⟩ := at_T43 hC4 3 (by decide) (by decide)
  subst ea3 ea4
  have ea0 : ad3.add 0 = ad3 := by simp [Addr.add]
  replace m0 : w10.cell? (ad3.add 0) = some (.int .i64 17) := m0
  replace m1 : w10.cell? ⟨(ad3.add 0).block, (ad3.add 0).off + 1, none⟩ = some (.int .i64 0) := m1
  replace m2 : w10.cell? ⟨(ad3.add 0).block, (ad3.add 0).off + 2, none⟩ = some (.int .i64 8) := m2
  rw [ea0] at m0 m1 m2
  have ea6 : ad4.add 6 = ⟨ad4.block, ad4.off + 6, none⟩ := by simp [Addr.add]
  have hq31 := eqA31
  have hq43 := eqA43
  replace n0 : w10.cell? (ad4.add 6) = some (.string ⟨#[50, 51, 52]⟩) := n0
  replace n1 : w10.cell? ⟨(ad4.add 6).block, (ad4.add 6).off + 1, none⟩ = some (.int .i64 2) := n1
  rw [ea6] at n0 n1
  replace n1 : w10.cell? ⟨ad4.block, ad4.off + 6 + 1, none⟩ = some (.int .i64 2) := n1
  have hck := check_walk wantT (some ⟨gw, 0, none⟩) 5 wantS w10 (Gd.below HG.out B10.out) (by decide) HCW10 (Nat.le_refl _) (by decide)
  unfold ChkPost at hck
  rw [aw_ck] at hck
  clear hx10 hx10w hb13 HCW10 hC3 hC4 hsm a0 a1 ea0 ea6
  go_wp2_with fail
  go_at_call 15
  refine hck.mono ?_
  rintro e w11 ⟨rfl, hb14⟩
  have B11 := Aside0.mk (below_step B10.out hb14)
  clear hb14 hck
  go_wp2
  go_ret
  exact ⟨rfl, B11.out⟩
end Go.Proofs.YtffldajbnhbkkaaDoor.Q
