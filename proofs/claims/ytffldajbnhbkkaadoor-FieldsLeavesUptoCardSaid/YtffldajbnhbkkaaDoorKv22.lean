import Derived.Test.YtffldajbnhbkkaaDoorKv21
namespace Go.Proofs.YtffldajbnhbkkaaDoor.Q
open Go.RowKit Go.Proofs.YtffldajbnhbkkaaDoorW.PrintWords Go.Proofs.YtffldajbnhbkkaaDoorW.PrintLast Go.Proofs.YtffldajbnhbkkaaDoorW.PrintMore
set_option linter.unusedVariables false
set_option linter.unusedSimpArgs false
/-- What Build leaves. -/
def BuildPost (l : List S43) (w : World) (e : Ending) (w' : World) : Prop := ∃ v1_ : Value, e = .returned (.tuple #[.agg #[.string (buildR l).1, v1_], .int .i64 (buildR l).2.2]) ∧ Kd.R k31 31 w' w.heap.size (fun _ => True) v1_ (buildR l).2.1 ∧ Below w.heap.size w w'
theorem tlN (T : List UInt8) (s : ByteArray) : (bb (T ++ s.data.toList)).length = T.length + s.size := by rw [bb_len, List.length_append, slenF]
theorem emp_t {s : ByteArray} (h : s.size = 0) : s.toList.isEmpty = true := by rw [(nilF s).2 h]; rfl
theorem emp_f {s : ByteArray} (h : s.size ≠ 0) : s.toList.isEmpty = false := by
  cases e : s.toList with
  | nil => exact absurd ((nilF s).1 e) h
  | cons _ _ => rfl
theorem flush_push (hl : List S31) (st : Option (Int × Int)) (h : hl.length < 900000) : (HP.pushes lt31 hl (flush st)).length < 1000000000 := by
  rw [pushes_len]; have := flush_len st; omega
theorem wrapI {l : List S43} {i : Nat} (h : i < l.length) (h2 : l.length ≤ 400000) : wrap64 ((i : Int) + 1) = ((i + 1 : Nat) : Int) := by unfold wrap64; omega
theorem m_less {l : List S43} {i : Nat} (h : i < l.length) (h2 : l.length ≤ 400000) : l.length - (i + 1) < l.length - i := by omega
theorem lt_e9 {n : Nat} (h : n < 900000) : n < 1000000000 := by omega
theorem pos_len {s : ByteArray} (h : s.size ≠ 0) (n : Nat) : (0 : Int) < (n : Int) + (s.size : Int) := by omega
theorem bad_post {l : List S43} {w W : World} {g2 gw gh : Nat} {t : Value} {T : List UInt8} {v : Value} {hl : List S31} {st : Option (Int × Int)} (hb : buildR l = (⟨#[]⟩, [], 170)) (h : BS w W g2 gw gh t T v hl st) (x y : Value) :
    BuildPost l w (.returned (.tuple #[.agg #[.string ⟨#[]⟩, .slice none 0 0], .int .i64 170])) ((W.setCell ⟨g2, 0, none⟩ x).setCell ⟨g2, 1, none⟩ y) := by
  refine ⟨.slice none 0 0, by rw [hb], by rw [hb]; exact Kd.R_nil _ _ _ _ _, below_set (below_set h.below h.b2) h.b2⟩
theorem good_post {l : List S43} {w W : World} {g2 go gh : Nat} {v vo : Value} {hl xs : List S31} (ha : l.all okP = true) (h : DS w W g2 go gh (mkS (textP l)) v hl vo xs) (hx : xs = HP.drainL lt31 (HP.pushes lt31 [] (evs l 0 none)).length (HP.pushes lt31 [] (evs l 0 none))) (x y : Value) :
    BuildPost l w (.returned (.tuple #[.agg #[.string (mkS (textP l)), vo], .int .i64 0])) ((W.setCell ⟨g2, 0, none⟩ x).setCell ⟨g2, 1, none⟩ y) := by
  have e : buildR l = (mkS (textP l), xs, 0) := by unfold buildR; rw [if_pos ha, ← hx]
  refine ⟨vo, by rw [e], ?_, below_set (below_set h.below h.b2) h.b2⟩
  rw [e]
  refine R_typ (Kd.R_mono h.row (fun _ _ => trivial)) rfl (fun k hk ⟨c, hc⟩ => ?_)
  have hne : k ≠ g2 := typ_ne hc h.out (by decide)
  exact (Below.heap_setCell _ ⟨g2, 1, none⟩ _ k hne).trans (Below.heap_setCell _ ⟨g2, 0, none⟩ _ k hne)
theorem okP_of {p : S43} (h0 : ¬ p.f1 < 0) (h1 : ¬ p.f1 ≥ 18) (h2 : Lib.validD p.f0.data.toList = true) : okP p = true := by
  unfold okP; rw [decide_eq_true (by omega), decide_eq_true (by omega), h2]; rfl
theorem okP_v {p : S43} (h2 : Lib.validD p.f0.data.toList = false) : okP p = false := by
  unfold okP; rw [h2, Bool.and_false]
theorem okP_n {p : S43} (h2 : p.f1 < 0 ∨ p.f1 ≥ 18) : okP p = false := by
  unfold okP
  rcases h2 with h2 | h2
  · rw [decide_eq_false (by omega), Bool.false_and, Bool.false_and]
  · rw [decide_eq_false (show ¬ p.f1 ≤ 17 by omega), Bool.and_false, Bool.false_and]
theorem bs_start (w : World) : BS w (((w.alloc (Obj.cells #[Value.string ⟨#[]⟩, Value.slice none 0 0] 25)).alloc (Obj.cells #[Value.slice none 0 0] 54)).alloc (Obj.cells #[Value.int IntKind.i64 2, Value.int IntKind.i64 0, Value.int IntKind.i64 0] 31)) w.heap.size (w.heap.size + 2) (w.heap.size + 1) (.slice none 0 0) [] (.slice none 0 0) [] none := by
  refine ⟨below_alloc (below_alloc (below_alloc (Below.refl _ _) _) _) _, blk_alloc (blk_alloc (blk_new w _) _) _, ?_, ⟨?_, Kd.R_nil _ _ _ _ _, Nat.le_succ _⟩, Kd.R_nil _ _ _ _ _, (fun e => by cases e), Nat.le_add_right _ _, Nat.le_refl _, fun p hp => by cases hp⟩
  · have := blk_new ((w.alloc (Obj.cells #[Value.string ⟨#[]⟩, Value.slice none 0 0] 25)).alloc (Obj.cells #[Value.slice none 0 0] 54)) (Obj.cells #[Value.int IntKind.i64 2, Value.int IntKind.i64 0, Value.int IntKind.i64 0] 31)
    have e : ((w.alloc (Obj.cells #[Value.string ⟨#[]⟩, Value.slice none 0 0] 25)).alloc (Obj.cells #[Value.slice none 0 0] 54)).heap.size = w.heap.size + 2 := by simp
    rw [e] at this
    exact this
  · have := blk_alloc (blk_new (w.alloc (Obj.cells #[Value.string ⟨#[]⟩, Value.slice none 0 0] 25)) (Obj.cells #[Value.slice none 0 0] 54)) (Obj.cells #[Value.int IntKind.i64 2, Value.int IntKind.i64 0, Value.int IntKind.i64 0] 31)
    simpa using this
set_option maxHeartbeats 40000000 in
set_option maxRecDepth 100000 in
theorem build_walk (A : Option Addr) (c : Nat) (l : List S43) (w : World) (hG : Gd w) (hr : Kd.C k43 w A l.length l) (hc : l.length ≤ c) (hl : l.length ≤ 400000) (hT : (textP l).length ≤ 2000000) :
    Calls Tryd.prog 8 #[.slice A l.length c] w (BuildPost l w) := by
  have hu25 := Tryd.underlying25
  have hu31 := Tryd.underlying31
  have hu54 := Tryd.underlying54
  have HR := Aside0.mk hr
  have HC := Aside0.mk hc
  have HG := Aside0.mk hG
  have HL := Aside0.mk hl
  have HT := Aside0.mk hT
  clear hr hc hG hl hT
  go_enter Tryd.func8, Tryd.ntmps8
  go_wp2
  go_loopw [4, 16] (fun v4 v16 wr => ∃ (i : Nat) (T : List UInt8) (v : Value) (hl : List S31) (st : Option (Int × Int)), v16 = .int .i64 i ∧ BS w wr w.heap.size (w.heap.size + 2) (w.heap.size + 1) v4 T v hl st ∧ Left l i T hl st) (fun _ v16 _ => l.length - (Lib.intOf v16).toNat)
  case atStart => exact ⟨0, [], .slice none 0 0, [], none, rfl, bs_start w, Left.start l⟩
  case round =>
    obtain ⟨i, T, v, hl, st, rfl, hbs, hle⟩ := hrel
    generalize hg2 : w.heap.size = g2 at *
    generalize hgw : g2 + 2 = gw at *
    generalize hgh : g2 + 1 = gh at *
    by_cases hi : i < l.length
    · have hii : (i : Int) < (l.length : Int) := Int.ofNat_lt.2 hi
      obtain ⟨ad, e1, c0, c1⟩ := at_T43 HR.out (i : Int) (Int.natCast_nonneg i) hii
      cases e1
      rw [rd43 l i hi, Int.toNat_natCast] at c0 c1
      obtain ⟨p, hp⟩ : ∃ p, p = l[i] := ⟨_, rfl⟩
      rw [← hp] at c0 c1
      replace c0 := (hbs.below.cell (World.block_lt_of_cell? w _ c0)).trans c0
      replace c1 := (hbs.below.cell (World.block_lt_of_cell? w _ c1)).trans c1
      have hlt0 : (0 : Int) ≤ (i : Int) := Int.natCast_nonneg i
      have HWI := Aside0.mk (wrapI hi HL.out)
      have HML := Aside0.mk (m_less hi HL.out)
      have HPI : Aside0 (∃ hi : i < l.length, p = l[i]) := ⟨hi, hp⟩
      obtain ⟨A4, c4, rfl⟩ := Kd.R_slice hbs.text
      rw [bb_len] at hbs
      have htl := hle.tlen HT.out hi
      rw [← hp] at htl
      have HTL := Aside0.mk htl
      have HHL := Aside0.mk (hle.len HL.out)
      have HBS := Aside0.mk hbs
      have HLE := Aside0.mk hle
      have GE := Aside0.mk hg2
      have GW := Aside0.mk hgw
      have GH := Aside0.mk hgh
      rw [bb_len]
      clear hbs hle hi hp hg2 hgw hgh htl
      go_upto_region 8 with (fail)
      have hb2 := HBS.out.alloc (Obj.cells #[Value.string p.f0, Value.int .i64 p.f1] 43)
      have hp2 := blk_new wr (Obj.cells #[Value.string p.f0, Value.int .i64 p.f1] 43)
      generalize wr.alloc (Obj.cells #[Value.string p.f0, Value.int .i64 p.f1] 43) = w2 at hb2 hp2 ⊢
      generalize wr.heap.size = gp at hp2 ⊢
      have k0 : w2.cell? ⟨gp, 0, none⟩ = some (.string p.f0) := (blk_cell hp2 0).trans rfl
      have k1 : w2.cell? ⟨gp, 1, none⟩ = some (.int .i64 p.f1) := (blk_cell hp2 1).trans rfl
      have z0 : w2.cell? ⟨g2, 0, none⟩ = some (.string ⟨#[]⟩) := (blk_cell hb2.out 0).trans rfl
      have z1 : w2.cell? ⟨g2, 1, none⟩ = some (.slice none 0 0) := (blk_cell hb2.out 1).trans rfl
      have y0 := blk_frozen hb2.out 0
      have y1 := blk_frozen hb2.out 1
      have HB2 := Aside0.mk hb2
      have HP2 := Aside0.mk hp2
      clear hb2 hp2 c0 c1
      have VC := Aside0.mk (fun (W : World) (hW : Below w.heap.size w W) => utf8_ValidString.calls p.f0 _ W (Gd.below HG.out hW) (valid_f p.f0 (by have := HTL.out; omega)))
      by_cases n0 : p.f1 < 0
      · have HBAD : Aside0 (buildR l = (⟨#[]⟩, [], 170)) := ⟨by obtain ⟨hi, hp⟩ := HPI.out; exact HLE.out.bad hi (hp ▸ okP_n (Or.inl n0))⟩
        go_wp2
        (try simp only [Exit.inBlock, Exit.then])
        refine ret_box rfl (blk_put (blk_put HB2.out.out 0 _ rfl) 1 _ rfl) ?_
        exact bad_post HBAD.out HB2.out _ _
      · by_cases n1 : p.f1 ≥ 18
        · have HBAD : Aside0 (buildR l = (⟨#[]⟩, [], 170)) := ⟨by obtain ⟨hi, hp⟩ := HPI.out; exact HLE.out.bad hi (hp ▸ okP_n (Or.inr n1))⟩
          go_wp2
          (try simp only [Exit.inBlock, Exit.then])
          refine ret_box rfl (blk_put (blk_put HB2.out.out 0 _ rfl) 1 _ rfl) ?_
          exact bad_post HBAD.out HB2.out _ _
        · cases hv : Lib.validD p.f0.data.toList with
          | false =>
            have HBAD : Aside0 (buildR l = (⟨#[]⟩, [], 170)) := ⟨by obtain ⟨hi, hp⟩ := HPI.out; exact HLE.out.bad hi (hp ▸ okP_v hv)⟩
            rw [hv] at VC
            go_wp2_with (go_at_call 24; refine (VC.out _ HB2.out.below).mono ?_; rintro e w3 ⟨rfl, hb⟩; have hb3 := HB2.out.next hb; have z0 : w3.cell? ⟨g2, 0, none⟩ = some (.string ⟨#[]⟩) := (blk_cell hb3.out 0).trans rfl; have z1 : w3.cell? ⟨g2, 1, none⟩ = some (.slice none 0 0) := (blk_cell hb3.out 1).trans rfl; have y0 := blk_frozen hb3.out 0; have y1 := blk_frozen hb3.out 1; have HB3 := Aside0.mk hb3; clear hb hb3)
            (try simp only [Exit.inBlock, Exit.then])
            refine ret_box rfl (blk_put (blk_put HB3.out.out 0 _ rfl) 1 _ rfl) ?_
            exact bad_post HBAD.out HB3.out _ _
          | true =>
            have HOK := Aside0.mk (okP_of n0 n1 hv)
            rw [hv] at VC
            clear hv
            go_upto_region 10 with (first | (go_at_call 24; refine (VC.out _ HB2.out.below).mono ?_; rintro e w3 ⟨rfl, hb⟩; have hb3 := HB2.out.next hb; have hp3 := blk_below HP2.out hb; have k0 : w3.cell? ⟨gp, 0, none⟩ = some (.string p.f0) := (blk_cell hp3 0).trans rfl; have k1 : w3.cell? ⟨gp, 1, none⟩ = some (.int .i64 p.f1) := (blk_cell hp3 1).trans rfl; have HP3 := Aside0.mk hp3; have HB3 := Aside0.mk hb3; clear hb hb3 hp3))
            by_cases es : p.f0.size = 0
            · have hse := emp_t es
              have ES := Aside0.mk es
              clear es
              go_wp2
              go_roundw
              case rel =>
                obtain ⟨hi, hp⟩ := HPI.out
                subst hp
                exact ⟨i + 1, _, _, _, _, by rw [HWI.out], HB3.out, HLE.out.empty hi HOK.out ES.out⟩
              case measure => rw [HWI.out]; exact HML.out
            · have hse := emp_f es
              have ES := Aside0.mk es
              clear es
              go_upto_region 13 with (first | (at_builtin; refine print_append_str (w0 := w) w.heap.size rfl (.tmp 40) _ 41 9 5 rfl Tryd.underlying41 Tryd.underlying9 info5 (.slice A4 T.length c4) (bb T) p.f0 rfl rfl ?aO ?aB ?aS ?aL ?_; (case aB => exact HB3.out.below); (case aO => exact Kd.own_of_R HB3.out.text); (case aS => exact HB3.out.below.size); (case aL => rw [bb_len]; have := HTL.out; omega); intro v4 w4 ho0 hb hg; have ht4 : Kd.R (Kd.int .u8) 5 w4 w.heap.size (fun _ => True) v4 (bb (T ++ p.f0.data.toList)) := (by rw [bb_app, bb_bytes]; exact Kd.R_of_own (h1 := fun _ => rfl) ho0 (fun _ _ => trivial)); obtain ⟨A5, c5, e5⟩ := Kd.R_slice ht4; rw [tlN] at e5; subst e5; have hb4 := HB3.out.texted hb hg ht4; have hp4 := HB3.out.keep5 hg (by decide) HP3.out; have k1 : w4.cell? ⟨gp, 1, none⟩ = some (.int .i64 p.f1) := (blk_cell hp4 1).trans rfl; have x1 := blk_cell hb4.whole 1; have x2 := blk_cell hb4.whole 2; have q1 := blk_frozen hb4.whole 1; have q2 := blk_frozen hb4.whole 2; have HP4 := Aside0.mk hp4; have HB4 := Aside0.mk hb4; clear hb4 hp4 ho0 hb hg ht4))
              by_cases f2 : p.f1 = 2
              · cases st with
                | none =>
                  replace x1 : w4.cell? ⟨gw, 1, none⟩ = some (.int .i64 0) := x1.trans rfl
                  replace x2 : w4.cell? ⟨gw, 2, none⟩ = some (.int .i64 0) := x2.trans rfl
                  go_wp2
                  go_roundw
                  case rel =>
                    obtain ⟨hi, hp⟩ := HPI.out
                    subst hp
                    refine ⟨i + 1, _, v, hl, some (firstOf (T.length : Int) none, (T.length : Int) + l[i].f0.size), by rw [HWI.out], HB4.out.wholed (fun k hk => ?_) ?_ rfl rfl rfl ?_ (fun q hq => ?_), HLE.out.whole hi HOK.out ES.out f2⟩
                    · exact (Below.heap_setCell _ ⟨gw, 2, none⟩ _ k hk).trans (Below.heap_setCell _ ⟨gw, 1, none⟩ _ k hk)
                    · simp [World.setCell]
                    · exact blk_put (blk_put HB4.out.whole 1 _ rfl) 2 _ rfl
                    · injection hq with hq; subst hq; exact pos_len ES.out T.length
                  case measure => rw [HWI.out]; exact HML.out
                | some sp =>
                  obtain ⟨sa, sb⟩ := sp
                  have sbp : sb ≠ 0 := by have := HBS.out.pos (sa, sb) rfl; omega
                  replace x1 : w4.cell? ⟨gw, 1, none⟩ = some (.int .i64 sa) := x1.trans rfl
                  replace x2 : w4.cell? ⟨gw, 2, none⟩ = some (.int .i64 sb) := x2.trans rfl
                  go_wp2
                  go_roundw
                  case rel =>
                    obtain ⟨hi, hp⟩ := HPI.out
                    subst hp
                    refine ⟨i + 1, _, v, hl, some (firstOf (T.length : Int) (some (sa, sb)), (T.length : Int) + l[i].f0.size), by rw [HWI.out], HB4.out.wholed (fun k hk => ?_) ?_ rfl rfl rfl ?_ (fun q hq => ?_), HLE.out.whole hi HOK.out ES.out f2⟩
                    · exact Below.heap_setCell _ ⟨gw, 2, none⟩ _ k hk
                    · simp [World.setCell]
                    · exact blk_put HB4.out.whole 2 _ rfl
                    · injection hq with hq; subst hq; exact pos_len ES.out T.length
                  case measure => rw [HWI.out]; exact HML.out
              · clear x1 x2 q1 q2
                by_cases f3 : p.f1 = 3
                · go_wp2_with (first | (go_at_call 23; refine (push_b HB4.out (lt_e9 HHL.out) 3 T.length (T.length + p.f0.size)).mono ?_; rintro e w6 ⟨rfl, v6, hb6, _⟩; have HB6 := Aside0.mk hb6; clear hb6))
                  go_roundw
                  case rel =>
                    obtain ⟨hi, hp⟩ := HPI.out
                    subst hp
                    exact ⟨i + 1, _, _, _, _, by rw [HWI.out], HB6.out, HLE.out.group hi HOK.out ES.out f3⟩
                  case measure => rw [HWI.out]; exact HML.out
                · by_cases f0 : p.f1 = 0
                  · go_wp2_with (first | (go_at_call 22; refine (end_b HB4.out (lt_e9 HHL.out)).mono ?_; rintro e w5 ⟨rfl, v5, hb5, kt5⟩; have hp5 := kt5 _ _ _ (by decide) (by decide) HP4.out; have k1 : w5.cell? ⟨gp, 1, none⟩ = some (.int .i64 p.f1) := (blk_cell hp5 1).trans rfl; have HB5 := Aside0.mk hb5; clear hb5 kt5 hp5))
                    go_roundw
                    case rel =>
                      obtain ⟨hi, hp⟩ := HPI.out
                      subst hp
                      exact ⟨i + 1, _, _, _, _, by rw [HWI.out], HB5.out, HLE.out.lit hi HOK.out ES.out f0⟩
                    case measure => rw [HWI.out]; exact HML.out
                  · go_wp2_with (first | (go_at_call 22; refine (end_b HB4.out (lt_e9 HHL.out)).mono ?_; rintro e w5 ⟨rfl, v5, hb5, kt5⟩; have hp5 := kt5 _ _ _ (by decide) (by decide) HP4.out; have k1 : w5.cell? ⟨gp, 1, none⟩ = some (.int .i64 p.f1) := (blk_cell hp5 1).trans rfl; have HB5 := Aside0.mk hb5; clear hb5 kt5 hp5) | (go_at_call 23; refine (push_b HB5.out (flush_push _ _ HHL.out) p.f1 T.length (T.length + p.f0.size)).mono ?_; rintro e w6 ⟨rfl, v6, hb6, _⟩; have HB6 := Aside0.mk hb6; clear hb6))
                    go_roundw
                    case rel =>
                      obtain ⟨hi, hp⟩ := HPI.out
                      subst hp
                      exact ⟨i + 1, _, _, _, _, by rw [HWI.out], HB6.out, HLE.out.other hi HOK.out ES.out f0 f2 f3⟩
                    case measure => rw [HWI.out]; exact HML.out
    · obtain ⟨htx, hall, hpu⟩ := hle.done (by have := hle.le; omega)
      subst htx
      have hii : ¬ ((i : Int) < (l.length : Int)) := fun h => hi (Int.ofNat_lt.1 h)
      have HHL := Aside0.mk (hle.len HL.out)
      have HBS := Aside0.mk hbs
      have HPU := Aside0.mk hpu
      have HALL := Aside0.mk hall
      have GE := Aside0.mk hg2
      have GW := Aside0.mk hgw
      have GH := Aside0.mk hgh
      clear hbs hle hi hg2 hgw hgh hpu hall
      go_wp2_with fail
      go_at_call 22
      refine (end_b HBS.out (lt_e9 HHL.out)).mono ?_
      rintro e w5 ⟨rfl, v5, hb5, _⟩
      rw [HPU.out] at hb5
      obtain ⟨A5, c5, e5, hlc5, hC5⟩ := Kd.R_reads hb5.text
      subst e5
      have hcv := Kd.C_string Tryd.underlying41 Tryd.underlying5 Tryd.underlying9 (c := c5) hC5
      rw [bb_back] at hcv
      have HB5 := Aside0.mk hb5
      clear hb5 hC5
      have hpl : (HP.pushes lt31 [] (evs l 0 none)).length < 1000000000 := by rw [← HPU.out, pushes_len]; have := HHL.out; have := flush_len st; omega
      have HPL := Aside0.mk hpl
      go_upto_region 25 with (fail)
      have hd := HB5.out.drain (mkS (textP l))
      generalize w5.alloc (Obj.cells #[Value.string (mkS (textP l)), Value.slice none 0 0] 25) = w6 at hd ⊢
      generalize w5.heap.size = go at hd ⊢
      have HD0 := Aside0.mk hd
      clear hd hcv hpl
      go_loopw [78] (fun v78 wr => ∃ (v : Value) (hl : List S31) (vo : Value) (xs : List S31), DS w wr g2 go gh (mkS (textP l)) v hl vo xs ∧ xs ++ HP.drainL lt31 hl.length hl = HP.drainL lt31 (HP.pushes lt31 [] (evs l 0 none)).length (HP.pushes lt31 [] (evs l 0 none)) ∧ hl.length < 1000000000) (fun _ wr => lenAt wr gh)
      case atStart => exact ⟨v5, _, .slice none 0 0, [], HD0.out, rfl, HPL.out⟩
      case round =>
        obtain ⟨v, hl, vo, xs, hd, hdr, hlt⟩ := hrel
        obtain ⟨A7, c7, rfl⟩ := Kd.R_slice hd.heap.row
        obtain ⟨A8, c8, rfl⟩ := Kd.R_slice hd.row
        have h0 : wr.cell? ⟨gh, 0, none⟩ = some (.slice A7 hl.length c7) := (blk_cell hd.heap.var 0).trans rfl
        have r0 : wr.cell? ⟨go, 0, none⟩ = some (.string (mkS (textP l))) := (blk_cell hd.res 0).trans rfl
        have r1 : wr.cell? ⟨go, 1, none⟩ = some (.slice A8 xs.length c8) := (blk_cell hd.res 1).trans rfl
        have HD := Aside0.mk hd
        have HDR := Aside0.mk hdr
        have HLT := Aside0.mk hlt
        have HLA := Aside0.mk hd.heap.lenAt
        by_cases hz : hl.length = 0
        · have hz' : ¬ ((0 : Int) < (hl.length : Int)) := by omega
          have y0 := blk_frozen hd.out 0
          have y1 := blk_frozen hd.out 1
          have z0 : wr.cell? ⟨g2, 0, none⟩ = some (.string ⟨#[]⟩) := (blk_cell hd.out 0).trans rfl
          have z1 : wr.cell? ⟨g2, 1, none⟩ = some (.slice none 0 0) := (blk_cell hd.out 1).trans rfl
          have HZ := Aside0.mk hz
          clear hd hdr hlt hz
          go_wp2
          (try simp only [Exit.inBlock, Exit.then])
          refine ret_box rfl (blk_put (blk_put HD.out.out 0 _ rfl) 1 _ rfl) ?_
          exact good_post HALL.out HD.out (told_done HZ.out HDR.out) _ _
        · have hpos : 0 < hl.length := by omega
          have hpi : (0 : Int) < (hl.length : Int) := by omega
          have HPO := Aside0.mk hpos
          obtain ⟨x, hx⟩ : ∃ x, x = hl[0] := ⟨_, rfl⟩
          have HX : Aside0 (∃ h : 0 < hl.length, x = hl[0]) := ⟨⟨hpos, hx⟩⟩
          have hpc : Calls Tryd.prog 25 #[.iface 56 (.pointer (some ⟨gh, 0, none⟩))] wr.drew fun e w' => e = .returned (.iface 31 (.agg #[.int .i64 x.f0, .int .i64 x.f1, .int .i64 x.f2])) ∧ ∃ v', HS w' w.heap.size gh v' (HP.popL lt31 hl hpos) ∧ Bes gh (.slice A7 hl.length c7) wr.drew w' ∧ At wr.drew.heap.size (.slice A7 hl.length c7) v' := by
            rw [hx]; exact heap_pop w.heap.size gh (.slice A7 hl.length c7) hl wr.drew HD.out.drew.heap hpos hlt
          clear hd hdr hlt hx
          have hta := assert31
          have yo := blk_frozen HD.out.res 1
          go_wp2
          go_region_law (first | (refine law_of_step ?hw (Kd.R_append_step k31 (w0 := w) (W := w2) w.heap.size ?hw2 (.tmp 82) (.tmp 86) 23 31 (.agg #[.int .i64 0, .int .i64 0, .int .i64 0]) 24 ?ho Tryd.underlying23 info31 rfl (by decide) (by decide) (.slice A8 xs.length c8) xs x [.int .i64 x.f0, .int .i64 x.f1, .int .i64 x.f2] (fun k => some k ≠ v2.ownBlock) (fun _ => False) ?hs ?hx (k31_mkM _ _ _ _) (fun _ h => h.elim) ?hfr ?hO ?hB ?hb ?hlen ?_); (case hw => simp [Region.wanted]); (case hw2 => simp [Region.wanted]); (case ho => rfl); (case hs => simp [Act.eval, Act.put]); (case hx => simp [Act.eval, Act.put]); (case hfr => intro q hq e; exact absurd (own_lt HD2.out.heap.row e.symm).1 (Nat.not_lt.2 hq)); (case hO => exact HD2.out.row); (case hB => exact HD2.out.below); (case hb => exact HD2.out.below.size); (case hlen => exact told_le HDR.out HPL.out); intro v1 w4 hR4 hB4 hg4 hat4; obtain ⟨A9, c9, rfl⟩ := Kd.R_slice hR4; have hd4 := HD2.out.res_grown hg4; have q4 : w4.cell? ⟨go, 1, none⟩ = some (.slice A8 xs.length c8) := (blk_cell hd4 1).trans rfl; have z4 := blk_frozen hd4 1; have hd5 := HD2.out.appended hB4 hg4 hR4; rw [show (xs ++ [x]).length = xs.length + 1 from List.length_append] at hd5; have HD4 := Aside0.mk hd5; clear hd5 hd4 hR4 hB4 hg4 hat4) | (go_simp; go_at_call 25; refine hpc.mono ?_; rintro e w2 ⟨rfl, v2, hs2, hb2, ha2⟩; have hd2 := HD.out.drew.popped hs2 hb2 ha2; have r2 : w2.cell? ⟨go, 1, none⟩ = some (.slice A8 xs.length c8) := (blk_cell hd2.res 1).trans rfl; have r3 := (fun (o : Obj) => (blk_cell (blk_alloc hd2.res o) 1).trans (rfl : _ = some (Value.slice A8 xs.length c8))); have HD2 := Aside0.mk hd2; clear hd2 hs2 hb2 ha2))
          all_goals
            go_wp2
            go_roundw
            case rel => exact ⟨v2, HP.popL lt31 hl HPO.out, _, xs ++ [x], HD4.out, told_next HX.out HPO.out HDR.out, pop_less hl HPO.out HLT.out⟩
            case measure => exact pop_meas HPO.out HLA.out (HS.lenAt HD4.out.heap)
end Go.Proofs.YtffldajbnhbkkaaDoor.Q
