import Derived.Test.YtffldajbnhbkkaaDoorKv25
import Derived.BigQuiet
namespace Go.Proofs.YtffldajbnhbkkaaDoor.Q
open Go.RowKit Go.Proofs.YtffldajbnhbkkaaDoorW.PrintWords Go.Proofs.YtffldajbnhbkkaaDoorW.PrintLast Go.Proofs.YtffldajbnhbkkaaDoorW.PrintMore
set_option linter.unusedVariables false
set_option linter.unusedSimpArgs false
attribute [local irreducible] Go.wpStill
def ChkPost (s : ByteArray) (l : List S31) (W : World) (e : Ending) (w' : World) : Prop := e = .returned (.int .i64 (if chkB s l = true then 0 else 170)) ∧ Below W.heap.size W w'
theorem popE_go {y : S31} {ys : List S31} {f : Int} (h : y.f2 ≤ f) : popE (y :: ys) f = popE ys f := by
  conv => lhs; unfold popE
  rw [if_pos h]
def sliceLen : Value → Nat
  | .slice _ n _ => n
  | _ => 0
theorem chk_bad {s : ByteArray} {l : List S31} {W w' : World} (h : chkB s l = false) (hb : Below W.heap.size W w') : ChkPost s l W (.returned (.int .i64 170)) w' := ⟨by rw [h]; rfl, hb⟩
theorem chk_ok {s : ByteArray} {l : List S31} {W w' : World} (h : chkB s l = true) (hb : Below W.heap.size W w') : ChkPost s l W (.returned (.int .i64 0)) w' := ⟨by rw [h]; rfl, hb⟩
theorem cs_start (W : World) (s : ByteArray) (A : Option Addr) (n c : Nat) : CS W (W.alloc (Obj.cells #[Value.string s, Value.slice A n c] 25)) s A n c (.slice none 0 0) [] :=
  ⟨below_alloc (Below.refl _ _) _, blk_new W _, Kd.R_nil _ _ _ _ _⟩
theorem wrapIn {i n : Nat} (h : i < n) (h2 : n < 1000000000) : wrap64 ((i : Int) + 1) = ((i + 1 : Nat) : Int) := by unfold wrap64; omega
set_option maxHeartbeats 40000000 in
set_option maxRecDepth 100000 in
theorem check_walk (s : ByteArray) (A : Option Addr) (c : Nat) (l : List S31) (W : World) (hG : Gd W) (hs : s.size ≤ 9223372036854775807) (hr : Kd.C k31 W A l.length l) (hc : l.length ≤ c) (hl : l.length < 1000000000) :
    Calls Tryd.prog 15 #[.agg #[.string s, .slice A l.length c]] W (ChkPost s l W) := by
  have hu25 := Tryd.underlying25
  have hu31 := Tryd.underlying31
  have hcs := cs_start W s A l.length c
  have VC := Aside0.mk (fun (w2 : World) (hW : Below W.heap.size W w2) => utf8_ValidString.calls s _ w2 (Gd.below hG hW) (valid_f s hs))
  have SC := Aside0.mk (fun (w2 : World) (hW : Below W.heap.size W w2) => sorted_walk A c l w2 (Kd.C_below hr hW) hc hl)
  have HR := Aside0.mk hr
  have HL := Aside0.mk hl
  clear hG hs hr hc hl
  have b0 : (W.alloc (Obj.cells #[Value.string s, Value.slice A l.length c] 25)).cell? ⟨W.heap.size, 0, none⟩ = some (.string s) := (blk_cell hcs.box 0).trans rfl
  have b1 : (W.alloc (Obj.cells #[Value.string s, Value.slice A l.length c] 25)).cell? ⟨W.heap.size, 1, none⟩ = some (.slice A l.length c) := (blk_cell hcs.box 1).trans rfl
  have HCS := Aside0.mk hcs
  clear hcs
  cases hv : Lib.validD s.data.toList with
  | false =>
    have HE : Aside0 (chkB s l = false) := ⟨by unfold chkB; rw [hv]; rfl⟩
    rw [hv] at VC
    clear hv
    go_enter Tryd.func15, Tryd.ntmps15
    go_wp2_with (go_at_call 24; refine (VC.out _ HCS.out.below).mono ?_; rintro e w2 ⟨rfl, hb⟩; have HB := Aside0.mk (below_step HCS.out.below hb); clear hb)
    go_ret
    exact chk_bad HE.out HB.out
  | true =>
    rw [hv] at VC
    cases hso : sortB l with
    | false =>
      have HE : Aside0 (chkB s l = false) := ⟨by unfold chkB; rw [hv, hso]; rfl⟩
      rw [hso] at SC
      clear hv hso
      go_enter Tryd.func15, Tryd.ntmps15
      go_wp2_with (first
        | (go_at_call 24; refine (VC.out _ HCS.out.below).mono ?_; rintro e w2 ⟨rfl, hb⟩; have hcs2 := HCS.out.next hb; have b0 : w2.cell? ⟨W.heap.size, 0, none⟩ = some (.string s) := (blk_cell hcs2.box 0).trans rfl; have b1 : w2.cell? ⟨W.heap.size, 1, none⟩ = some (.slice A l.length c) := (blk_cell hcs2.box 1).trans rfl; have HCS2 := Aside0.mk hcs2; clear hb hcs2)
        | (go_at_call 37; refine (SC.out _ HCS2.out.below).mono ?_; rintro e w3 ⟨rfl, hb⟩; have HB := Aside0.mk (below_step HCS2.out.below hb); clear hb))
      go_ret
      exact chk_bad HE.out HB.out
    | true =>
      have HE : Aside0 (chkB s l = chkGo s l []) := ⟨by unfold chkB; rw [hv, hso]; rfl⟩
      rw [hso] at SC
      clear hv hso
      go_enter Tryd.func15, Tryd.ntmps15
      go_upto_region 5 with (first
        | (go_at_call 24; refine (VC.out _ HCS.out.below).mono ?_; rintro e w2 ⟨rfl, hb⟩; have hcs2 := HCS.out.next hb; have b0 : w2.cell? ⟨W.heap.size, 0, none⟩ = some (.string s) := (blk_cell hcs2.box 0).trans rfl; have b1 : w2.cell? ⟨W.heap.size, 1, none⟩ = some (.slice A l.length c) := (blk_cell hcs2.box 1).trans rfl; have HCS2 := Aside0.mk hcs2; clear hb hcs2)
        | (go_at_call 37; refine (SC.out _ HCS2.out.below).mono ?_; rintro e w3 ⟨rfl, hb⟩; have hcs3 := HCS2.out.next hb; have b0 : w3.cell? ⟨W.heap.size, 0, none⟩ = some (.string s) := (blk_cell hcs3.box 0).trans rfl; have b1 : w3.cell? ⟨W.heap.size, 1, none⟩ = some (.slice A l.length c) := (blk_cell hcs3.box 1).trans rfl; have HCS3 := Aside0.mk hcs3; clear hb hcs3))
      go_loopw [3, 19] (fun v3 v19 wr => ∃ (i : Nat) (rs : List S31), v19 = .int .i64 i ∧ i ≤ l.length ∧ rs.length ≤ i ∧ CS W wr s A l.length c v3 rs ∧ chkGo s (l.drop i) rs = chkGo s l []) (fun _ v19 _ => l.length - (Lib.intOf v19).toNat)
      case atStart => exact ⟨0, [], rfl, Nat.zero_le _, Nat.le_refl _, HCS3.out, rfl⟩
      case round =>
        obtain ⟨i, rs, rfl, hi, hrl, hcs, hgo⟩ := hrel
        by_cases hii : i < l.length
        · have hlt : (i : Int) < (l.length : Int) := Int.ofNat_lt.2 hii
          obtain ⟨ad, ea, c0, c1, c2⟩ := at_T31 HR.out (i : Int) (Int.natCast_nonneg i) hlt
          rw [rd31 l i hii, Int.toNat_natCast] at c0 c1 c2
          subst ea
          obtain ⟨x, hx⟩ : ∃ x, x = l[i] := ⟨_, rfl⟩
          rw [← hx] at c0 c1 c2
          replace c0 := (hcs.below.cell (World.block_lt_of_cell? W _ c0)).trans c0
          replace c1 := (hcs.below.cell (World.block_lt_of_cell? W _ c1)).trans c1
          replace c2 := (hcs.below.cell (World.block_lt_of_cell? W _ c2)).trans c2
          have hgo2 : chkGo s (l.drop i) rs = if spanBad s x = true then false else if topBad (popE rs x.f1) x.f2 = true then false else chkGo s (l.drop (i + 1)) (x :: popE rs x.f1) := by
            rw [List.drop_eq_getElem_cons hii, ← hx]; rfl
          rw [hgo2] at hgo
          have HWI := Aside0.mk (wrapIn hii HL.out)
          have HCS := Aside0.mk hcs
          have HGO := Aside0.mk hgo
          have HII := Aside0.mk hii
          have HRL := Aside0.mk hrl
          obtain ⟨B0, d0, eB⟩ := Kd.R_slice hcs.row
          rw [List.length_reverse] at eB
          subst eB
          have HLS := Aside0.mk (stretch_walk s x.f1 x.f2)
          clear hcs hgo hgo2 hii hi hx hrl
          go_upto_region 7 with (fail)
          have hc2 := HCS.out.alloc (Obj.cells #[Value.int .i64 x.f0, Value.int .i64 x.f1, Value.int .i64 x.f2] 31)
          have hx2 := blk_new wr (Obj.cells #[Value.int .i64 x.f0, Value.int .i64 x.f1, Value.int .i64 x.f2] 31)
          generalize wr.alloc (Obj.cells #[Value.int .i64 x.f0, Value.int .i64 x.f1, Value.int .i64 x.f2] 31) = w2 at hc2 hx2 ⊢
          generalize wr.heap.size = gx at hx2 ⊢
          have k0 : w2.cell? ⟨gx, 0, none⟩ = some (.int .i64 x.f0) := (blk_cell hx2 0).trans rfl
          have k1 : w2.cell? ⟨gx, 1, none⟩ = some (.int .i64 x.f1) := (blk_cell hx2 1).trans rfl
          have k2 : w2.cell? ⟨gx, 2, none⟩ = some (.int .i64 x.f2) := (blk_cell hx2 2).trans rfl
          have b0 : w2.cell? ⟨W.heap.size, 0, none⟩ = some (.string s) := (blk_cell hc2.box 0).trans rfl
          have HC2 := Aside0.mk hc2
          have HX2 := Aside0.mk hx2
          clear hc2 hx2 c0 c1 c2
          by_cases n0 : x.f0 < 1
          · have HBAD : Aside0 (chkB s l = false) := ⟨by
              rw [HE.out, ← HGO.out, if_pos (by unfold spanBad; rw [decide_eq_true n0]; rfl)]⟩
            go_wp2
            go_ret
            exact chk_bad HBAD.out HC2.out.below
          · by_cases n1 : 18 ≤ x.f0
            · have HBAD : Aside0 (chkB s l = false) := ⟨by
                rw [HE.out, ← HGO.out, if_pos (by unfold spanBad; rw [decide_eq_true n1, decide_eq_false n0]; rfl)]⟩
              go_wp2
              go_ret
              exact chk_bad HBAD.out HC2.out.below
            · cases hst : stretchB s x.f1 x.f2 with
              | false =>
                have HBAD : Aside0 (chkB s l = false) := ⟨by
                  rw [HE.out, ← HGO.out, if_pos (by unfold spanBad; rw [hst, decide_eq_false n1, decide_eq_false n0]; rfl)]⟩
                rw [hst] at HLS
                go_wp2_with (go_at_call 27; refine (HLS.out w2).mono ?_; rintro e w3 ⟨rfl, hb⟩; have HC3 := Aside0.mk (HC2.out.next hb); clear hb)
                go_ret
                exact chk_bad HBAD.out HC3.out.below
              | true =>
                have HG2 : Aside0 ((if topBad (popE rs x.f1) x.f2 = true then false else chkGo s (l.drop (i + 1)) (x :: popE rs x.f1)) = chkGo s l []) := ⟨by
                  rw [← HGO.out, if_neg (show ¬ spanBad s x = true by unfold spanBad; rw [hst, decide_eq_false n1, decide_eq_false n0]; decide)]⟩
                rw [hst] at HLS
                clear HGO
                go_upto_region 9 with (go_at_call 27; refine (HLS.out w2).mono ?_; rintro e w3 ⟨rfl, hb⟩; have hx3 := blk_below HX2.out hb; have HC3 := Aside0.mk (HC2.out.next hb); have HX3 := Aside0.mk hx3; clear hb hx3)
                go_loopw [3] (fun v3 wq => ∃ (rs' : List S31), CS W wq s (some ad) l.length c v3 rs' ∧ wq.heap[gx]? = some (.cells #[.int .i64 x.f0, .int .i64 x.f1, .int .i64 x.f2] 31 (0, 0)) ∧ popE rs' x.f1 = popE rs x.f1 ∧ rs'.length ≤ i) (fun v3 _ => sliceLen v3)
                case atStart => exact ⟨rs, HC3.out, HX3.out, rfl, HRL.out⟩
                case round =>
                  obtain ⟨rs', hcq, hxq, hpe, hlq⟩ := hrel
                  have k0 : wr.cell? ⟨gx, 0, none⟩ = some (.int .i64 x.f0) := (blk_cell hxq 0).trans rfl
                  have k1 : wr.cell? ⟨gx, 1, none⟩ = some (.int .i64 x.f1) := (blk_cell hxq 1).trans rfl
                  have k2 : wr.cell? ⟨gx, 2, none⟩ = some (.int .i64 x.f2) := (blk_cell hxq 2).trans rfl
                  have HPE := Aside0.mk hpe
                  have HLQ := Aside0.mk hlq
                  have HXQ := Aside0.mk hxq
                  have LNB : Aside0 ((rs'.reverse.length + 1) * 24 ≤ 140737488355328) := ⟨by rw [List.length_reverse]; have := HL.out; have := HII.out; omega⟩
                  clear hpe hlq hxq
                  cases rs' with
                  | nil =>
                    obtain ⟨B, c2, eB⟩ := Kd.R_slice hcq.row
                    replace eB : _ = Value.slice B 0 c2 := eB
                    subst eB
                    have HQ := Aside0.mk hcq
                    clear hcq
                    go_wp2_with fail
                    go_quiet (fail)
                    go_wp2_with fail
                    go_quiet (fail)
                    go_wp2_with (at_builtin; refine Kd.R_append k31 (w0 := W) W.heap.size rfl (.tmp 76) (.tmp 78) 23 31 (.agg #[(.int .i64 0), (.int .i64 0), (.int .i64 0)]) 24 rfl Tryd.underlying23 info31 rfl (by decide) (by omega) (.slice B 0 c2) ([] : List S31).reverse x [.int .i64 x.f0, .int .i64 x.f1, .int .i64 x.f2] (fun _ => True) (fun _ => False) rfl rfl ?aP (fun _ hk => hk.elim) (fun _ _ => trivial) ?aO ?aB ?aS ?aL ?_; (case aP => exact k31_mkM _ _ _ x); (case aB => exact (HQ.out.drewN _).below); (case aO => exact (HQ.out.drewN _).row); (case aS => exact (HQ.out.drewN _).below.size); (case aL => exact LNB.out); intro v5 w5 ho hb hg hat; have HC5 := Aside0.mk ((HQ.out.drewN _).pushed hb hg ho); clear ho hb hg hat)
                    go_roundw
                    case rel => exact ⟨i + 1, x :: ([] : List S31), by rw [HWI.out], HII.out, (Nat.succ_le_succ (Nat.zero_le i)), HC5.out, by have h := HG2.out; rw [← HPE.out] at h; exact h⟩
                    case measure => rw [HWI.out]; exact Nat.sub_lt_sub_left HII.out (Nat.lt_succ_self i)
                  | cons y ys =>
                    obtain ⟨B, c2, eB⟩ := Kd.R_slice hcq.row
                    rw [List.length_reverse, List.length_cons] at eB
                    obtain ⟨k, hk⟩ : ∃ k, ys.length + 1 = k := ⟨_, rfl⟩
                    obtain ⟨m, hm⟩ : ∃ m, ys.length = m := ⟨_, rfl⟩
                    rw [hk] at eB
                    subst eB
                    obtain ⟨g, eg, t0, t1, t2⟩ := CS.top (hk ▸ hcq : CS W wr s (some ad) l.length c (.slice B (ys.length + 1) c2) (y :: ys)) rfl
                    subst eg
                    rw [hm] at t0 t1 t2
                    have hkb : k < 1000000000 := by have := HLQ.out; rw [List.length_cons] at this; have := HL.out; have := HII.out; omega
                    have e1 : wrap64 ((k : Int) - 1) = (m : Int) := by rw [← hk, hm]; exact so_nums m (by omega)
                    have e2 : IntKind.i64.wrap ((k : Int) - 1) = (m : Int) := by rw [← hk, hm]; exact so_num2 m (by omega)
                    have q0 : (0 : Int) < (k : Int) := by omega
                    have q0n : 0 < k := by omega
                    have q1 : (m : Int) < (k : Int) := by omega
                    have q2 : (0 : Int) ≤ (m : Int) := Int.natCast_nonneg m
                    have q3 : m ≤ c2 := by
                      obtain ⟨A', c', e', hle, _⟩ := Kd.R_reads hcq.row
                      injection e' with _ e5 e6
                      rw [e6]; rw [List.length_reverse, List.length_cons] at hle; omega
                    have HQ := Aside0.mk hcq
                    have HK := Aside0.mk hk
                    have HM := Aside0.mk hm
                    clear hcq hkb hk hm
                    by_cases hp : y.f2 ≤ x.f1
                    · go_wp2_with fail
                      go_quiet (fail)
                      go_wp2
                      go_roundw
                      case rel =>
                        have h1 := HPE.out
                        have h2 := HLQ.out
                        have hm := HM.out
                        subst hm
                        have hk := HK.out
                        subst hk
                        exact ⟨ys, (HQ.out.drewN _).pop rfl, HXQ.out, (popE_go hp).symm.trans h1, Nat.le_of_succ_le h2⟩
                      case measure => have hk := HK.out; have hm := HM.out; show m < k; omega
                    · have hpE : popE (y :: ys) x.f1 = y :: ys := by unfold popE; rw [if_neg hp]
                      have HPP := Aside0.mk (hpE.symm.trans HPE.out)
                      clear hpE
                      by_cases hq : y.f2 < x.f2
                      · have HBAD : Aside0 (chkB s l = false) := ⟨by
                          rw [HE.out, ← HG2.out, ← HPP.out, if_pos (show topBad (y :: ys) x.f2 = true from decide_eq_true hq)]⟩
                        go_wp2_with fail
                        go_quiet (fail)
                        go_wp2_with fail
                        go_quiet (fail)
                        go_wp2
                        go_ret
                        exact chk_bad HBAD.out ((HQ.out.drewN _).drewN _).below
                      · have hnb : ¬ topBad (y :: ys) x.f2 = true := by show ¬ decide (y.f2 < x.f2) = true; rw [decide_eq_false hq]; decide
                        have HNB := Aside0.mk hnb
                        clear hnb
                        go_wp2_with fail
                        go_quiet (fail)
                        go_wp2_with fail
                        go_quiet (fail)
                        go_wp2_with (at_builtin; refine Kd.R_append k31 (w0 := W) W.heap.size rfl (.tmp 76) (.tmp 78) 23 31 (.agg #[(.int .i64 0), (.int .i64 0), (.int .i64 0)]) 24 rfl Tryd.underlying23 info31 rfl (by decide) (by omega) (.slice (some ⟨g, 0, none⟩) k c2) (y :: ys).reverse x [.int .i64 x.f0, .int .i64 x.f1, .int .i64 x.f2] (fun _ => True) (fun _ => False) rfl rfl ?aP (fun _ hk => hk.elim) (fun _ _ => trivial) ?aO ?aB ?aS ?aL ?_; (case aP => exact k31_mkM _ _ _ x); (case aB => exact (HQ.out.drewN _).below); (case aO => exact (HQ.out.drewN _).row); (case aS => exact (HQ.out.drewN _).below.size); (case aL => exact LNB.out); intro v5 w5 ho hb hg hat; have HC5 := Aside0.mk ((HQ.out.drewN _).pushed hb hg ho); clear ho hb hg hat)
                        go_roundw
                        case rel => exact ⟨i + 1, x :: (y :: ys), by rw [HWI.out], HII.out, (Nat.succ_le_succ HLQ.out), HC5.out, by have h := HG2.out; rw [← HPP.out, if_neg HNB.out] at h; exact h⟩
                        case measure => rw [HWI.out]; exact Nat.sub_lt_sub_left HII.out (Nat.lt_succ_self i)
        · have HBAD : Aside0 (chkB s l = true) := ⟨by
            rw [HE.out, ← hgo, List.drop_of_length_le (by omega)]; rfl⟩
          have hlt : ¬ ((i : Int) < (l.length : Int)) := fun h => hii (Int.ofNat_lt.1 h)
          have HCS := Aside0.mk hcs
          clear hcs hgo hii hi hrl
          go_wp2
          go_ret
          exact chk_ok HBAD.out HCS.out.below
end Go.Proofs.YtffldajbnhbkkaaDoor.Q
