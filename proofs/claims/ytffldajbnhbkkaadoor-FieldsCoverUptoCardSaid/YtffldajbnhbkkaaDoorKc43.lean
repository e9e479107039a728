import Derived.Test.YtffldajbnhbkkaaDoorKc41
import Derived.Test.YtffldajbnhbkkaaDoorKc39
import Derived.Test.YtffldajbnhbkkaaDoorKc42
import Derived.Test.YtffldajbnhbkkaaDoorKc40
namespace Go.Proofs.YtffldajbnhbkkaaDoor.Q
open Go.RowKit Go.Proofs.YtffldajbnhbkkaaDoorW.PrintWords Go.Proofs.YtffldajbnhbkkaaDoorW.PrintLast Go.Proofs.YtffldajbnhbkkaaDoorW.PrintMore
set_option linter.unusedVariables false
set_option linter.unusedSimpArgs false
def setE (b : List Bool) (R : List Int) : List Bool := R.foldl (fun b e => b.set e.toNat true) b
theorem setE_len : ∀ (R : List Int) (b : List Bool), (setE b R).length = b.length
  | [], b => rfl
  | e :: R, b => by
    show (setE (b.set e.toNat true) R).length = _
    rw [setE_len R, List.length_set]
theorem setE_keep : ∀ (R : List Int) (b : List Bool) (n : Nat), b[n]? = some true → (setE b R)[n]? = some true
  | [], b, n, h => h
  | e :: R, b, n, h => by
    show (setE (b.set e.toNat true) R)[n]? = _
    refine setE_keep R _ n ?_
    rw [List.getElem?_set]
    have hn : n < b.length := (List.getElem?_eq_some_iff.1 h).1
    split
    · rename_i c
      rw [if_pos (by omega)]
    · exact h
theorem setE_mem : ∀ (R : List Int) (b : List Bool) (e : Int), e ∈ R → e.toNat < b.length → (setE b R)[e.toNat]? = some true
  | [], b, e, h, _ => by cases h
  | x :: R, b, e, h, hl => by
    show (setE (b.set x.toNat true) R)[e.toNat]? = _
    rcases List.mem_cons.1 h with rfl | h
    · exact setE_keep R _ _ (by rw [List.getElem?_set, if_pos rfl, if_pos hl])
    · exact setE_mem R _ e h (by rw [List.length_set]; exact hl)
theorem rdOf_of {b : List Bool} {e : Int} (h : b[e.toNat]? = some true) : rdOf false b e = true := by
  unfold rdOf
  rw [List.getD_eq_getElem?_getD, h]; rfl
theorem cv_num (a b : Int) (n : Nat) (h0 : 0 ≤ a) (h1 : a < b) (h2 : b ≤ (n : Int)) (hn : n < 1000000000) : wrap64 (a + (((b - a).toNat : Nat) : Int)) = b ∧ wrap64 ((n : Int) - a) = (n : Int) - a ∧ (((b - a).toNat : Nat) : Int) = b - a := by unfold wrap64; omega
/-- The leaves' loop. -/
theorem cv_l2 (T : ByteArray) (sp : List S31) (L : List S43) (hT : T.size < 1000000000) (hL : L.length ≤ 100000000) (hsp : ∀ x ∈ sp, 0 ≤ x.f0 ∧ x.f0 ≤ 17) (r : Bool) : ∀ (R : List Int) (a : Int) (i : Nat) (b : List Bool), i ≤ L.length → L.drop i = leafGo T sp (a :: R) → (a :: R).Pairwise (· < ·) → (∀ e ∈ a :: R, 0 ≤ e ∧ e ≤ T.size) → b.length = T.size + 1 → lastZ R a = T.size →
    Ev (fun k => fCover.l3 k (setE b R) 0 T sp) r → Ev (fun k => fCover.l2 k L b a (i : Int) T sp) r
  | [], a, i, b, hi, hd, hp, hin, hb, hz, H => by
    have hle : L.length ≤ i := List.drop_eq_nil_iff.1 hd
    refine H.step 1 (fun k => ?_)
    show fCover.l2 (k + 1) L b a (i : Int) T sp = _
    conv => lhs; unfold fCover.l2
    rw [if_neg (by omega), if_pos (show a = (T.size : Int) from hz)]; rfl
  | c :: R, a, i, b, hi, hd, hp, hin, hb, hz, H => by
    have hi2 : i < L.length := by
      refine Nat.lt_of_not_le (fun h => ?_)
      rw [List.drop_of_length_le h] at hd; cases hd
    have hac : a < c := List.rel_of_pairwise_cons hp (List.mem_cons_self ..)
    have ha := hin a (List.mem_cons_self ..)
    have hc := hin c (List.mem_cons_of_mem _ (List.mem_cons_self ..))
    have hd2 : L.drop i = (⟨subS T a c, fieldGo a c sp 0⟩ : S43) :: leafGo T sp (c :: R) := hd
    rw [List.drop_eq_getElem_cons hi2] at hd2
    injection hd2 with e1 e2
    have ih := cv_l2 T sp L hT hL hsp r R c (i + 1) (b.set c.toNat true) (by omega) e2 (List.Pairwise.of_cons hp) (fun e he => hin e (List.mem_cons_of_mem _ he)) (by rw [List.length_set]; exact hb) hz H
    have hsz := sub_size T a c ha.1 (Int.le_of_lt hac) hc.2
    obtain ⟨w1, w2, w3⟩ := cv_num a c T.size ha.1 hac hc.2 hT
    have hf := fieldGo_in a c sp 0 hsp (by omega)
    refine ih.step 1 (fun k => ?_)
    show fCover.l2 (k + 1) L b a (i : Int) T sp = _
    conv => lhs; unfold fCover.l2
    rw [if_pos (by omega), if_pos (by omega), rd43 L i hi2, e1, wrapS i 1000000000 (by omega) (by omega)]
    show (if ((subS T a c).size : Int) = 0 then _ else _) = _
    rw [hsz, w1, w2, w3]
    rw [if_neg (by omega), if_neg (by omega), if_pos ha.1, if_pos (by omega), if_pos hc.2]
    rw [if_pos (show (T.extract a.toNat c.toNat).toList = (subS T a c).toList from rfl), if_neg (show ¬ fieldGo a c sp 0 < 0 by omega), if_neg (show ¬ fieldGo a c sp 0 > 17 by omega), if_pos hc.1, if_pos (by omega)]
theorem cv_l4 (T : ByteArray) (sp : List S31) (b : List Bool) (hl : sp.length ≤ 5000000) (ho : Ordd sp) (hx : NoX sp) (r : Bool) (i : Nat) (hi : i < sp.length) : ∀ (d j : Nat), j + d = i →
    Ev (fun k => fCover.l3 k b ((i + 1 : Nat) : Int) T sp) r → Ev (fun k => fCover.l4 k b (i : Int) (j : Int) T sp sp[i].f0 sp[i].f1 sp[i].f2) r
  | 0, j, h, H => by
    refine H.step 1 (fun k => ?_)
    show fCover.l4 (k + 1) b (i : Int) (j : Int) T sp sp[i].f0 sp[i].f1 sp[i].f2 = _
    conv => lhs; unfold fCover.l4
    rw [if_neg (by omega), wrapS i 10000000 (by omega) (by omega)]
  | d + 1, j, h, H => by
    have hj : j < sp.length := by omega
    have h1 := no_lt (List.pairwise_iff_getElem.1 ho j i hj hi (by omega))
    have h2 : ¬ (sp[j].f1 < sp[i].f1 ∧ sp[i].f1 < sp[j].f2 ∧ sp[j].f2 < sp[i].f2) := fun h3 => by
      have := (cr1_iff _ _).2 h3
      rw [List.pairwise_iff_getElem.1 hx j i hj hi (by omega)] at this; cases this
    refine (cv_l4 T sp b hl ho hx r i hi d (j + 1) (by omega) H).step 1 (fun k => ?_)
    show fCover.l4 (k + 1) b (i : Int) (j : Int) T sp sp[i].f0 sp[i].f1 sp[i].f2 = _
    conv => lhs; unfold fCover.l4
    rw [if_pos (by omega), if_pos (by omega), if_pos (by omega), rd31 sp j hj, if_neg (by omega), wrapS j 10000000 (by omega) (by omega)]
    by_cases c1 : sp[j].f1 = sp[i].f1
    · rw [if_pos c1, if_neg (by omega)]
      by_cases c2 : sp[j].f2 > sp[i].f1
      · rw [if_pos c2]
      · rw [if_neg c2]
    · rw [if_neg c1]
      by_cases c2 : sp[j].f2 > sp[i].f1
      · rw [if_pos c2, if_neg (fun c3 => h2 ⟨by omega, c2, c3⟩)]
      · rw [if_neg c2]
theorem cv_l3 (T : ByteArray) (sp : List S31) (b : List Bool) (hT : T.size < 1000000000) (hl : sp.length ≤ 5000000) (ho : Ordd sp) (hx : NoX sp) (hb : b.length = T.size + 1) (hs : ∀ x ∈ sp, (0 ≤ x.f1 ∧ x.f2 ≤ (T.size : Int) ∧ x.f1 < x.f2) ∧ b[x.f1.toNat]? = some true ∧ b[x.f2.toNat]? = some true) : ∀ (d i : Nat), i + d = sp.length →
    Ev (fun k => fCover.l3 k b (i : Int) T sp) true
  | 0, i, h => Ev.now 1 (fun k => by
    show fCover.l3 (k + 1) b (i : Int) T sp = _
    unfold fCover.l3
    rw [if_neg (by omega)])
  | d + 1, i, h => by
    have hi : i < sp.length := by omega
    obtain ⟨⟨s1, s2, s3⟩, s4, s5⟩ := hs _ (List.getElem_mem hi)
    have ih := cv_l4 T sp b hl ho hx true i hi i 0 (by omega) (cv_l3 T sp b hT hl ho hx hb hs d (i + 1) (by omega))
    refine ih.step 2 (fun k => ?_)
    show fCover.l3 (k + 2) b (i : Int) T sp = _
    conv => lhs; unfold fCover.l3
    rw [if_pos (by omega), if_pos (by omega), rd31 sp i hi, if_neg (by omega), if_neg (by omega), if_neg (by omega), if_pos s1, if_pos (by omega), if_pos (rdOf_of s4), if_pos (by omega), if_pos (by omega), rdOf_of s5]
    conv => lhs; unfold fCover.j5
    rw [if_neg (by simp)]; rfl
/-- Behind the wraps. -/
theorem cv_tail (T : ByteArray) (sp : List S31) (hT : T.size < 1000000000) (hl : sp.length ≤ 5000000) (hc : chkB T sp = true) : ∃ R, edgesL T sp = 0 :: R ∧
    Ev (fun k => fCover.j2 k (leafGo T sp (0 :: R)) false T sp) true := by
  obtain ⟨R, hE, hlt, hin, hlast, hsp, his⟩ := edges_form hc
  obtain ⟨v, o, bd, nx⟩ := (chkB_iff T sp).1 hc
  refine ⟨R, hE, ?_⟩
  have hel := edges_le T sp
  have hgl := leafGo_len T sp (0 :: R)
  rw [hE] at hel
  have hb0 : ((List.replicate (T.size + 1) false).set (0 : Int).toNat true).length = T.size + 1 := by rw [List.length_set, List.length_replicate]
  have h00 : ((List.replicate (T.size + 1) false).set (0 : Int).toNat true)[(0 : Int).toNat]? = some true := by
    rw [List.getElem?_set, if_pos rfl, if_pos (by rw [List.length_replicate]; exact Nat.succ_pos _)]
  generalize hbe : (List.replicate (T.size + 1) false).set (0 : Int).toNat true = b at hb0 h00
  have hm : ∀ e ∈ (0 : Int) :: R, (setE b R)[e.toNat]? = some true := fun e he => by
    rcases List.mem_cons.1 he with rfl | he
    · exact setE_keep R b _ h00
    · exact setE_mem R b e he (by have := hin e (List.mem_cons_of_mem _ he); omega)
  have h3 := cv_l3 T sp (setE b R) hT hl o nx (by rw [setE_len]; exact hb0) (fun x hx => by
    obtain ⟨_, _, p1, p2, p3⟩ := span_in (bd x hx)
    have q1 := placeB_in p1
    have q2 := placeB_in p2
    exact ⟨⟨q1.1, q2.2, p3⟩, hm _ (hsp x hx).1, hm _ (hsp x hx).2⟩) sp.length 0 (by omega)
  have h2 := cv_l2 T sp (leafGo T sp (0 :: R)) hT (by omega) (fun x hx => by
    obtain ⟨p1, p2, _⟩ := span_in (bd x hx)
    omega) true R 0 0 b (Nat.zero_le _) (by rw [List.drop_zero]) hlt hin hb0 hlast h3
  have w1 : wrap64 ((T.size : Int) + 1) = ((T.size + 1 : Nat) : Int) := wrapS T.size 1000000000 (by omega) (by omega)
  have hst : ∀ (k : Nat) (b0 : Bool), b0 = false → fCover.j2 (k + 1) (leafGo T sp (0 :: R)) b0 T sp = fCover.l2 k (leafGo T sp (0 :: R)) b 0 0 T sp := fun k b0 h0 => by
    subst h0
    simp only [fCover.j2]
    rw [if_neg (show ¬ (false = true) by decide), w1, if_pos (by omega), Int.toNat_natCast, if_pos (by omega), Option.bind_some, List.length_replicate, if_pos (by omega), hbe]
  refine h2.step 1 (fun k => ?_)
  show fCover.j2 (k + 1) (leafGo T sp (0 :: R)) false T sp = _
  rw [hst k false rfl]; rfl
theorem rd34 (l : List S34) (i : Nat) (h : i < l.length) : rd_T34 l (i : Int) = l[i] := by
  unfold rd_T34
  rw [Int.toNat_natCast, List.getD_eq_getElem?_getD, List.getElem?_eq_getElem h]; rfl
theorem cv_l1 (T : ByteArray) (x7 : List Int) (ws : List S34) (hT : T.size < 1000000000) (h7 : strOfNums x7 = T) (hw : ws.length ≤ 2000000) : ∀ (d i : Nat) (sp : List S31), i + d = ws.length → chkB T sp = true → sp.length ≤ 1000000 + i →
    Ev (fun k => fCover.l1 k ws x7 (i : Int) T sp) true
  | 0, i, sp, h, hc, hl => by
    obtain ⟨R, hE, H⟩ := cv_tail T sp hT (by omega) hc
    have e1 : fields_Leaves.f T sp = some (leafGo T sp (0 :: R), 0) := by
      unfold fields_Leaves.f leavesR
      rw [if_pos ⟨hT, by omega⟩, if_pos hc, hE]
    have e2 : fields_Check.f T sp = some 0 := by
      unfold fields_Check.f
      rw [if_pos ⟨hT, by omega⟩, if_pos hc]
    refine H.step 1 (fun k => ?_)
    show fCover.l1 (k + 1) ws x7 (i : Int) T sp = _
    conv => lhs; unfold fCover.l1
    rw [if_neg (by omega), e1, Option.bind_some, if_pos rfl, h7, if_pos rfl, e2, Option.bind_some]; rfl
  | d + 1, i, sp, h, hc, hl => by
    have hi : i < ws.length := by omega
    have e1 : fields_Wrap.f T sp ws[i].f0 ws[i].f1 ws[i].f2 = some (wrapR T sp ⟨ws[i].f0, ws[i].f1, ws[i].f2⟩) := by
      unfold fields_Wrap.f
      rw [if_pos ⟨hT, by omega⟩]
    by_cases c : wrapOk T sp ⟨ws[i].f0, ws[i].f1, ws[i].f2⟩ = true
    · have ew : wrapR T sp ⟨ws[i].f0, ws[i].f1, ws[i].f2⟩ = (T, HP.putL lt31 sp ⟨ws[i].f0, ws[i].f1, ws[i].f2⟩, 0) := by unfold wrapR; rw [if_pos c]
      rw [ew] at e1
      have hpl := put_len sp ⟨ws[i].f0, ws[i].f1, ws[i].f2⟩
      refine (cv_l1 T x7 ws hT h7 hw d (i + 1) (HP.putL lt31 sp ⟨ws[i].f0, ws[i].f1, ws[i].f2⟩) (by omega) (chk_wrap c) (by omega)).step 1 (fun k => ?_)
      show fCover.l1 (k + 1) ws x7 (i : Int) T sp = _
      conv => lhs; unfold fCover.l1
      rw [if_pos (by omega), if_pos (by omega), rd34 ws i hi, e1, Option.bind_some, if_pos rfl, wrapS i 10000000 (by omega) (by omega), wrapS sp.length 10000000 (by omega) (by omega)]
      show (if ((HP.putL lt31 sp ⟨ws[i].f0, ws[i].f1, ws[i].f2⟩).length : Int) = ((sp.length + 1 : Nat) : Int) then _ else _) = _
      rw [hpl, if_pos rfl]
    · have ew : wrapR T sp ⟨ws[i].f0, ws[i].f1, ws[i].f2⟩ = (⟨#[]⟩, [], 170) := by unfold wrapR; rw [if_neg c]
      rw [ew] at e1
      refine (cv_l1 T x7 ws hT h7 hw d (i + 1) sp (by omega) hc (by omega)).step 1 (fun k => ?_)
      show fCover.l1 (k + 1) ws x7 (i : Int) T sp = _
      conv => lhs; unfold fCover.l1
      rw [if_pos (by omega), if_pos (by omega), rd34 ws i hi, e1, Option.bind_some, wrapS i 10000000 (by omega) (by omega)]
      show (if (170 : Int) = 0 then _ else _) = _
      rw [if_neg (by decide)]
theorem cv_l0 (l : List S43) (ws : List S34) (T : ByteArray) (sp : List S31) (hl : l.length ≤ 400000) (hT : (textP l).length ≤ 2000000) (r : Bool) : ∀ (d i : Nat), i + d = l.length →
    Ev (fun k => fCover.l1 k ws (bb (textP l)) 0 T sp) r → Ev (fun k => fCover.l0 k l ws (bb (textP (l.take i))) (i : Int) T sp) r
  | 0, i, h, H => by
    rw [List.take_of_length_le (by omega)]
    refine H.step 1 (fun k => ?_)
    show fCover.l0 (k + 1) l ws (bb (textP l)) (i : Int) T sp = _
    conv => lhs; unfold fCover.l0
    rw [if_neg (by omega)]
  | d + 1, i, h, H => by
    have hi : i < l.length := by omega
    have e : textP (l.take (i + 1)) = textP (l.take i) ++ l[i].f0.data.toList := by
      unfold textP
      rw [List.take_succ_eq_append_getElem hi, List.flatMap_append]
      simp
    have hle : (textP (l.take (i + 1))).length ≤ (textP l).length := by
      conv => rhs; rw [← List.take_append_drop (i + 1) l]
      unfold textP
      rw [List.flatMap_append, List.length_append]; omega
    have ih := cv_l0 l ws T sp hl hT r d (i + 1) (by omega) H
    rw [e, bb_app, bb_bytes] at ih
    rw [e, List.length_append, slenF] at hle
    refine ih.step 1 (fun k => ?_)
    show fCover.l0 (k + 1) l ws (bb (textP (l.take i))) (i : Int) T sp = _
    conv => lhs; unfold fCover.l0
    rw [if_pos (by omega), if_pos (by omega), rd43 l i hi, wrapS i 10000000 (by omega) (by omega), bb_len, if_pos (by omega)]
theorem cover_true (l : List S43) (ws : List S34) (hl : l.length ≤ 400000) (hT : (textP l).length ≤ 2000000) (hw : ws.length ≤ 2000000) : ∃ k, fCover.f k l ws = some true := by
  have hsl := build_spans_len l
  have e1 : fields_Build.f l = some (buildR l) := by unfold fields_Build.f; rw [if_pos ⟨hl, hT⟩]
  have e3 : quipulaw17_awake.f = some true := rfl
  by_cases hok : l.all okP = true
  · have eb : buildR l = (mkS (textP l), putsL [] (evs l 0 none), 0) := by rw [build_eq]; unfold refR; rw [if_pos hok]; rfl
    rw [eb] at hsl e1
    have hsz : (mkS (textP l)).size < 1000000000 := by rw [mkS_size]; omega
    have hsl2 : (putsL [] (evs l 0 none)).length ≤ 2 * l.length + 1 := hsl
    have h1 := cv_l1 (mkS (textP l)) (bb (textP l)) ws hsz (bb_back _) hw ws.length 0 _ (by omega) (chk_built l hok) (by omega)
    obtain ⟨K, hK⟩ := cv_l0 l ws _ _ hl hT true l.length 0 (by omega) h1
    refine ⟨K, ?_⟩
    unfold fCover.f
    rw [e1, Option.bind_some, e3, Option.bind_some, if_pos rfl, if_pos rfl]
    exact hK K (Nat.le_refl _)
  · have eb : buildR l = (⟨#[]⟩, [], 170) := by rw [build_eq]; unfold refR; rw [if_neg hok]
    rw [eb] at e1
    refine ⟨0, ?_⟩
    unfold fCover.f
    rw [e1, Option.bind_some, e3, Option.bind_some, if_pos rfl, if_neg (show ¬ (170 : Int) = 0 by decide), if_pos rfl]
    rw [if_pos ((nilF ⟨#[]⟩).2 rfl)]; rfl
end Go.Proofs.YtffldajbnhbkkaaDoor.Q

namespace Go.Proofs.YtffldajbnhbkkaaDoor.Q
open Go.RowKit Go.Proofs.YtffldajbnhbkkaaDoorW.PrintWords Go.Proofs.YtffldajbnhbkkaaDoorW.PrintLast Go.Proofs.YtffldajbnhbkkaaDoorW.PrintMore
set_option linter.unusedVariables false
set_option linter.unusedSimpArgs false
theorem cover_row (W : World) (hG : Gd W) (A : Option Addr) (c : Nat) (l : List S43) (A1 : Option Addr) (c1 : Nat) (ws : List S34) (hC : Kd.C k43 W A l.length l) (hc : l.length ≤ c) (hC1 : Kd.C k34 W A1 ws.length ws) (hc1 : ws.length ≤ c1) (hb : (textP l).length + 3 * l.length ≤ 1048576) (hw : 3 * ws.length ≤ 1048576) :
    Calls Tryd.prog 5 #[.slice A l.length c, .slice A1 ws.length c1] W fun e w' => e = .returned (.bool true) ∧ Below W.heap.size W w' := by
  obtain ⟨k, hk⟩ := cover_true l ws (by omega) (by omega) (by omega)
  exact fCover.calls k A c l A1 c1 ws W hG hC hc hC1 hc1 hk
end Go.Proofs.YtffldajbnhbkkaaDoor.Q
