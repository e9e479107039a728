import Derived.Test.YtffldajbnhbkkaaDoorKv17
import Derived.Deep.RegionLaw
namespace Go.Proofs.YtffldajbnhbkkaaDoor.Q
open Go.RowKit Go.Proofs.YtffldajbnhbkkaaDoorW.PrintWords Go.Proofs.YtffldajbnhbkkaaDoorW.PrintLast Go.Proofs.YtffldajbnhbkkaaDoorW.PrintMore
set_option linter.unusedVariables false
set_option linter.unusedSimpArgs false
/-- A heap's variable (block gh), what it holds, and its row: of the call's own. -/
structure HS (w : World) (base gh : Nat) (v : Value) (l : List S31) : Prop where
  var : w.heap[gh]? = some (.cells #[v] 54 (0, 0))
  row : Kd.R k31 31 w base (fun k => k ≠ gh) v l
  bas : base ≤ gh
/-- What a step of a heap leaves: all but its variable and its row. -/
structure Bes (gh : Nat) (v : Value) (w w' : World) : Prop where
  os : w'.os = w.os
  tape : w'.tape = w.tape
  output : w'.output = w.output
  size : w.heap.size ≤ w'.heap.size
  block : ∀ k, k < w.heap.size → k ≠ gh → v.ownBlock ≠ some k → w'.heap[k]? = w.heap[k]?
/-- Where the row lies behind it. -/
def At (n : Nat) (v v' : Value) : Prop := v'.ownBlock = v.ownBlock ∨ ∃ b, v'.ownBlock = some b ∧ n ≤ b
theorem Bes.refl (gh : Nat) (v : Value) (w : World) : Bes gh v w w := ⟨rfl, rfl, rfl, Nat.le_refl _, fun _ _ _ _ => rfl⟩
theorem Bes.trans {gh : Nat} {v v' : Value} {a b c : World} (h : Bes gh v a b) (at_ : At a.heap.size v v') (k : Bes gh v' b c) : Bes gh v a c :=
  ⟨k.os.trans h.os, k.tape.trans h.tape, k.output.trans h.output, Nat.le_trans h.size k.size, fun i hi h1 h2 => by
    refine (k.block i (Nat.lt_of_lt_of_le hi h.size) h1 ?_).trans (h.block i hi h1 h2)
    rcases at_ with e | ⟨q, e, hq⟩
    · rw [e]; exact h2
    · rw [e]; intro he; injection he with he; omega⟩
theorem At.refl (n : Nat) (v : Value) : At n v v := Or.inl rfl
theorem At.trans {n m : Nat} {a b c : Value} (h : At n a b) (k : At m b c) (hnm : n ≤ m) : At n a c := by
  rcases k with e | ⟨q, e, hq⟩
  · rcases h with e2 | ⟨p, e2, hp⟩
    · exact Or.inl (e.trans e2)
    · exact Or.inr ⟨p, e.trans e2, hp⟩
  · exact Or.inr ⟨q, e, Nat.le_trans hnm hq⟩
theorem Bes.below {gh : Nat} {v : Value} {a b c : World} (h : Bes gh v a b) (k : Below b.heap.size b c) : Bes gh v a c :=
  ⟨k.os.trans h.os, k.tape.trans h.tape, k.output.trans h.output, Nat.le_trans h.size k.size, fun i hi h1 h2 => (k.block i (Nat.lt_of_lt_of_le hi h.size)).trans (h.block i hi h1 h2)⟩
theorem Bes.beside {gh g : Nat} {v : Value} {a b c : World} (h : Bes gh v a b) (hv : v.ownBlock = some g) (k : Beside gh g b c) : Bes gh v a c :=
  ⟨k.1.trans h.os, k.2.1.trans h.tape, k.2.2.1.trans h.output, Nat.le_trans h.size k.2.2.2.1, fun i hi h1 h2 => (k.2.2.2.2 i (Nat.lt_of_lt_of_le hi h.size) h1 (fun e => h2 (by rw [hv, e]))).trans (h.block i hi h1 h2)⟩
theorem HV_of_HS {w : World} {base gh g cap : Nat} {l : List S31} (h : HS w base gh (.slice (some ⟨g, 0, none⟩) l.length cap) l) : HV w gh g cap l := by
  obtain ⟨hv, ⟨hok, inner, ⟨hlen, hown⟩, hr⟩, hb⟩ := h
  rcases hown with ⟨e, _⟩ | ⟨g', cap', cur, e, hg, hcell, hn, hm, hs, ht⟩
  · cases e
  · simp only [Value.slice.injEq, Option.some.injEq, Addr.mk.injEq, and_true, true_and] at e
    obtain ⟨rfl, rfl⟩ := e
    refine ⟨hv, fun e => hok g rfl e.symm, cur, hcell, hs, hn, fun i hi => ?_⟩
    have h2 := k31_openM (hr.2 i l[i] (List.getElem?_eq_getElem hi))
    have hj : ∀ j, j < 3 → cur[i * 3 + j]? = ([.int .i64 l[i].f0, .int .i64 l[i].f1, .int .i64 l[i].f2] : List Value)[j]? := by
      intro j hj
      rw [← h2, List.getElem?_take, if_pos (show j < k31.sz from hj), List.getElem?_drop, ← ht, List.getElem?_take, if_pos (show i * k31.sz + j < l.length * k31.sz from by show i * 3 + j < l.length * 3; omega)]
      rw [Array.getElem?_toList]; rfl
    exact ⟨hj 0 (by omega), hj 1 (by omega), hj 2 (by omega)⟩
theorem HS_of_HV {w : World} {base gh g cap : Nat} {l : List S31} (h : HV w gh g cap l) (hb : base ≤ gh) (hg : base ≤ g) (hm : cap ≤ maxLen) : HS w base gh (.slice (some ⟨g, 0, none⟩) l.length cap) l := by
  obtain ⟨hv, hne, cur, hcell, hs, hn, hc⟩ := h
  have hsz : (cur.toList.take (l.length * 3)).length = l.length * 3 := by
    have e : cur.toList.length = cap * 3 := by rw [Array.length_toList]; exact hs
    rw [List.length_take, e]; omega
  refine ⟨hv, ⟨fun k hk => ?_, cur.toList.take (l.length * 3), ⟨hsz, Or.inr ⟨g, cap, cur, rfl, hg, hcell, hn, hm, hs, rfl⟩⟩, hsz, fun j p hp => ?_⟩, hb⟩
  · injection hk with hk; intro e; exact hne (e.symm.trans hk.symm)
  · obtain ⟨hj, rfl⟩ := List.getElem?_eq_some_iff.1 hp
    obtain ⟨h0, h1, h2⟩ := hc j hj
    have e : ((cur.toList.take (l.length * 3)).drop (j * k31.sz)).take k31.sz = [.int .i64 l[j].f0, .int .i64 l[j].f1, .int .i64 l[j].f2] := by
      refine List.ext_getElem? (fun i => ?_)
      show (List.take 3 (List.drop (j * 3) (List.take (l.length * 3) cur.toList)))[i]? = _
      rw [List.getElem?_take]
      by_cases hi : i < 3
      · rw [if_pos hi, List.getElem?_drop, List.getElem?_take, if_pos (by omega), Array.getElem?_toList]
        match i, hi with
        | 0, _ => exact h0
        | 1, _ => exact h1
        | 2, _ => exact h2
      · rw [if_neg hi, List.getElem?_eq_none (by simp; omega)]
    rw [e]
    exact k31_mkM _ _ _ _
end Go.Proofs.YtffldajbnhbkkaaDoor.Q

namespace Go.Proofs.YtffldajbnhbkkaaDoor.Q
open Go.RowKit Go.Proofs.YtffldajbnhbkkaaDoorW.PrintWords Go.Proofs.YtffldajbnhbkkaaDoorW.PrintLast Go.Proofs.YtffldajbnhbkkaaDoorW.PrintMore
set_option linter.unusedVariables false
set_option linter.unusedSimpArgs false
theorem law_of_step {b : Bool} {X Y E : Prop} (hw : b = true) (h : if b = true then X else Y) : if b = true then X else E := by
  rw [if_pos hw] at h ⊢; exact h
theorem assert31 (W : World) (v : Value) : Sem.run Tryd.prog (Instr.typeAssert (.iface 31 v) 20 31 false) W = .ok v W := by kernel_rfl
set_option maxHeartbeats 2000000 in
set_option maxRecDepth 100000 in
theorem push_m (base gh : Nat) (v : Value) (l : List S31) (x0 x1 x2 : Int) (W : World) (H : HS W base gh v l) (hl : l.length < 1000000000) :
    Calls Tryd.prog 94 #[.pointer (some ⟨gh, 0, none⟩), .iface 31 (.agg #[.int .i64 x0, .int .i64 x1, .int .i64 x2])] W fun e w' => e = .returned (.tuple #[]) ∧ ∃ v', HS w' base gh v' (l ++ [⟨x0, x1, x2⟩]) ∧ Bes gh v W w' ∧ At W.heap.size v v' := by
  have hu54 := Tryd.underlying54
  have hu31 := Tryd.underlying31
  have hta := assert31
  have hlt : gh < W.heap.size := blk_lt H.var
  have hb : base ≤ W.heap.size := Nat.le_trans H.bas (Nat.le_of_lt hlt)
  have hc0 : W.cell? ⟨gh, 0, none⟩ = some v := (blk_cell H.var 0).trans rfl
  have hf0 : W.frozen? ⟨gh, 0, none⟩ = false := blk_frozen H.var 0
  obtain ⟨A, c, rfl⟩ := Kd.R_slice H.row
  have HH := Aside0.mk H
  clear H
  go_enter Tryd.func94, Tryd.ntmps94
  go_wp2
  go_region_law (refine law_of_step ?hw (Kd.R_append_step k31 (w0 := W) (W := W.drew) base ?hw2 (.tmp 7) (.tmp 10) 54 31 (.agg #[.int .i64 0, .int .i64 0, .int .i64 0]) 24 ?ho Tryd.underlying54 info31 rfl (by decide) (by decide) (.slice A l.length c) l ⟨x0, x1, x2⟩ [.int .i64 x0, .int .i64 x1, .int .i64 x2] (fun k => k ≠ gh) (fun _ => False) ?hs ?hx (k31_mkM _ _ _ _) (fun _ h => h.elim) ?hfr ?hO ?hB ?hb ?hl ?_); (case hw => simp [Region.wanted]); (case hw2 => simp [Region.wanted]); (case ho => rfl); (case hs => simp [Act.eval, Act.put]); (case hx => simp [Act.eval, Act.put]); (case hfr => intro q hq e; subst e; exact absurd hlt (Nat.not_lt.2 hq)); (case hO => exact Kd.R_drew HH.out.row); (case hB => exact below_drew1 (Below.refl _ _)); (case hb => exact hb); (case hl => omega); intro v1 w4 hR4 hB4 hg4 hat4; obtain ⟨A4, c4, rfl⟩ := Kd.R_slice hR4; have hd4 := (hg4.block gh hlt (Kd.R_away HH.out.row (fun _ h => h))).trans HH.out.var; have q4 := blk_cell hd4 0; simp only [List.getElem?_toArray, List.getElem?_cons_succ, List.getElem?_cons_zero] at q4; have z4 := blk_frozen hd4 0; have HD4 := Aside0.mk hd4; have HR4 := Aside0.mk hR4; have HB4 := Aside0.mk hg4; have HA4 := Aside0.mk hat4; clear hd4 hR4 hB4 hg4 hat4)
  all_goals
    go_wp2
    go_end0
    have e : (l ++ [(⟨x0, x1, x2⟩ : S31)]).length = l.length + 1 := by simp
    refine ⟨rfl, .slice A4 (l ++ [(⟨x0, x1, x2⟩ : S31)]).length c4, ⟨?_, Kd.R_far (p := ⟨gh, 0, none⟩) HR4.out (fun _ h => h) _, HH.out.bas⟩, ⟨HB4.out.os, HB4.out.tape, HB4.out.output, ?_, fun k hk h1 h2 => ?_⟩, HA4.out⟩
    · rw [e]; exact blk_put HD4.out 0 _ rfl
    · simpa [World.setCell] using HB4.out.size
    · exact (Below.heap_setCell w4 ⟨gh, 0, none⟩ _ k h1).trans (HB4.out.block k hk (fun e => h2 e.symm))
end Go.Proofs.YtffldajbnhbkkaaDoor.Q

namespace Go.Proofs.YtffldajbnhbkkaaDoor.Q
open Go.RowKit Go.Proofs.YtffldajbnhbkkaaDoorW.PrintWords Go.Proofs.YtffldajbnhbkkaaDoorW.PrintLast Go.Proofs.YtffldajbnhbkkaaDoorW.PrintMore
set_option linter.unusedVariables false
set_option linter.unusedSimpArgs false
set_option maxHeartbeats 2000000 in
set_option maxRecDepth 100000 in
theorem pop_m (gh g cap : Nat) (l : List S31) (m : Nat) (x : S31) (W : World) (H : HV W gh g cap l) (hm : m + 1 = l.length) (hx : l[m]? = some x) (hl : l.length < 4611686018427387904) :
    Calls Tryd.prog 93 #[.pointer (some ⟨gh, 0, none⟩)] W fun e w' => e = .returned (.iface 31 (.agg #[.int .i64 x.f0, .int .i64 x.f1, .int .i64 x.f2])) ∧ HV w' gh g cap (l.take m) ∧ Beside gh g W w' := by
  have hu54 := Tryd.underlying54
  have hu31 := Tryd.underlying31
  have hc0 : W.cell? ⟨gh, 0, none⟩ = some (.slice (some ⟨g, 0, none⟩) l.length cap) := (blk_cell H.1 0).trans rfl
  have hf0 : W.frozen? ⟨gh, 0, none⟩ = false := blk_frozen H.1 0
  have hc1 := fun o => (blk_cell (blk_alloc H.1 o) 0).trans (rfl : _ = some (Value.slice (some ⟨g, 0, none⟩) l.length cap))
  have hf1 := fun o => blk_frozen (blk_alloc H.1 o) 0
  have hne : gh ≠ W.heap.size := Nat.ne_of_lt (blk_lt H.1)
  have hne2 : W.heap.size ≠ gh := hne.symm
  have HH := Aside0.mk H
  obtain ⟨hml, rfl⟩ := List.getElem?_eq_some_iff.1 hx
  obtain ⟨_, _, cur, hcell, hs, hcap, hc⟩ := H
  obtain ⟨a0, a1, a2⟩ := hc m hml
  have c0 := (blk_cell hcell (m * 3)).trans a0
  have c1 := (blk_cell hcell (m * 3 + 1)).trans a1
  have c2 := (blk_cell hcell (m * 3 + 2)).trans a2
  have hw : wrap64 ((l.length : Int) - 1) = (m : Int) := by unfold wrap64; omega
  have h1 : ¬ ((m : Int) < 0) := by omega
  have h2 : (m : Int) < (l.length : Int) := by omega
  have h3 : m ≤ cap := by omega
  have HL := Aside0.mk hl
  have HM := Aside0.mk hm
  clear hl hm hx
  go_enter Tryd.func93, Tryd.ntmps93
  go_wp2
  go_ret
  have e : (l.take m).length = m := by rw [List.length_take]; omega
  have hg : g ≠ gh := fun e => HH.out.2.1 e.symm
  refine ⟨rfl, ⟨?_, HH.out.2.1, cur, blk_far (blk_alloc hcell _) hg _, hs, by omega, fun i hi => ?_⟩, rfl, rfl, rfl, ?_, fun k hk h1 h2 => ?_⟩
  · rw [e]; exact blk_put (blk_alloc HH.out.1 _) 0 _ rfl
  · rw [List.getElem_take]
    exact hc i (by omega)
  · simp [World.setCell]
  · exact (Below.heap_setCell _ ⟨gh, 0, none⟩ _ k h1).trans ((below_alloc (Below.refl W.heap.size W) _).block k hk)
end Go.Proofs.YtffldajbnhbkkaaDoor.Q

namespace Go.Proofs.YtffldajbnhbkkaaDoor.Q
open Go.RowKit Go.Proofs.YtffldajbnhbkkaaDoorW.PrintWords Go.Proofs.YtffldajbnhbkkaaDoorW.PrintLast Go.Proofs.YtffldajbnhbkkaaDoorW.PrintMore
set_option linter.unusedVariables false
set_option linter.unusedSimpArgs false
theorem len_row (g cap n : Nat) (W : World) : Calls Tryd.prog 90 #[.slice (some ⟨g, 0, none⟩) n cap] W fun e w' => e = .returned (.int .i64 n) ∧ w' = W := by
  go_enter Tryd.func90, Tryd.ntmps90
  go_wp2
  go_ret
  exact ⟨rfl, rfl⟩
set_option maxHeartbeats 2000000 in
set_option maxRecDepth 100000 in
theorem heap_push (base gh : Nat) (v : Value) (l : List S31) (x0 x1 x2 : Int) (W : World) (H : HS W base gh v l) (hl : l.length < 1000000000) :
    Calls Tryd.prog 23 #[.iface 56 (.pointer (some ⟨gh, 0, none⟩)), .iface 31 (.agg #[.int .i64 x0, .int .i64 x1, .int .i64 x2])] W fun e w' => e = .returned (.tuple #[]) ∧ ∃ v', HS w' base gh v' (HP.pushL lt31 l ⟨x0, x1, x2⟩) ∧ Bes gh v W w' ∧ At W.heap.size v v' := by
  have ePu : ∀ args w, (callFunc 94 args).run Tryd.prog w = .ok (.enter 94 args) w := enters_of Tryd.func94 (by kernel_rfl) rfl
  have eLe : ∀ args w, (callFunc 90 args).run Tryd.prog w = .ok (.enter 90 args) w := enters_of Tryd.func90 (by kernel_rfl) rfl
  have mP := find_Push
  have hp := push_m base gh v l x0 x1 x2 W H hl
  have hw2 : wrap64 (l.length : Int) = (l.length : Int) := by unfold wrap64; omega
  have HL := Aside0.mk hl
  clear hl
  go_enter Tryd.func23, Tryd.ntmps23
  go_wp2_with fail
  go_at_call 94
  refine hp.mono ?_
  rintro e w2 ⟨rfl, v2, hv2, hb2, ha2⟩
  have e2 : (l ++ [(⟨x0, x1, x2⟩ : S31)]).length = l.length + 1 := (by simp)
  obtain ⟨g, c, rfl, hbg, _⟩ := Kd.R_form hv2.row (by rw [e2]; omega)
  have mL := find_Len gh w2 (.slice (some ⟨g, 0, none⟩) (l ++ [(⟨x0, x1, x2⟩ : S31)]).length c) ((blk_cell hv2.var 0).trans rfl)
  rw [e2] at mL
  have HV2 := Aside0.mk hv2; have HB2 := Aside0.mk hb2; have HA2 := Aside0.mk ha2; have HG := Aside0.mk hbg; have E2 := Aside0.mk e2; clear hv2 hb2 ha2 hbg e2
  go_wp2_with fail
  go_at_call 90
  refine (len_row g c (l.length + 1) w2).mono ?_
  rintro e w3 ⟨rfl, rfl⟩
  go_wp2_with fail
  go_at_call 42
  have hu := up_walk gh g c l.length (l ++ [⟨x0, x1, x2⟩]) l.length w3 (Nat.le_refl _) (by rw [E2.out]; exact Nat.lt_succ_self _) (by rw [E2.out]; have := HL.out; omega) (HV_of_HS HV2.out)
  refine hu.mono ?_
  rintro e w4 ⟨rfl, hv4, hb4⟩
  have hcap : c ≤ maxLen := by
    obtain ⟨_, inner, ⟨_, ho⟩, _⟩ := HV2.out.row
    rcases ho with ⟨e, _⟩ | ⟨_, _, _, e, _, _, _, hm, _⟩
    · cases e
    · injection e with _ _ e; rw [e]; exact hm
  have HV4 := Aside0.mk (HS_of_HV hv4 HV2.out.bas HG.out hcap)
  have HB4 := Aside0.mk (Bes.trans HB2.out HA2.out (Bes.beside (Bes.refl gh _ _) rfl hb4))
  clear hv4 hb4 hu
  go_wp2
  go_end0
  exact ⟨rfl, _, HV4.out, HB4.out, HA2.out⟩
end Go.Proofs.YtffldajbnhbkkaaDoor.Q

namespace Go.Proofs.YtffldajbnhbkkaaDoor.Q
open Go.RowKit Go.Proofs.YtffldajbnhbkkaaDoorW.PrintWords Go.Proofs.YtffldajbnhbkkaaDoorW.PrintLast Go.Proofs.YtffldajbnhbkkaaDoorW.PrintMore
set_option linter.unusedVariables false
set_option linter.unusedSimpArgs false
set_option maxHeartbeats 2000000 in
set_option maxRecDepth 100000 in
theorem swap_self (g c size : Nat) (W : World) (x0 x1 x2 : Int) (i : Nat) (hi : i < size) (hsz : size < 4611686018427387904)
    (a0 : W.cell? ⟨g, i * 3, none⟩ = some (.int .i64 x0)) (a1 : W.cell? ⟨g, i * 3 + 1, none⟩ = some (.int .i64 x1)) (a2 : W.cell? ⟨g, i * 3 + 2, none⟩ = some (.int .i64 x2))
    (f0 : W.frozen? ⟨g, i * 3, none⟩ = false) (f1 : W.frozen? ⟨g, i * 3 + 1, none⟩ = false) (f2 : W.frozen? ⟨g, i * 3 + 2, none⟩ = false) :
    Calls Tryd.prog 92 #[.slice (some ⟨g, 0, none⟩) size c, .int .i64 i, .int .i64 i] W fun e w' => e = .returned (.tuple #[]) ∧ ∃ q, w' = ((((((W.setCell ⟨g, i * 3, none⟩ (.int .i64 x0)).setCell ⟨g, i * 3 + 1, none⟩ (.int .i64 x1)).setCell ⟨g, i * 3 + 2, none⟩ (.int .i64 x2)).setCell ⟨g, i * 3, none⟩ (.int .i64 x0)).setCell ⟨g, i * 3 + 1, none⟩ (.int .i64 x1)).setCell ⟨g, i * 3 + 2, none⟩ (.int .i64 x2)).drewN q := by
  have hu54 := Tryd.underlying54
  have hu31 := Tryd.underlying31
  go_enter Tryd.func92, Tryd.ntmps92
  go_wp2
  go_region
  all_goals (try go_wp2)
  all_goals go_end0
  all_goals exact ⟨rfl, 1, rfl⟩
theorem set_id {cur : Array Value} {i : Nat} {v : Value} (h : cur[i]? = some v) : cur.setIfInBounds i v = cur := by
  refine Array.ext_getElem? (fun j => ?_)
  rw [Array.getElem?_setIfInBounds]
  by_cases e : i = j
  · subst e
    rw [if_pos rfl, if_pos (Array.getElem?_eq_some_iff.1 h).1, h]
  · rw [if_neg e]
theorem swapL_self (l : List S31) (i : Nat) (hi hj : i < l.length) : HP.swapL l i i hi hj = l := by
  unfold HP.swapL
  rw [List.set_set]
  exact List.set_getElem_self hi
theorem swap_any (g cap : Nat) (W : World) (l : List S31) (H : HB W g cap l) (i j : Nat) (hi : i < l.length) (hj : j < l.length) (hsz : l.length < 4611686018427387904) :
    Calls Tryd.prog 92 #[.slice (some ⟨g, 0, none⟩) l.length cap, .int .i64 i, .int .i64 j] W fun e w' => e = .returned (.tuple #[]) ∧ HB w' g cap (HP.swapL l i j hi hj) ∧ Chg g W w' := by
  by_cases e : i = j
  · subst e
    obtain ⟨cur, hb, hs, hc, hl⟩ := H
    obtain ⟨a0, a1, a2⟩ := hl i hi
    have cell := fun k => blk_cell hb k
    have fr := fun k => blk_frozen hb k
    refine (swap_self g cap l.length W l[i].f0 l[i].f1 l[i].f2 i hi hsz ((cell _).trans a0) ((cell _).trans a1) ((cell _).trans a2) (fr _) (fr _) (fr _)).mono ?_
    rintro e w' ⟨he, q, rfl⟩
    have h6 := blk_drewN (blk_set (blk_set (blk_set (blk_set (blk_set (blk_set hb (i * 3) (.int .i64 l[i].f0)) (i * 3 + 1) (.int .i64 l[i].f1)) (i * 3 + 2) (.int .i64 l[i].f2)) (i * 3) (.int .i64 l[i].f0)) (i * 3 + 1) (.int .i64 l[i].f1)) (i * 3 + 2) (.int .i64 l[i].f2)) q
    simp only [set_id a0, set_id a1, set_id a2] at h6
    refine ⟨he, ⟨cur, h6, hs, ?_, ?_⟩, ?_⟩
    · rw [swapL_self]; exact hc
    · rw [swapL_self]; exact hl
    · exact ((((((Chg.refl g W).set _ _).set _ _).set _ _).set _ _).set _ _).set _ _ |>.drewN q
  · exact swap_row g cap W l H i j hi hj e hsz
set_option maxHeartbeats 2000000 in
set_option maxRecDepth 100000 in
theorem heap_pop (base gh : Nat) (v : Value) (l : List S31) (W : World) (H : HS W base gh v l) (h0 : 0 < l.length) (hl : l.length < 1000000000) :
    Calls Tryd.prog 25 #[.iface 56 (.pointer (some ⟨gh, 0, none⟩))] W fun e w' => e = .returned (.iface 31 (.agg #[.int .i64 l[0].f0, .int .i64 l[0].f1, .int .i64 l[0].f2])) ∧ ∃ v', HS w' base gh v' (HP.popL lt31 l h0) ∧ Bes gh v W w' ∧ At W.heap.size v v' := by
  have ePo : ∀ args w, (callFunc 93 args).run Tryd.prog w = .ok (.enter 93 args) w := enters_of Tryd.func93 (by kernel_rfl) rfl
  have eLe : ∀ args w, (callFunc 90 args).run Tryd.prog w = .ok (.enter 90 args) w := enters_of Tryd.func90 (by kernel_rfl) rfl
  have eSw : ∀ args w, (callFunc 92 args).run Tryd.prog w = .ok (.enter 92 args) w := enters_of Tryd.func92 (by kernel_rfl) rfl
  have mP := find_Pop
  obtain ⟨g, cap, rfl, hbg, _⟩ := Kd.R_form H.row h0
  have hcap : cap ≤ maxLen := by
    obtain ⟨_, inner, ⟨_, ho⟩, _⟩ := H.row
    rcases ho with ⟨e, _⟩ | ⟨_, _, _, e, _, _, _, hm, _⟩
    · cases e
    · injection e with _ _ e; rw [e]; exact hm
  have mL := find_Len gh W (.slice (some ⟨g, 0, none⟩) l.length cap) ((blk_cell H.var 0).trans rfl)
  have mS := find_Swap gh W (.slice (some ⟨g, 0, none⟩) l.length cap) ((blk_cell H.var 0).trans rfl)
  have hv := HV_of_HS H
  obtain ⟨m, hm⟩ : ∃ m, l.length - 1 = m := ⟨_, rfl⟩
  have hml : m < l.length := by omega
  have hw : wrap64 ((l.length : Int) - 1) = (m : Int) := by unfold wrap64; omega
  have hs := swap_any g cap W l hv.2.2 0 m h0 hml (by omega)
  have HL := Aside0.mk hl
  have HM := Aside0.mk hm
  have HH := Aside0.mk H
  have HG := Aside0.mk hbg
  have HC := Aside0.mk hcap
  have HVV := Aside0.mk hv
  clear hl hm hbg hcap H hv
  go_enter Tryd.func25, Tryd.ntmps25
  go_wp2_with fail
  go_at_call 90
  refine (len_row g cap l.length W).mono ?_
  rintro e w3 ⟨rfl, rfl⟩
  go_wp2_with fail
  go_at_call 92
  refine hs.mono ?_
  rintro e w2 ⟨rfl, hb2, hc2⟩
  have hv2 := HV.chg HVV.out hc2 hb2 (HP.swap_len ..)
  have hd := down_walk gh g cap m (HP.swapL l 0 m h0 hml) l.length w2 (by omega) (by rw [HP.swap_len]; omega) (by rw [HP.swap_len]; have := HL.out; omega) hv2
  have HB2 := Aside0.mk ((Bes.refl gh (.slice (some ⟨g, 0, none⟩) l.length cap) w3).beside rfl ((Beside.refl gh g w3).chg hc2))
  clear hb2 hc2 hv2
  go_wp2_with fail
  go_at_call 44
  refine hd.mono ?_
  rintro e w4 ⟨⟨b, rfl⟩, hv4, hb4⟩
  have hlen : (HP.downL lt31 m l.length (HP.swapL l 0 m h0 hml) 0).length = l.length := by rw [HP.down_len, HP.swap_len]
  have hlast : (HP.downL lt31 m l.length (HP.swapL l 0 m h0 hml) 0)[m]? = some l[0] := by
    have h := HM.out
    subst h
    rw [List.getElem?_eq_getElem (by rw [hlen]; omega)]
    congr 1
    exact HP.pop_last lt31 l h0 (by rw [hlen]; omega)
  have hp := pop_m gh g cap _ m l[0] w4 hv4 (by rw [hlen]; have := HM.out; omega) hlast (by rw [hlen]; have := HL.out; omega)
  have HB4 := Aside0.mk (HB2.out.beside rfl hb4)
  clear hv4 hb4 hd
  go_wp2_with fail
  go_at_call 93
  refine hp.mono ?_
  rintro e w5 ⟨rfl, hv5, hb5⟩
  have HB5 := Aside0.mk (HB4.out.beside rfl hb5)
  have HV5 := Aside0.mk (HS_of_HV hv5 HH.out.bas HG.out HC.out)
  clear hv5 hb5 hp
  go_wp2
  go_ret
  refine ⟨rfl, .slice (some ⟨g, 0, none⟩) (HP.popL lt31 l h0).length cap, ?_, HB5.out, Or.inl rfl⟩
  have h := HM.out
  subst h
  exact HV5.out
end Go.Proofs.YtffldajbnhbkkaaDoor.Q
