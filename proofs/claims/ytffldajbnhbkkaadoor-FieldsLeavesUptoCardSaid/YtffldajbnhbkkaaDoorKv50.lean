import Derived.Test.YtffldajbnhbkkaaDoorKv49
import Derived.Test.YtffldajbnhbkkaaDoorKv13
import Derived.Test.YtffldajbnhbkkaaDoorKv39
import Derived.Test.YtffldajbnhbkkaaDoorKv47
import Derived.Test.YtffldajbnhbkkaaDoorKv37
import Derived.Sort.CutIn
import Derived.Test.YtffldajbnhbkkaaDoorKv6
import Derived.Test.YtffldajbnhbkkaaDoorKv38
namespace Go.Proofs.YtffldajbnhbkkaaDoor.Q
open Go.RowKit Go.Proofs.YtffldajbnhbkkaaDoorW.PrintWords Go.Proofs.YtffldajbnhbkkaaDoorW.PrintLast Go.Proofs.YtffldajbnhbkkaaDoorW.PrintMore
set_option linter.unusedVariables false
set_option linter.unusedSimpArgs false
theorem same16_l0 (l : List S43) (hl : l.length ≤ 1000000) : ∀ (d i k : Nat), l.length - i = d → i ≤ l.length → d < k → quipuref16_Same.l0 k l l (i : Int) = some true
  | 0, i, k, hd, hi, hk => by
    obtain ⟨k, rfl⟩ : ∃ m, k = m + 1 := ⟨k - 1, by omega⟩
    unfold quipuref16_Same.l0
    rw [if_neg (by omega)]
  | d + 1, i, k, hd, hi, hk => by
    obtain ⟨k, rfl⟩ : ∃ m, k = m + 1 := ⟨k - 1, by omega⟩
    unfold quipuref16_Same.l0
    rw [if_pos (by omega), if_pos (by omega), if_pos (by omega), if_neg (by simp), wrapS i 10000000 (by omega) (by omega)]
    exact same16_l0 l hl d (i + 1) k (by omega) (by omega) (by omega)
theorem same16_self (l : List S43) (hl : l.length ≤ 1000000) (k : Nat) (hk : l.length < k) : quipuref16_Same.f k l l = some true := by
  unfold quipuref16_Same.f
  rw [if_pos rfl]
  exact same16_l0 l hl l.length 0 k rfl (Nat.zero_le _) (by omega)
end Go.Proofs.YtffldajbnhbkkaaDoor.Q

namespace Go.Proofs.YtffldajbnhbkkaaDoor.Q
open Go.RowKit Go.Shelf Go.Proofs.YtffldajbnhbkkaaDoorW.PrintWords Go.Proofs.YtffldajbnhbkkaaDoorW.PrintLast Go.Proofs.YtffldajbnhbkkaaDoorW.PrintMore
set_option linter.unusedVariables false
set_option linter.unusedSimpArgs false
attribute [local go_sem] Oper.semAt_some
attribute [local go_sem high] eqA31
/-- The boxes that are kept from All's call on. -/
structure FB (W0 W : World) (go gs gr gc : Nat) (s : ByteArray) (V : Value) (stop : Int) : Prop where
  below : Below W0.heap.size W0 W
  o : W.heap[go]? = some (.cells #[.string s, V] 25 (0, 0))
  st : W.heap[gs]? = some (.cells #[.int .i64 stop] 3 (0, 0))
  rs : W.heap[gr]? = some (.cells #[.bool false] 4 (0, 0))
  cl : W.heap[gc]? = some (.cells #[.string s, V] 25 (0, 0))
  bg : W0.heap.size ≤ gr
theorem FB.of {W0 W W' : World} {B go gs gr gc : Nat} {s : ByteArray} {V : Value} {stop : Int} (h : FB W0 W go gs gr gc s V stop) (hb : Below B W W') (hW : W0.heap.size ≤ B) (h1 : go < B) (h2 : gs < B) (h3 : gr < B) (h4 : gc < B) : FB W0 W' go gs gr gc s V stop :=
  ⟨h.below.trans (hb.mono hW), (hb.block _ h1).trans h.o, (hb.block _ h2).trans h.st, (hb.block _ h3).trans h.rs, (hb.block _ h4).trans h.cl, h.bg⟩
theorem FB.next {W0 W W' : World} {go gs gr gc : Nat} {s : ByteArray} {V : Value} {stop : Int} (h : FB W0 W go gs gr gc s V stop) (hb : Below W.heap.size W W') : FB W0 W' go gs gr gc s V stop :=
  h.of hb h.below.size (blk_lt h.o) (blk_lt h.st) (blk_lt h.rs) (blk_lt h.cl)
set_option maxHeartbeats 8000000 in
set_option maxRecDepth 100000 in
theorem all_in (s : ByteArray) (V : Value) (W : World) : Calls Tryd.prog 21 #[.agg #[.string s, V]] W fun e w' => e = .returned (.func (.func 41) #[] #[.pointer (some ⟨W.heap.size, 0, none⟩)]) ∧ w' = W.alloc (.cells #[.string s, V] 25) := by
  have hu25 := Tryd.underlying25
  have hmf : ∀ (fn : Fn) (first cap : Array Value) (w : World), (Instr.makeFunc fn first cap).run Tryd.prog w = .ok (.func fn first cap) w := fun _ _ _ _ => rfl
  go_enter Tryd.func21, Tryd.ntmps21
  go_wp2
  go_ret
  exact ⟨rfl, rfl⟩
theorem three_boxes (W : World) (s : ByteArray) (V : Value) (stop : Int) : ∃ W', W' = ((W.alloc (.cells #[.string s, V] 25)).alloc (.cells #[.int .i64 stop] 3)).alloc (.cells #[.bool false] 4) ∧ Below W.heap.size W W' ∧ W'.heap[W.heap.size]? = some (.cells #[.string s, V] 25 (0, 0)) ∧ W'.heap[W.heap.size + 1]? = some (.cells #[.int .i64 stop] 3 (0, 0)) ∧ W'.heap[W.heap.size + 1 + 1]? = some (.cells #[.bool false] 4 (0, 0)) := by
  obtain ⟨h1, h2⟩ := two_blocks W #[.string s, V] #[.int .i64 stop] 25 3
  refine ⟨_, rfl, below_alloc (below_alloc (below_alloc (Below.refl _ _) _) _) _, blk_alloc h1 _, blk_alloc h2 _, ?_⟩
  have := blk_new ((W.alloc (.cells #[.string s, V] 25)).alloc (.cells #[.int .i64 stop] 3)) (.cells #[.bool false] 4)
  have e : ((W.alloc (.cells #[.string s, V] 25)).alloc (.cells #[.int .i64 stop] 3)).heap.size = W.heap.size + 1 + 1 := by simp
  rw [e] at this; exact this
/-- Where the boxes lie. -/
structure Lts (B z go gs gr gc gt gn gd : Nat) : Prop where
  o : go < B
  st : gs < B
  rs : gr < B
  cl : gc < B
  tb : gt < B
  nb : gn < B
  z1 : z ≤ B
  z2 : z ≤ gn
  n1 : go ≠ gn
  n2 : gs ≠ gn
  n3 : gr ≠ gn
  n4 : gc ≠ gn
  n5 : gt ≠ gn
  dd : gd < B
  n6 : gd ≠ gn
/-- The world within a turn. -/
structure FI (W0 W : World) (B go gs gr gc gt gn gd : Nat) (od : Obj) (s : ByteArray) (V : Value) (stop t : Int) (n : Nat) : Prop where
  fb : FB W0 W go gs gr gc s V stop
  tb : W.heap[gt]? = some (.cells #[.int .i64 t] 3 (0, 0))
  nb : W.heap[gn]? = some (.cells #[.int .i64 (n : Int)] 3 (0, 0))
  kp : W.heap[gd]? = some od
  sz : B ≤ W.heap.size
section
variable {W0 W W' : World} {B go gs gr gc gt gn gd : Nat} {od : Obj} {s : ByteArray} {V : Value} {stop t : Int} {n : Nat}
theorem FI.of (h : FI W0 W B go gs gr gc gt gn gd od s V stop t n) (L : Lts B W0.heap.size go gs gr gc gt gn gd) (hb : Below B W W') : FI W0 W' B go gs gr gc gt gn gd od s V stop t n :=
  ⟨h.fb.of hb L.z1 L.o L.st L.rs L.cl, (hb.block _ L.tb).trans h.tb, (hb.block _ L.nb).trans h.nb, (hb.block _ L.dd).trans h.kp, Nat.le_trans h.sz hb.size⟩
theorem FI.next (h : FI W0 W B go gs gr gc gt gn gd od s V stop t n) (L : Lts B W0.heap.size go gs gr gc gt gn gd) (hb : Below W.heap.size W W') : FI W0 W' B go gs gr gc gt gn gd od s V stop t n :=
  h.of L (hb.mono h.sz)
theorem FI.count (h : FI W0 W B go gs gr gc gt gn gd od s V stop t n) (L : Lts B W0.heap.size go gs gr gc gt gn gd) (m : Nat) : FI W0 (W.setCell ⟨gn, 0, none⟩ (.int .i64 (m : Int))) B go gs gr gc gt gn gd od s V stop t m :=
  ⟨⟨below_set h.fb.below L.z2, blk_far h.fb.o L.n1 _, blk_far h.fb.st L.n2 _, blk_far h.fb.rs L.n3 _, blk_far h.fb.cl L.n4 _, h.fb.bg⟩, blk_far h.tb L.n5 _, blk_put h.nb 0 _ rfl, (Below.heap_setCell _ ⟨gn, 0, none⟩ _ _ L.n6).trans h.kp, by simpa [World.setCell] using h.sz⟩
end
theorem FI.own {W0 : World} {B go gs gr gc gt gn gd : Nat} {od : Obj} {s : ByteArray} {V : Value} {stop t : Int} (L : Lts B W0.heap.size go gs gr gc gt gn gd) : OwnFrom B (fun (n : Nat) W => FI W0 W B go gs gr gc gt gn gd od s V stop t n) := fun n X Y row hs hg hr =>
  hs.of L ⟨hg.os, hg.tape, hg.output, hg.size, fun k hk => hg.block k (Nat.lt_of_lt_of_le hk hs.sz) (fun e => by have := (hr k e.symm).1; omega)⟩
theorem two_taken {w w22 : World} {g D D2 : Nat} {d1 d2 : Option (List Deferred)} {v v' : Value} {t : TypeId} (h : Below w.heap.size w w22) (hg : w.heap.size ≤ g) (h1 : w.heap.size ≤ D) (h2 : w.heap.size ≤ D2) (k1 : w22.heap[D]? = some (.deferred d1)) (k2 : w22.heap[D2]? = some (.deferred d2)) (hne : D ≠ D2) (kg : w22.heap[g]? = some (.cells #[v] t (0, 0))) :
    (w22.setCell ⟨g, 0, none⟩ v').heap[D2]? = some (.deferred d2) ∧ ((w22.setCell ⟨g, 0, none⟩ v').putObj D2 (.deferred none)).heap[D]? = some (.deferred d1) ∧ Below w.heap.size w (((w22.setCell ⟨g, 0, none⟩ v').putObj D2 (.deferred none)).putObj D (.deferred none)) ∧ (((w22.setCell ⟨g, 0, none⟩ v').putObj D2 (.deferred none)).putObj D (.deferred none)).cell? ⟨g, 0, none⟩ = some v' := by
  have n1 : D ≠ g := by rintro rfl; rw [k1] at kg; cases kg
  have n2 : D2 ≠ g := by rintro rfl; rw [k2] at kg; cases kg
  have a2 := (Below.heap_setCell w22 ⟨g, 0, none⟩ v' D2 n2).trans k2
  have a1 := (Below.heap_setCell w22 ⟨g, 0, none⟩ v' D n1).trans k1
  have b1 := (World.putObj_heap_other (w := w22.setCell ⟨g, 0, none⟩ v') (o := .deferred none) hne).trans a1
  refine ⟨a2, b1, ?_, blk_cell ((World.putObj_heap_other n1.symm).trans ((World.putObj_heap_other n2.symm).trans (blk_put kg 0 v' rfl))) 0⟩
  have c2 := (Array.getElem?_eq_some_iff.1 a2).1
  have c1 := (Array.getElem?_eq_some_iff.1 b1).1
  have hb0 := below_set (j := 0) (v := v') h hg
  exact (hb0.grown (grownBy_putObj' _ D2 _) hb0.size (fun k e => by cases e; exact h2)).grown (grownBy_putObj' _ D _) (Nat.le_trans h1 (Nat.le_of_lt c1)) (fun k e => by cases e; exact h1)
theorem res4 {tmps : Array Value} {w : World} {g : Nat} {v : Value} (hp : tmps.getD 4 undef = .pointer (some ⟨g, 0, none⟩)) (h : w.cell? ⟨g, 0, none⟩ = some v) : (results Tryd.f7 tmps).run Tryd.prog w = .ok v w := by
  have e : Tryd.f7.results = #[.cell 4 4] := by kernel_rfl
  rw [Array.getD_eq_getD_getElem?] at hp
  simp only [results, e]
  go_simp
/-- The frame of a round. -/
def updA (s : ByteArray) (tm : Array Value) (x : S31) (gx : Nat) : Array Value := (((tm.setIfInBounds 46 (.agg #[.int .i64 x.f0, .int .i64 x.f1, .int .i64 x.f2])).setIfInBounds 47 (.string (subS s x.f1 x.f2))).setIfInBounds 12 (.pointer (some ⟨gx, 0, none⟩))).setIfInBounds 13 (.string (subS s x.f1 x.f2))
set_option maxHeartbeats 8000000 in
set_option maxRecDepth 100000 in
theorem leaves_law (s : ByteArray) (A : Option Addr) (c : Nat) (ls : List S31) (stop : Int) (W : World) (hG : Gd W) (hs : s.size < 1000000000) (hr : Kd.C k31 W A ls.length ls) (hc : ls.length ≤ c) (hl : ls.length ≤ 400000) :
    Calls Tryd.prog 7 #[.agg #[.string s, .slice A ls.length c], .int .i64 stop] W fun e w' => e = .returned (.bool true) ∧ Below W.heap.size W w' := by
  have hu25 := Tryd.underlying25
  have hu31 := Tryd.underlying31
  have hu23 := Tryd.underlying23
  have hmx : Tryd.prog.follows .mixedOrders = true := by kernel_rfl
  obtain ⟨KL, hKL⟩ := refleaves_p s ls (by omega) hs
  obtain ⟨KM, hKM⟩ := refmay_p s ls (by omega) hs
  have hlen : (leavesR s ls).1.length ≤ 900000 := by
    unfold leavesR
    split
    · have h1 := leafGo_len s ls (edgesL s ls)
      have h2 := edges_le s ls
      show (leafGo s ls (edgesL s ls)).length ≤ _
      omega
    · exact Nat.zero_le _
  have LC := Aside0.mk (fun (w2 : World) (hW : Below W.heap.size W w2) => leaves_walk s A c ls w2 (Gd.below hG hW) hs (Kd.C_below hr hW) hc (by omega))
  have RC := Aside0.mk (fun (w2 : World) (hW : Below W.heap.size W w2) => quipuref17_Leaves.calls KL s A c ls (leavesR s ls).1 (leavesR s ls).2 w2 (Gd.below hG hW) (Kd.C_below hr hW) hc (hKL KL (Nat.le_refl _)))
  have MC := Aside0.mk (fun (w2 : World) (hW : Below W.heap.size W w2) => quipuref17_May.calls KM s A c ls (chkB s ls) w2 (Gd.below hG hW) (Kd.C_below hr hW) hc (hKM KM (Nat.le_refl _)))
  have WC := Aside0.mk (fun (w2 : World) (hW : Below W.heap.size W w2) => quipulaw17_awake.calls true w2 (Gd.below hG hW) rfl)
  have HS16 := Aside0.mk (same16_self (leavesR s ls).1 (by omega) 1000000 (by omega))
  have HG := Aside0.mk hG
  have HR := Aside0.mk hr
  have HSZ := Aside0.mk hs
  have HL := Aside0.mk hl
  have HCL := Aside0.mk hc
  unfold LeafPost at LC
  generalize hlr : leavesR s ls = LR at LC RC HS16
  obtain ⟨W1, hW1, hb1, ho, hst, hrs⟩ := three_boxes W s (.slice A ls.length c) stop
  have HB1 := Aside0.mk hb1
  have HO := Aside0.mk ho
  have HST := Aside0.mk hst
  have HRS := Aside0.mk hrs
  have i0 := (blk_cell ho 0).trans (rfl : _ = some (Value.string s))
  have i1 := (blk_cell ho 1).trans (rfl : _ = some (Value.slice A ls.length c))
  clear hKL hKM hlen hG hr hs hl hc hb1 ho hst hrs hlr
  refine (callsIn_wide (n := 3)).1 ?_
  refine callsIn_of_wp_marks Tryd.func7 rfl trivial ?_ rfl
  simp only [Tryd.ntmps7, List.size_toArray, List.length_cons, List.length_nil, Nat.reduceAdd, Nat.reduceSub, Array.replicate_succ, Array.replicate_zero, List.push_toArray, List.append_toArray, List.nil_append, List.cons_append]
  gi_upto_region 1 with (fail)
  rw [← hW1]
  clear hW1
  have HGR := Aside0.mk (show W.heap.size ≤ W.heap.size + 1 + 1 by omega)
  generalize W.heap.size + 1 + 1 = gr at HRS HGR ⊢
  generalize W.heap.size + 1 = gs at HST ⊢
  generalize hgo : W.heap.size = go at i0 i1 HO ⊢
  gi_upto_region 3 with (first | (refine ⟨trivial, ?_⟩; gi_at_call 18; refine (callsIn_wide.2 (LC.out _ HB1.out)).mono ?_; rintro e w2 ⟨v5, rfl, hR5, hb⟩; have ho2 := blk_below HO.out hb; have hst2 := blk_below HST.out hb; have hrs2 := blk_below HRS.out hb; have HB2 := Aside0.mk (below_step HB1.out hb); have i0' := (blk_cell ho2 0).trans (rfl : _ = some (Value.string s)); have i1' := (blk_cell ho2 1).trans (rfl : _ = some (Value.slice A ls.length c)); obtain ⟨A5, c5, rfl⟩ := Kd.R_slice hR5; have HR5 := Aside0.mk hR5; have HO2 := Aside0.mk ho2; have HST2 := Aside0.mk hst2; have HRS2 := Aside0.mk hrs2; clear hb ho2 hst2 hrs2 hR5) | (refine ⟨trivial, ?_⟩; gi_at_call 19; refine (callsIn_wide.2 (RC.out _ HB2.out)).mono ?_; rintro e w3 ⟨v7, rfl, hR7, hb⟩; have ho3 := blk_below HO2.out hb; have hst3 := blk_below HST2.out hb; have hrs3 := blk_below HRS2.out hb; have HB3 := Aside0.mk (below_step HB2.out hb); have i0'' := (blk_cell ho3 0).trans (rfl : _ = some (Value.string s)); have i1'' := (blk_cell ho3 1).trans (rfl : _ = some (Value.slice A ls.length c)); obtain ⟨A7, c7, rfl⟩ := Kd.R_slice hR7; have HR7 := Aside0.mk hR7; have HR5b := Aside0.mk (Kd.R_below HR5.out hb); have HO3 := Aside0.mk ho3; have HST3 := Aside0.mk hst3; have HRS3 := Aside0.mk hrs3; clear hb ho3 hst3 hrs3 hR7))
  have hmf : ∀ (g : Nat) (w : World), (binOp .eql 51 (.func (.func 41) #[] #[.pointer (some ⟨g, 0, none⟩)]) Value.nilFunc).run Tryd.prog w = .ok (.bool false) w := fun _ _ => by kernel_rfl
  gi_wp2_with (first | (refine ⟨trivial, ?_⟩; gi_at_call 11; refine (callsIn_wide.2 (WC.out _ HB3.out)).mono ?_; rintro e w4 ⟨rfl, hb⟩; have HB4 := Aside0.mk (below_step HB3.out hb); have HR5c := Aside0.mk (Kd.R_below HR5b.out hb); have HR7c := Aside0.mk (Kd.R_below HR7.out hb); have HO4 := Aside0.mk (blk_below HO3.out hb); have HST4 := Aside0.mk (blk_below HST3.out hb); have HRS4 := Aside0.mk (blk_below HRS3.out hb); clear hb) | (refine ⟨trivial, ?_⟩; gi_at_call 20; refine (callsIn_wide.2 (quipuref16_Same.calls 1000000 A5 c5 LR.1 A7 c7 LR.1 true w4 (Kd.R_reads' HR5c.out).2.2 (Kd.R_reads' HR5c.out).2.1 (Kd.R_reads' HR7c.out).2.2 (Kd.R_reads' HR7c.out).2.1 HS16.out)).mono ?_; rintro e w5 ⟨rfl, hd⟩; have hb := Drawn0.below hd; have ho5 := blk_below HO4.out hb; have i0''' := (blk_cell ho5 0).trans (rfl : _ = some (Value.string s)); have i1''' := (blk_cell ho5 1).trans (rfl : _ = some (Value.slice A ls.length c)); have HB5 := Aside0.mk (below_step HB4.out hb); have HO5 := Aside0.mk ho5; have HST5 := Aside0.mk (blk_below HST4.out hb); have HRS5 := Aside0.mk (blk_below HRS4.out hb); clear hb hd ho5) | (refine ⟨trivial, ?_⟩; gi_at_call 21; refine (callsIn_wide.2 (all_in s (.slice A ls.length c) w5)).mono ?_; rintro e w6 ⟨rfl, rfl⟩; skip))
  obtain ⟨hC, hT⟩ := two_blocks w5 #[.string s, .slice A ls.length c] #[.int .i64 0] 25 3
  have hb7 : Below w5.heap.size w5 ((w5.alloc (.cells #[.string s, .slice A ls.length c] 25)).alloc (.cells #[.int .i64 0] 3)) := below_alloc (below_alloc (Below.refl _ _) _) _
  have hfb : FB W ((w5.alloc (.cells #[.string s, .slice A ls.length c] 25)).alloc (.cells #[.int .i64 0] 3)) go gs gr w5.heap.size s (.slice A ls.length c) stop :=
    ⟨below_step HB5.out hb7, blk_below HO5.out hb7, blk_below HST5.out hb7, blk_below HRS5.out hb7, hC, HGR.out⟩
  have HFB := Aside0.mk hfb
  have HTB := Aside0.mk hT
  have HLT := Aside0.mk (show w5.heap.size < w5.heap.size + 1 ∧ ((w5.alloc (.cells #[.string s, .slice A ls.length c] 25)).alloc (.cells #[.int .i64 0] 3)).heap.size = w5.heap.size + 1 + 1 from ⟨Nat.lt_succ_self _, by simp⟩)
  clear hC hT hb7 hfb
  generalize (w5.alloc (.cells #[.string s, .slice A ls.length c] 25)).alloc (.cells #[.int .i64 0] 3) = w7 at HFB HTB HLT ⊢
  generalize w5.heap.size + 1 = gt at HTB HLT ⊢
  generalize w5.heap.size = gc at HFB HLT ⊢
  have t0 := (blk_cell HTB.out 0).trans (rfl : _ = some (Value.int .i64 0))
  refine wpIn_loop_rounds 3 ?_
  rw [roundsIn_succ]
  gi_wp2
  have hn := blk_new w7 (Obj.cells #[Value.int .i64 0] 3)
  have hb8 := below_alloc (Below.refl w7.heap.size w7) (Obj.cells #[Value.int .i64 0] 3)
  have hz8 : (w7.alloc (Obj.cells #[Value.int .i64 0] 3)).heap.size = w7.heap.size + 1 := by simp
  have hfb8 := HFB.out.next hb8
  have htb8 := blk_below HTB.out hb8
  have hkp8 := (hb8.block _ (Array.getElem?_eq_some_iff.1 HFB.out.o).1).trans HFB.out.o
  have hlts : go < w7.heap.size ∧ gs < w7.heap.size ∧ gr < w7.heap.size ∧ gc < w7.heap.size ∧ gt < w7.heap.size ∧ go < w7.heap.size ∧ W.heap.size ≤ w7.heap.size := ⟨blk_lt HFB.out.o, blk_lt HFB.out.st, blk_lt HFB.out.rs, blk_lt HFB.out.cl, blk_lt HTB.out, (Array.getElem?_eq_some_iff.1 HFB.out.o).1, HFB.out.below.size⟩
  generalize w7.alloc (Obj.cells #[Value.int .i64 0] 3) = w8 at hn hb8 hz8 hfb8 htb8 hkp8 ⊢
  have L : Lts w8.heap.size W.heap.size go gs gr gc gt w7.heap.size go := by
    obtain ⟨l1, l2, l3, l4, l5, l6, l7⟩ := hlts
    constructor <;> omega
  have h8 : FI W w8 w8.heap.size go gs gr gc gt w7.heap.size go (.cells #[.string s, .slice A ls.length c] 25 (0, 0)) s (.slice A ls.length c) stop 0 0 := ⟨hfb8, htb8, hn, hkp8, Nat.le_refl _⟩
  have LT := Aside0.mk L
  have H8 := Aside0.mk h8
  generalize w7.heap.size = gn at LT H8 ⊢
  clear L h8 hn hb8 hz8 hfb8 htb8 hkp8 hlts
  refine RX.wpIn_rangeX_box (β := Nat) (α := S31) (n := 3) rfl (by decide) (gf := 41) (lb := #[.pointer (some ⟨gc, 0, none⟩)]) rfl trivial (enters_of Tryd.func41 (by kernel_rfl) rfl) (encA s) (fun _ => rfl) (fun n x => chkB s ls = true ∧ ∃ h : n < ls.length, x = ls[n]) (fun n _ => n + 1) (fun n => n = lastA s ls) 0 (fun _ _ => False) (Kp := RX.KC w8.heap.size) RX.KC.trans RX.KC.putObj (fun n W' => FI W W' w8.heap.size go gs gr gc gt gn go (.cells #[.string s, .slice A ls.length c] 25 (0, 0)) s (.slice A ls.length c) stop 0 n) (fun cd W' => cd = Code.exit 2 ∧ ∃ n, FI W W' w8.heap.size go gs gr gc gt gn go (.cells #[.string s, .slice A ls.length c] 25 (0, 0)) s (.slice A ls.length c) stop 0 n) (FI.own LT.out) (fun cd X Y row hs hg hr => ⟨hs.1, hs.2.imp (fun n h => FI.own LT.out n X Y row h hg hr)⟩) H8.out (fun x => Obj.cells #[.int .i64 x.f0, .int .i64 x.f1, .int .i64 x.f2] 31) (fun _ => rfl) (updA s) ?iter ?assign ?body ?done ?stop (fun _ _ _ _ h _ => h.elim)
  case iter =>
    intro l J Jx hJ hY W9 hi hj
    refine (iter_in w8.heap.size 1 l gc s A c ls W HG.out HSZ.out HR.out HCL.out (by have := HL.out; omega) (fun n W' => FI W W' w8.heap.size go gs gr gc gt gn go (.cells #[.string s, .slice A ls.length c] 25 (0, 0)) s (.slice A ls.length c) stop 0 n) J Jx (fun n W' h => ⟨h.fb.below, h.fb.cl, h.sz⟩) (fun n W1 W2 h hb => h.next LT.out hb) (fun W1 W2 h hb => hJ W1 W2 h (RX.keeps_below hb)) (fun n W' h hck hi hj => (hY n ls[n] W' hi hj ⟨hck, h, rfl⟩).mono (fun e w hR => ?_)) W9 hi hj).mono ?_
    · rcases hR with hR | ⟨h1, _, h2⟩
      · exact Or.inl hR
      · exact Or.inr ⟨h1, h2⟩
    · rintro e W' ⟨v, rfl, h | h⟩
      · exact Or.inl ⟨v, rfl, Or.inl ⟨_, rfl, h.1, h.2⟩⟩
      · exact Or.inl ⟨v, rfl, Or.inr h⟩
  case assign =>
    intro l n x W9 K hi hn hK
    have hb := below_alloc (Below.refl W9.heap.size W9) (Obj.cells #[Value.int .i64 x.f0, Value.int .i64 x.f1, Value.int .i64 x.f2] 31)
    have hK2 := Aside0.mk (hK _ _ W9.heap.size (RX.keeps_below hb) (RX.KC.below hb) (hi.next LT.out hb) hi.sz (blk_new W9 _) rfl)
    clear hK hi hn hb
    simp only [encA]
    gi_wp2
    have hk := hK2.out
    simp only [updA, List.setIfInBounds_toArray, List.set_cons_zero, List.set_cons_succ] at hk
    exact hk
  case body =>
    rintro l n x gx W9 hl hi ⟨hck, hlt, hxe⟩ hgx hx
    have MCK := MC.out
    rw [hck] at MCK
    have MC2 := Aside0.mk MCK
    have hltI : (n : Int) < (ls.length : Int) := Int.ofNat_lt.2 hlt
    have hltN : n < ls.length := hlt
    have hge : decide ((ls.length : Int) ≤ (n : Int)) = false := decide_eq_false (by omega)
    have hge2 : ¬ ((ls.length : Int) ≤ (n : Int)) := by omega
    obtain ⟨ad, ea, c0, c1, c2⟩ := at_T31 HR.out (n : Int) (Int.natCast_nonneg n) hltI
    rw [rd31 ls n hlt, Int.toNat_natCast, ← hxe] at c0 c1 c2
    subst ea
    have hsp := span_in (chk_span hck ls[n] (List.getElem_mem hlt))
    rw [← hxe] at hsp
    obtain ⟨_, _, p1, p2, p3⟩ := hsp
    obtain ⟨f1a, f1b⟩ := placeB_in p1
    obtain ⟨f2a, f2b⟩ := placeB_in p2
    have f12 : x.f1 ≤ x.f2 := Int.le_of_lt p3
    have HI := Aside0.mk hi
    have HX := Aside0.mk hx
    have o0 := (blk_cell hi.fb.o 0).trans (rfl : _ = some (Value.string s))
    have o1 := (blk_cell hi.fb.o 1).trans (rfl : _ = some (Value.slice (some ad) ls.length c))
    clear hl hi hck hlt hxe hgx hx p1 p2 p3 MCK
    simp only [updA, subS, List.setIfInBounds_toArray, List.set_cons_zero, List.set_cons_succ]
    gi_wp2
    have n0 := (blk_cell HI.out.nb 0).trans (rfl : _ = some (Value.int .i64 (n : Int)))
    have x0 := (blk_cell HX.out 0).trans (rfl : _ = some (Value.int .i64 x.f0))
    have x1 := (blk_cell HX.out 1).trans (rfl : _ = some (Value.int .i64 x.f1))
    have x2 := (blk_cell HX.out 2).trans (rfl : _ = some (Value.int .i64 x.f2))
    have qo0 := cell_regrown o0
    have qo1 := cell_regrown o1
    have qn0 := cell_regrown n0
    have qx0 := cell_regrown x0
    have qx1 := cell_regrown x1
    have qx2 := cell_regrown x2
    have qd0 := cell_regrown ((HI.out.fb.below.cell (World.block_lt_of_cell? W _ c0)).trans c0)
    have qd1 := cell_regrown ((HI.out.fb.below.cell (World.block_lt_of_cell? W _ c1)).trans c1)
    have qd2 := cell_regrown ((HI.out.fb.below.cell (World.block_lt_of_cell? W _ c2)).trans c2)
    have MCQ : ∀ d os, CallsIn (Fence.wide.inRound l) 0 Tryd.prog 16 #[.agg #[.string s, .slice (some ad) ls.length c]] (Go.Sort.grow (redrawn W9 d) os) fun e w'' => e = .returned (.bool true) ∧ ∃ p : Regrown, w'' = Go.Sort.grow (redrawn W9 p.d) p.os := fun d os => CallsIn.regrown_of (CallsIn.inRound l (callsIn_wide.2 (MC2.out _ (below_step HI.out.fb.below (below_regrown W9 d os)))))
    clear o0 o1 n0 x0 x1 x2 c0 c1 c2
    refine RX.wpIn_region_below (by assumption) (by kernel_rfl) (by kernel_rfl) ?_
    repeat (refine wpQuietIn_step (fun _ _ _ _ => trivial) (fun K hK => ?_); go_simp; first | (refine hK _ ?_; clear hK K) | (apply Exists.intro; refine ⟨fun _ => ?_, hK _ ?_⟩; (first | exact ⟨by intro h; cases h, MCQ _ _⟩ | exact MCQ _ _); clear hK K))
    refine wpQuietIn_nil ?_
    intro w10 hb10
    have hi10 := HI.out.next LT.out hb10
    have HI10 := Aside0.mk hi10
    have HB10 := Aside0.mk hb10
    have n0 := (blk_cell hi10.nb 0).trans (rfl : _ = some (Value.int .i64 (n : Int)))
    have nf := blk_frozen hi10.nb 0
    have t0 := (blk_cell hi10.tb 0).trans (rfl : _ = some (Value.int .i64 0))
    have s0 := (blk_cell hi10.fb.st 0).trans (rfl : _ = some (Value.int .i64 stop))
    have ngs := LT.out.n2
    have ngt := LT.out.n5
    have nn0 : (0 : Int) ≤ (n : Int) := Int.natCast_nonneg n
    have nn1 : (n : Int) ≤ 400000 := by have := HL.out; omega
    clear hb10 hi10 qo0 qo1 qn0 qx0 qx1 qx2 qd0 qd1 qd2 MCQ hltN
    have hfin : ∀ W11, W11 = w10.setCell ⟨gn, 0, none⟩ (.int .i64 ((n + 1 : Nat) : Int)) → KeepsFrom w8.heap.size W9 W11 ∧ RX.KC w8.heap.size W9 W11 ∧ FI W W11 w8.heap.size go gs gr gc gt gn go (.cells #[.string s, .slice (some ad) ls.length c] 25 (0, 0)) s (.slice (some ad) ls.length c) stop 0 (n + 1) := by
      rintro _ rfl
      exact ⟨(RX.keeps_below HB10.out).trans ((KeepsOthers.setCell _ _ _).from _), (RX.KC.below HB10.out).trans (RX.KC.setCell _ _ _ LT.out.nb), HI10.out.count LT.out (n + 1)⟩
    have HFIN := Aside0.mk hfin
    clear hfin
    by_cases hst : (n : Int) + 1 = stop
    · have hstb : decide ((n : Int) + 1 = stop) = true := decide_eq_true hst
      gi_wp2
      obtain ⟨h1, h2, h3⟩ := HFIN.out (w10.setCell ⟨gn, 0, none⟩ (.int .i64 stop)) (by rw [← hst]; rfl)
      exact ⟨h1, rfl, n + 1, h3⟩
    · gi_wp2
      exact HFIN.out _ rfl
  case stop =>
    rintro D cd W10 hD ⟨rfl, n, hi⟩ hK
    have t0 := (blk_cell hi.tb 0).trans (rfl : _ = some (Value.int .i64 0))
    have hfb9 := hi.fb.next (below_alloc (Below.refl W10.heap.size W10) (Obj.cells #[Value.int .i64 1] 3))
    have HFBb := Aside0.mk hfb9
    have HTBb := Aside0.mk (blk_new W10 (Obj.cells #[Value.int .i64 1] 3))
    have HKB := Aside0.mk (((below_alloc (Below.refl W10.heap.size W10) (Obj.cells #[Value.int .i64 1] 3)).block _ (Array.getElem?_eq_some_iff.1 hK).1).trans hK)
    have HZD := Aside0.mk (Nat.le_trans H8.out.fb.below.size hD)
    clear hi hK hD hfb9
    gi_wp2
    refine ⟨trivial, ?_⟩
    gi_wp2
    generalize W10.alloc (Obj.cells #[Value.int .i64 1] 3) = w7b at HFBb HTBb HKB ⊢
    generalize W10.heap.size = gtb at HTBb ⊢
    have t0 := (blk_cell HTBb.out 0).trans (rfl : _ = some (Value.int .i64 1))
    rw [roundsIn_succ]
    gi_wp2
    have hn := blk_new w7b (Obj.cells #[Value.int .i64 0] 3)
    have hb8 := below_alloc (Below.refl w7b.heap.size w7b) (Obj.cells #[Value.int .i64 0] 3)
    have hz8 : (w7b.alloc (Obj.cells #[Value.int .i64 0] 3)).heap.size = w7b.heap.size + 1 := by simp
    have hfb8 := HFBb.out.next hb8
    have htb8 := blk_below HTBb.out hb8
    have hkp8 := (hb8.block _ (Array.getElem?_eq_some_iff.1 HKB.out).1).trans HKB.out
    have hlts : go < w7b.heap.size ∧ gs < w7b.heap.size ∧ gr < w7b.heap.size ∧ gc < w7b.heap.size ∧ gtb < w7b.heap.size ∧ D < w7b.heap.size ∧ W.heap.size ≤ w7b.heap.size := ⟨blk_lt HFBb.out.o, blk_lt HFBb.out.st, blk_lt HFBb.out.rs, blk_lt HFBb.out.cl, blk_lt HTBb.out, (Array.getElem?_eq_some_iff.1 HKB.out).1, HFBb.out.below.size⟩
    generalize w7b.alloc (Obj.cells #[Value.int .i64 0] 3) = w8b at hn hb8 hz8 hfb8 htb8 hkp8 ⊢
    have L : Lts w8b.heap.size W.heap.size go gs gr gc gtb w7b.heap.size D := by
      obtain ⟨l1, l2, l3, l4, l5, l6, l7⟩ := hlts
      constructor <;> omega
    have h8 : FI W w8b w8b.heap.size go gs gr gc gtb w7b.heap.size D (.deferred (some [])) s (.slice A ls.length c) stop 1 0 := ⟨hfb8, htb8, hn, hkp8, Nat.le_refl _⟩
    have LTb := Aside0.mk L
    have H8b := Aside0.mk h8
    generalize w7b.heap.size = gnb at LTb H8b ⊢
    clear L h8 hn hb8 hz8 hfb8 htb8 hkp8 hlts
    refine RX.wpIn_rangeX_box (β := Nat) (α := S31) (n := 3) rfl (by decide) (gf := 41) (lb := #[.pointer (some ⟨gc, 0, none⟩)]) rfl trivial (enters_of Tryd.func41 (by kernel_rfl) rfl) (encA s) (fun _ => rfl) (fun n x => chkB s ls = true ∧ ∃ h : n < ls.length, x = ls[n]) (fun n _ => n + 1) (fun n => n = lastA s ls) 0 (fun _ _ => False) (Kp := RX.KC w8b.heap.size) RX.KC.trans RX.KC.putObj (fun n W' => FI W W' w8b.heap.size go gs gr gc gtb gnb D (.deferred (some [])) s (.slice A ls.length c) stop 1 n) (fun _ _ => False) (FI.own LTb.out) (fun _ _ _ _ hs _ _ => hs) H8b.out (fun x => Obj.cells #[.int .i64 x.f0, .int .i64 x.f1, .int .i64 x.f2] 31) (fun _ => rfl) (updA s) ?iterb ?assignb ?bodyb ?doneb ?stopb (fun _ _ _ _ h _ => h.elim)
    case iterb =>
      intro l J Jx hJ hY W9 hi hj
      refine (iter_in w8b.heap.size 1 l gc s A c ls W HG.out HSZ.out HR.out HCL.out (by have := HL.out; omega) (fun n W' => FI W W' w8b.heap.size go gs gr gc gtb gnb D (.deferred (some [])) s (.slice A ls.length c) stop 1 n) J Jx (fun n W' h => ⟨h.fb.below, h.fb.cl, h.sz⟩) (fun n W1 W2 h hb => h.next LTb.out hb) (fun W1 W2 h hb => hJ W1 W2 h (RX.keeps_below hb)) (fun n W' h hck hi hj => (hY n ls[n] W' hi hj ⟨hck, h, rfl⟩).mono (fun e w hR => ?_)) W9 hi hj).mono ?_
      · rcases hR with hR | ⟨h1, _, h2⟩
        · exact Or.inl hR
        · exact Or.inr ⟨h1, h2⟩
      · rintro e W' ⟨v, rfl, h | h⟩
        · exact Or.inl ⟨v, rfl, Or.inl ⟨_, rfl, h.1, h.2⟩⟩
        · exact Or.inl ⟨v, rfl, Or.inr h⟩
    case assignb =>
      intro l n x W9 K hi hn hK
      have hb := below_alloc (Below.refl W9.heap.size W9) (Obj.cells #[Value.int .i64 x.f0, Value.int .i64 x.f1, Value.int .i64 x.f2] 31)
      have hK2 := Aside0.mk (hK _ _ W9.heap.size (RX.keeps_below hb) (RX.KC.below hb) (hi.next LTb.out hb) hi.sz (blk_new W9 _) rfl)
      clear hK hi hn hb
      simp only [encA]
      gi_wp2
      have hk := hK2.out
      simp only [updA, List.setIfInBounds_toArray, List.set_cons_zero, List.set_cons_succ] at hk
      exact hk
    case bodyb =>
      rintro l n x gx W9 hl hi ⟨hck, hlt, hxe⟩ hgx hx
      have MCK := MC.out
      rw [hck] at MCK
      have MC2 := Aside0.mk MCK
      have hltI : (n : Int) < (ls.length : Int) := Int.ofNat_lt.2 hlt
      have hltN : n < ls.length := hlt
      have hge : decide ((ls.length : Int) ≤ (n : Int)) = false := decide_eq_false (by omega)
      have hge2 : ¬ ((ls.length : Int) ≤ (n : Int)) := by omega
      obtain ⟨ad, ea, c0, c1, c2⟩ := at_T31 HR.out (n : Int) (Int.natCast_nonneg n) hltI
      rw [rd31 ls n hlt, Int.toNat_natCast, ← hxe] at c0 c1 c2
      subst ea
      have hsp := span_in (chk_span hck ls[n] (List.getElem_mem hlt))
      rw [← hxe] at hsp
      obtain ⟨_, _, p1, p2, p3⟩ := hsp
      obtain ⟨f1a, f1b⟩ := placeB_in p1
      obtain ⟨f2a, f2b⟩ := placeB_in p2
      have f12 : x.f1 ≤ x.f2 := Int.le_of_lt p3
      have HI := Aside0.mk hi
      have HX := Aside0.mk hx
      have o0 := (blk_cell hi.fb.o 0).trans (rfl : _ = some (Value.string s))
      have o1 := (blk_cell hi.fb.o 1).trans (rfl : _ = some (Value.slice (some ad) ls.length c))
      clear hl hi hck hlt hxe hgx hx p1 p2 p3 MCK
      simp only [updA, subS, List.setIfInBounds_toArray, List.set_cons_zero, List.set_cons_succ]
      gi_wp2
      have n0 := (blk_cell HI.out.nb 0).trans (rfl : _ = some (Value.int .i64 (n : Int)))
      have x0 := (blk_cell HX.out 0).trans (rfl : _ = some (Value.int .i64 x.f0))
      have x1 := (blk_cell HX.out 1).trans (rfl : _ = some (Value.int .i64 x.f1))
      have x2 := (blk_cell HX.out 2).trans (rfl : _ = some (Value.int .i64 x.f2))
      have qo0 := cell_regrown o0
      have qo1 := cell_regrown o1
      have qn0 := cell_regrown n0
      have qx0 := cell_regrown x0
      have qx1 := cell_regrown x1
      have qx2 := cell_regrown x2
      have qd0 := cell_regrown ((HI.out.fb.below.cell (World.block_lt_of_cell? W _ c0)).trans c0)
      have qd1 := cell_regrown ((HI.out.fb.below.cell (World.block_lt_of_cell? W _ c1)).trans c1)
      have qd2 := cell_regrown ((HI.out.fb.below.cell (World.block_lt_of_cell? W _ c2)).trans c2)
      have MCQ : ∀ d os, CallsIn (Fence.wide.inRound l) 0 Tryd.prog 16 #[.agg #[.string s, .slice (some ad) ls.length c]] (Go.Sort.grow (redrawn W9 d) os) fun e w'' => e = .returned (.bool true) ∧ ∃ p : Regrown, w'' = Go.Sort.grow (redrawn W9 p.d) p.os := fun d os => CallsIn.regrown_of (CallsIn.inRound l (callsIn_wide.2 (MC2.out _ (below_step HI.out.fb.below (below_regrown W9 d os)))))
      clear o0 o1 n0 x0 x1 x2 c0 c1 c2
      refine RX.wpIn_region_below (by assumption) (by kernel_rfl) (by kernel_rfl) ?_
      repeat (refine wpQuietIn_step (fun _ _ _ _ => trivial) (fun K hK => ?_); go_simp; first | (refine hK _ ?_; clear hK K) | (apply Exists.intro; refine ⟨fun _ => ?_, hK _ ?_⟩; (first | exact ⟨by intro h; cases h, MCQ _ _⟩ | exact MCQ _ _); clear hK K))
      refine wpQuietIn_nil ?_
      intro w10 hb10
      have hi10 := HI.out.next LTb.out hb10
      have HI10 := Aside0.mk hi10
      have HB10 := Aside0.mk hb10
      have n0 := (blk_cell hi10.nb 0).trans (rfl : _ = some (Value.int .i64 (n : Int)))
      have nf := blk_frozen hi10.nb 0
      have t0 := (blk_cell hi10.tb 0).trans (rfl : _ = some (Value.int .i64 1))
      have s0 := (blk_cell hi10.fb.st 0).trans (rfl : _ = some (Value.int .i64 stop))
      have ngs := LTb.out.n2
      have ngt := LTb.out.n5
      have nn0 : (0 : Int) ≤ (n : Int) := Int.natCast_nonneg n
      have nn1 : (n : Int) ≤ 400000 := by have := HL.out; omega
      clear hb10 hi10 qo0 qo1 qn0 qx0 qx1 qx2 qd0 qd1 qd2 MCQ hltN
      have hfin : ∀ W11, W11 = w10.setCell ⟨gnb, 0, none⟩ (.int .i64 ((n + 1 : Nat) : Int)) → KeepsFrom w8b.heap.size W9 W11 ∧ RX.KC w8b.heap.size W9 W11 ∧ FI W W11 w8b.heap.size go gs gr gc gtb gnb D (.deferred (some [])) s (.slice (some ad) ls.length c) stop 1 (n + 1) := by
        rintro _ rfl
        exact ⟨(RX.keeps_below HB10.out).trans ((KeepsOthers.setCell _ _ _).from _), (RX.KC.below HB10.out).trans (RX.KC.setCell _ _ _ LTb.out.nb), HI10.out.count LTb.out (n + 1)⟩
      have HFIN := Aside0.mk hfin
      clear hfin
      gi_wp2
      exact HFIN.out _ rfl
    case stopb => exact fun _ _ _ _ h _ => h.elim
    case doneb =>
      rintro D2 n W20 hD2 hS hi hK2
      have t0 := (blk_cell hi.tb 0).trans (rfl : _ = some (Value.int .i64 1))
      have o0 := (blk_cell hi.fb.o 0).trans (rfl : _ = some (Value.string s))
      have o1 := (blk_cell hi.fb.o 1).trans (rfl : _ = some (Value.slice A ls.length c))
      have HI := Aside0.mk hi
      have HK2 := Aside0.mk hK2
      have HD2 := Aside0.mk hD2
      have HS := Aside0.mk hS
      clear hi hK2 hD2 hS
      cases hck : chkB s ls with
      | false =>
        have MCK := MC.out
        rw [hck] at MCK
        gi_wp2_with (first | (refine ⟨trivial, ?_⟩; gi_at_call 16; refine (callsIn_wide.2 (MCK _ HI.out.fb.below)).mono ?_; rintro e w21 ⟨rfl, hb⟩; have HB21 := Aside0.mk hb; have hi21 := HI.out.next LTb.out hb; have HI21 := Aside0.mk hi21; have HK21 := Aside0.mk ((hb.block _ (Array.getElem?_eq_some_iff.1 HK2.out).1).trans HK2.out); have t1 := (blk_cell hi21.tb 0).trans (rfl : _ = some (Value.int .i64 1)); have n1 := (blk_cell hi21.nb 0).trans (rfl : _ = some (Value.int .i64 (n : Int))); have o1' := (blk_cell hi21.fb.o 1).trans (rfl : _ = some (Value.slice A ls.length c)); clear hb hi21) | (refine ⟨trivial, ?_⟩))
        skip
        have hb22 := below_alloc (Below.refl w21.heap.size w21) (Obj.cells #[Value.int .i64 2] 3)
        have hfb22 := HI21.out.fb.next hb22
        have htb22 := blk_new w21 (Obj.cells #[Value.int .i64 2] 3)
        have hk1 := (hb22.block _ (Array.getElem?_eq_some_iff.1 HI21.out.kp).1).trans HI21.out.kp
        have hk2 := (hb22.block _ (Array.getElem?_eq_some_iff.1 HK21.out).1).trans HK21.out
        generalize w21.alloc (Obj.cells #[Value.int .i64 2] 3) = w22 at hb22 hfb22 htb22 hk1 hk2 ⊢
        generalize w21.heap.size = gtc at htb22 hb22 ⊢
        have t2 := (blk_cell htb22 0).trans (rfl : _ = some (Value.int .i64 2))
        have r2 := (blk_cell hfb22.rs 0).trans (rfl : _ = some (Value.bool false))
        have rf := blk_frozen hfb22.rs 0
        have HFB22 := Aside0.mk hfb22
        have HK1 := Aside0.mk hk1
        have HK22 := Aside0.mk hk2
        clear hb22 hfb22 htb22 hk1 hk2
        rw [roundsIn_succ]
        gi_wp2
        obtain ⟨e1, e2, e3, e4⟩ := two_taken (w := W) HFB22.out.below HFB22.out.bg HZD.out (Nat.le_trans LTb.out.z1 HD2.out) HK1.out HK22.out (Nat.ne_of_lt (Nat.lt_of_lt_of_le LTb.out.dd HD2.out)) HFB22.out.rs
        refine ⟨by simp, .inl ⟨_, _, rfl, run_takeDeferred e1, ⟨by simp, .inl ⟨_, _, rfl, run_takeDeferred e2, ?_⟩⟩⟩⟩
        exact ⟨_, res4 rfl e4, rfl, e3⟩
      | true =>
        have MCK := MC.out
        rw [hck] at MCK
        have HN : n = ls.length := by
          have := HS.out
          simpa [lastA, hck] using this
        subst HN
        have hne : decide ((ls.length : Int) = (ls.length : Int)) = true := decide_eq_true rfl
        gi_wp2_with (first | (refine ⟨trivial, ?_⟩; gi_at_call 16; refine (callsIn_wide.2 (MCK _ HI.out.fb.below)).mono ?_; rintro e w21 ⟨rfl, hb⟩; have HB21 := Aside0.mk hb; have hi21 := HI.out.next LTb.out hb; have HI21 := Aside0.mk hi21; have HK21 := Aside0.mk ((hb.block _ (Array.getElem?_eq_some_iff.1 HK2.out).1).trans HK2.out); have t1 := (blk_cell hi21.tb 0).trans (rfl : _ = some (Value.int .i64 1)); have n1 := (blk_cell hi21.nb 0).trans (rfl : _ = some (Value.int .i64 (ls.length : Int))); have o1' := (blk_cell hi21.fb.o 1).trans (rfl : _ = some (Value.slice A ls.length c)); clear hb hi21) | (refine ⟨trivial, ?_⟩))
        skip
        have hb22 := below_alloc (Below.refl w21.heap.size w21) (Obj.cells #[Value.int .i64 2] 3)
        have hfb22 := HI21.out.fb.next hb22
        have htb22 := blk_new w21 (Obj.cells #[Value.int .i64 2] 3)
        have hk1 := (hb22.block _ (Array.getElem?_eq_some_iff.1 HI21.out.kp).1).trans HI21.out.kp
        have hk2 := (hb22.block _ (Array.getElem?_eq_some_iff.1 HK21.out).1).trans HK21.out
        generalize w21.alloc (Obj.cells #[Value.int .i64 2] 3) = w22 at hb22 hfb22 htb22 hk1 hk2 ⊢
        generalize w21.heap.size = gtc at htb22 hb22 ⊢
        have t2 := (blk_cell htb22 0).trans (rfl : _ = some (Value.int .i64 2))
        have r2 := (blk_cell hfb22.rs 0).trans (rfl : _ = some (Value.bool false))
        have rf := blk_frozen hfb22.rs 0
        have HFB22 := Aside0.mk hfb22
        have HK1 := Aside0.mk hk1
        have HK22 := Aside0.mk hk2
        clear hb22 hfb22 htb22 hk1 hk2
        rw [roundsIn_succ]
        gi_wp2
        obtain ⟨e1, e2, e3, e4⟩ := two_taken (w := W) HFB22.out.below HFB22.out.bg HZD.out (Nat.le_trans LTb.out.z1 HD2.out) HK1.out HK22.out (Nat.ne_of_lt (Nat.lt_of_lt_of_le LTb.out.dd HD2.out)) HFB22.out.rs
        refine ⟨by simp, .inl ⟨_, _, rfl, run_takeDeferred e1, ⟨by simp, .inl ⟨_, _, rfl, run_takeDeferred e2, ?_⟩⟩⟩⟩
        exact ⟨_, res4 rfl e4, rfl, e3⟩
  case done =>
    rintro D n W10 hD hS hi hK
    clear hS
    have t0 := (blk_cell hi.tb 0).trans (rfl : _ = some (Value.int .i64 0))
    have hfb9 := hi.fb.next (below_alloc (Below.refl W10.heap.size W10) (Obj.cells #[Value.int .i64 1] 3))
    have HFBb := Aside0.mk hfb9
    have HTBb := Aside0.mk (blk_new W10 (Obj.cells #[Value.int .i64 1] 3))
    have HKB := Aside0.mk (((below_alloc (Below.refl W10.heap.size W10) (Obj.cells #[Value.int .i64 1] 3)).block _ (Array.getElem?_eq_some_iff.1 hK).1).trans hK)
    have HZD := Aside0.mk (Nat.le_trans H8.out.fb.below.size hD)
    clear hi hK hD hfb9
    gi_wp2
    refine ⟨trivial, ?_⟩
    gi_wp2
    generalize W10.alloc (Obj.cells #[Value.int .i64 1] 3) = w7b at HFBb HTBb HKB ⊢
    generalize W10.heap.size = gtb at HTBb ⊢
    have t0 := (blk_cell HTBb.out 0).trans (rfl : _ = some (Value.int .i64 1))
    rw [roundsIn_succ]
    gi_wp2
    have hn := blk_new w7b (Obj.cells #[Value.int .i64 0] 3)
    have hb8 := below_alloc (Below.refl w7b.heap.size w7b) (Obj.cells #[Value.int .i64 0] 3)
    have hz8 : (w7b.alloc (Obj.cells #[Value.int .i64 0] 3)).heap.size = w7b.heap.size + 1 := by simp
    have hfb8 := HFBb.out.next hb8
    have htb8 := blk_below HTBb.out hb8
    have hkp8 := (hb8.block _ (Array.getElem?_eq_some_iff.1 HKB.out).1).trans HKB.out
    have hlts : go < w7b.heap.size ∧ gs < w7b.heap.size ∧ gr < w7b.heap.size ∧ gc < w7b.heap.size ∧ gtb < w7b.heap.size ∧ D < w7b.heap.size ∧ W.heap.size ≤ w7b.heap.size := ⟨blk_lt HFBb.out.o, blk_lt HFBb.out.st, blk_lt HFBb.out.rs, blk_lt HFBb.out.cl, blk_lt HTBb.out, (Array.getElem?_eq_some_iff.1 HKB.out).1, HFBb.out.below.size⟩
    generalize w7b.alloc (Obj.cells #[Value.int .i64 0] 3) = w8b at hn hb8 hz8 hfb8 htb8 hkp8 ⊢
    have L : Lts w8b.heap.size W.heap.size go gs gr gc gtb w7b.heap.size D := by
      obtain ⟨l1, l2, l3, l4, l5, l6, l7⟩ := hlts
      constructor <;> omega
    have h8 : FI W w8b w8b.heap.size go gs gr gc gtb w7b.heap.size D (.deferred (some [])) s (.slice A ls.length c) stop 1 0 := ⟨hfb8, htb8, hn, hkp8, Nat.le_refl _⟩
    have LTb := Aside0.mk L
    have H8b := Aside0.mk h8
    generalize w7b.heap.size = gnb at LTb H8b ⊢
    clear L h8 hn hb8 hz8 hfb8 htb8 hkp8 hlts
    refine RX.wpIn_rangeX_box (β := Nat) (α := S31) (n := 3) rfl (by decide) (gf := 41) (lb := #[.pointer (some ⟨gc, 0, none⟩)]) rfl trivial (enters_of Tryd.func41 (by kernel_rfl) rfl) (encA s) (fun _ => rfl) (fun n x => chkB s ls = true ∧ ∃ h : n < ls.length, x = ls[n]) (fun n _ => n + 1) (fun n => n = lastA s ls) 0 (fun _ _ => False) (Kp := RX.KC w8b.heap.size) RX.KC.trans RX.KC.putObj (fun n W' => FI W W' w8b.heap.size go gs gr gc gtb gnb D (.deferred (some [])) s (.slice A ls.length c) stop 1 n) (fun _ _ => False) (FI.own LTb.out) (fun _ _ _ _ hs _ _ => hs) H8b.out (fun x => Obj.cells #[.int .i64 x.f0, .int .i64 x.f1, .int .i64 x.f2] 31) (fun _ => rfl) (updA s) ?iterb ?assignb ?bodyb ?doneb ?stopb (fun _ _ _ _ h _ => h.elim)
    case iterb =>
      intro l J Jx hJ hY W9 hi hj
      refine (iter_in w8b.heap.size 1 l gc s A c ls W HG.out HSZ.out HR.out HCL.out (by have := HL.out; omega) (fun n W' => FI W W' w8b.heap.size go gs gr gc gtb gnb D (.deferred (some [])) s (.slice A ls.length c) stop 1 n) J Jx (fun n W' h => ⟨h.fb.below, h.fb.cl, h.sz⟩) (fun n W1 W2 h hb => h.next LTb.out hb) (fun W1 W2 h hb => hJ W1 W2 h (RX.keeps_below hb)) (fun n W' h hck hi hj => (hY n ls[n] W' hi hj ⟨hck, h, rfl⟩).mono (fun e w hR => ?_)) W9 hi hj).mono ?_
      · rcases hR with hR | ⟨h1, _, h2⟩
        · exact Or.inl hR
        · exact Or.inr ⟨h1, h2⟩
      · rintro e W' ⟨v, rfl, h | h⟩
        · exact Or.inl ⟨v, rfl, Or.inl ⟨_, rfl, h.1, h.2⟩⟩
        · exact Or.inl ⟨v, rfl, Or.inr h⟩
    case assignb =>
      intro l n x W9 K hi hn hK
      have hb := below_alloc (Below.refl W9.heap.size W9) (Obj.cells #[Value.int .i64 x.f0, Value.int .i64 x.f1, Value.int .i64 x.f2] 31)
      have hK2 := Aside0.mk (hK _ _ W9.heap.size (RX.keeps_below hb) (RX.KC.below hb) (hi.next LTb.out hb) hi.sz (blk_new W9 _) rfl)
      clear hK hi hn hb
      simp only [encA]
      gi_wp2
      have hk := hK2.out
      simp only [updA, List.setIfInBounds_toArray, List.set_cons_zero, List.set_cons_succ] at hk
      exact hk
    case bodyb =>
      rintro l n x gx W9 hl hi ⟨hck, hlt, hxe⟩ hgx hx
      have MCK := MC.out
      rw [hck] at MCK
      have MC2 := Aside0.mk MCK
      have hltI : (n : Int) < (ls.length : Int) := Int.ofNat_lt.2 hlt
      have hltN : n < ls.length := hlt
      have hge : decide ((ls.length : Int) ≤ (n : Int)) = false := decide_eq_false (by omega)
      have hge2 : ¬ ((ls.length : Int) ≤ (n : Int)) := by omega
      obtain ⟨ad, ea, c0, c1, c2⟩ := at_T31 HR.out (n : Int) (Int.natCast_nonneg n) hltI
      rw [rd31 ls n hlt, Int.toNat_natCast, ← hxe] at c0 c1 c2
      subst ea
      have hsp := span_in (chk_span hck ls[n] (List.getElem_mem hlt))
      rw [← hxe] at hsp
      obtain ⟨_, _, p1, p2, p3⟩ := hsp
      obtain ⟨f1a, f1b⟩ := placeB_in p1
      obtain ⟨f2a, f2b⟩ := placeB_in p2
      have f12 : x.f1 ≤ x.f2 := Int.le_of_lt p3
      have HI := Aside0.mk hi
      have HX := Aside0.mk hx
      have o0 := (blk_cell hi.fb.o 0).trans (rfl : _ = some (Value.string s))
      have o1 := (blk_cell hi.fb.o 1).trans (rfl : _ = some (Value.slice (some ad) ls.length c))
      clear hl hi hck hlt hxe hgx hx p1 p2 p3 MCK
      simp only [updA, subS, List.setIfInBounds_toArray, List.set_cons_zero, List.set_cons_succ]
      gi_wp2
      have n0 := (blk_cell HI.out.nb 0).trans (rfl : _ = some (Value.int .i64 (n : Int)))
      have x0 := (blk_cell HX.out 0).trans (rfl : _ = some (Value.int .i64 x.f0))
      have x1 := (blk_cell HX.out 1).trans (rfl : _ = some (Value.int .i64 x.f1))
      have x2 := (blk_cell HX.out 2).trans (rfl : _ = some (Value.int .i64 x.f2))
      have qo0 := cell_regrown o0
      have qo1 := cell_regrown o1
      have qn0 := cell_regrown n0
      have qx0 := cell_regrown x0
      have qx1 := cell_regrown x1
      have qx2 := cell_regrown x2
      have qd0 := cell_regrown ((HI.out.fb.below.cell (World.block_lt_of_cell? W _ c0)).trans c0)
      have qd1 := cell_regrown ((HI.out.fb.below.cell (World.block_lt_of_cell? W _ c1)).trans c1)
      have qd2 := cell_regrown ((HI.out.fb.below.cell (World.block_lt_of_cell? W _ c2)).trans c2)
      have MCQ : ∀ d os, CallsIn (Fence.wide.inRound l) 0 Tryd.prog 16 #[.agg #[.string s, .slice (some ad) ls.length c]] (Go.Sort.grow (redrawn W9 d) os) fun e w'' => e = .returned (.bool true) ∧ ∃ p : Regrown, w'' = Go.Sort.grow (redrawn W9 p.d) p.os := fun d os => CallsIn.regrown_of (CallsIn.inRound l (callsIn_wide.2 (MC2.out _ (below_step HI.out.fb.below (below_regrown W9 d os)))))
      clear o0 o1 n0 x0 x1 x2 c0 c1 c2
      refine RX.wpIn_region_below (by assumption) (by kernel_rfl) (by kernel_rfl) ?_
      repeat (refine wpQuietIn_step (fun _ _ _ _ => trivial) (fun K hK => ?_); go_simp; first | (refine hK _ ?_; clear hK K) | (apply Exists.intro; refine ⟨fun _ => ?_, hK _ ?_⟩; (first | exact ⟨by intro h; cases h, MCQ _ _⟩ | exact MCQ _ _); clear hK K))
      refine wpQuietIn_nil ?_
      intro w10 hb10
      have hi10 := HI.out.next LTb.out hb10
      have HI10 := Aside0.mk hi10
      have HB10 := Aside0.mk hb10
      have n0 := (blk_cell hi10.nb 0).trans (rfl : _ = some (Value.int .i64 (n : Int)))
      have nf := blk_frozen hi10.nb 0
      have t0 := (blk_cell hi10.tb 0).trans (rfl : _ = some (Value.int .i64 1))
      have s0 := (blk_cell hi10.fb.st 0).trans (rfl : _ = some (Value.int .i64 stop))
      have ngs := LTb.out.n2
      have ngt := LTb.out.n5
      have nn0 : (0 : Int) ≤ (n : Int) := Int.natCast_nonneg n
      have nn1 : (n : Int) ≤ 400000 := by have := HL.out; omega
      clear hb10 hi10 qo0 qo1 qn0 qx0 qx1 qx2 qd0 qd1 qd2 MCQ hltN
      have hfin : ∀ W11, W11 = w10.setCell ⟨gnb, 0, none⟩ (.int .i64 ((n + 1 : Nat) : Int)) → KeepsFrom w8b.heap.size W9 W11 ∧ RX.KC w8b.heap.size W9 W11 ∧ FI W W11 w8b.heap.size go gs gr gc gtb gnb D (.deferred (some [])) s (.slice (some ad) ls.length c) stop 1 (n + 1) := by
        rintro _ rfl
        exact ⟨(RX.keeps_below HB10.out).trans ((KeepsOthers.setCell _ _ _).from _), (RX.KC.below HB10.out).trans (RX.KC.setCell _ _ _ LTb.out.nb), HI10.out.count LTb.out (n + 1)⟩
      have HFIN := Aside0.mk hfin
      clear hfin
      gi_wp2
      exact HFIN.out _ rfl
    case stopb => exact fun _ _ _ _ h _ => h.elim
    case doneb =>
      rintro D2 n W20 hD2 hS hi hK2
      have t0 := (blk_cell hi.tb 0).trans (rfl : _ = some (Value.int .i64 1))
      have o0 := (blk_cell hi.fb.o 0).trans (rfl : _ = some (Value.string s))
      have o1 := (blk_cell hi.fb.o 1).trans (rfl : _ = some (Value.slice A ls.length c))
      have HI := Aside0.mk hi
      have HK2 := Aside0.mk hK2
      have HD2 := Aside0.mk hD2
      have HS := Aside0.mk hS
      clear hi hK2 hD2 hS
      cases hck : chkB s ls with
      | false =>
        have MCK := MC.out
        rw [hck] at MCK
        gi_wp2_with (first | (refine ⟨trivial, ?_⟩; gi_at_call 16; refine (callsIn_wide.2 (MCK _ HI.out.fb.below)).mono ?_; rintro e w21 ⟨rfl, hb⟩; have HB21 := Aside0.mk hb; have hi21 := HI.out.next LTb.out hb; have HI21 := Aside0.mk hi21; have HK21 := Aside0.mk ((hb.block _ (Array.getElem?_eq_some_iff.1 HK2.out).1).trans HK2.out); have t1 := (blk_cell hi21.tb 0).trans (rfl : _ = some (Value.int .i64 1)); have n1 := (blk_cell hi21.nb 0).trans (rfl : _ = some (Value.int .i64 (n : Int))); have o1' := (blk_cell hi21.fb.o 1).trans (rfl : _ = some (Value.slice A ls.length c)); clear hb hi21) | (refine ⟨trivial, ?_⟩))
        skip
        have hb22 := below_alloc (Below.refl w21.heap.size w21) (Obj.cells #[Value.int .i64 2] 3)
        have hfb22 := HI21.out.fb.next hb22
        have htb22 := blk_new w21 (Obj.cells #[Value.int .i64 2] 3)
        have hk1 := (hb22.block _ (Array.getElem?_eq_some_iff.1 HI21.out.kp).1).trans HI21.out.kp
        have hk2 := (hb22.block _ (Array.getElem?_eq_some_iff.1 HK21.out).1).trans HK21.out
        generalize w21.alloc (Obj.cells #[Value.int .i64 2] 3) = w22 at hb22 hfb22 htb22 hk1 hk2 ⊢
        generalize w21.heap.size = gtc at htb22 hb22 ⊢
        have t2 := (blk_cell htb22 0).trans (rfl : _ = some (Value.int .i64 2))
        have r2 := (blk_cell hfb22.rs 0).trans (rfl : _ = some (Value.bool false))
        have rf := blk_frozen hfb22.rs 0
        have HFB22 := Aside0.mk hfb22
        have HK1 := Aside0.mk hk1
        have HK22 := Aside0.mk hk2
        clear hb22 hfb22 htb22 hk1 hk2
        rw [roundsIn_succ]
        gi_wp2
        obtain ⟨e1, e2, e3, e4⟩ := two_taken (w := W) HFB22.out.below HFB22.out.bg HZD.out (Nat.le_trans LTb.out.z1 HD2.out) HK1.out HK22.out (Nat.ne_of_lt (Nat.lt_of_lt_of_le LTb.out.dd HD2.out)) HFB22.out.rs
        refine ⟨by simp, .inl ⟨_, _, rfl, run_takeDeferred e1, ⟨by simp, .inl ⟨_, _, rfl, run_takeDeferred e2, ?_⟩⟩⟩⟩
        exact ⟨_, res4 rfl e4, rfl, e3⟩
      | true =>
        have MCK := MC.out
        rw [hck] at MCK
        have HN : n = ls.length := by
          have := HS.out
          simpa [lastA, hck] using this
        subst HN
        have hne : decide ((ls.length : Int) = (ls.length : Int)) = true := decide_eq_true rfl
        gi_wp2_with (first | (refine ⟨trivial, ?_⟩; gi_at_call 16; refine (callsIn_wide.2 (MCK _ HI.out.fb.below)).mono ?_; rintro e w21 ⟨rfl, hb⟩; have HB21 := Aside0.mk hb; have hi21 := HI.out.next LTb.out hb; have HI21 := Aside0.mk hi21; have HK21 := Aside0.mk ((hb.block _ (Array.getElem?_eq_some_iff.1 HK2.out).1).trans HK2.out); have t1 := (blk_cell hi21.tb 0).trans (rfl : _ = some (Value.int .i64 1)); have n1 := (blk_cell hi21.nb 0).trans (rfl : _ = some (Value.int .i64 (ls.length : Int))); have o1' := (blk_cell hi21.fb.o 1).trans (rfl : _ = some (Value.slice A ls.length c)); clear hb hi21) | (refine ⟨trivial, ?_⟩))
        skip
        have hb22 := below_alloc (Below.refl w21.heap.size w21) (Obj.cells #[Value.int .i64 2] 3)
        have hfb22 := HI21.out.fb.next hb22
        have htb22 := blk_new w21 (Obj.cells #[Value.int .i64 2] 3)
        have hk1 := (hb22.block _ (Array.getElem?_eq_some_iff.1 HI21.out.kp).1).trans HI21.out.kp
        have hk2 := (hb22.block _ (Array.getElem?_eq_some_iff.1 HK21.out).1).trans HK21.out
        generalize w21.alloc (Obj.cells #[Value.int .i64 2] 3) = w22 at hb22 hfb22 htb22 hk1 hk2 ⊢
        generalize w21.heap.size = gtc at htb22 hb22 ⊢
        have t2 := (blk_cell htb22 0).trans (rfl : _ = some (Value.int .i64 2))
        have r2 := (blk_cell hfb22.rs 0).trans (rfl : _ = some (Value.bool false))
        have rf := blk_frozen hfb22.rs 0
        have HFB22 := Aside0.mk hfb22
        have HK1 := Aside0.mk hk1
        have HK22 := Aside0.mk hk2
        clear hb22 hfb22 htb22 hk1 hk2
        rw [roundsIn_succ]
        gi_wp2
        obtain ⟨e1, e2, e3, e4⟩ := two_taken (w := W) HFB22.out.below HFB22.out.bg HZD.out (Nat.le_trans LTb.out.z1 HD2.out) HK1.out HK22.out (Nat.ne_of_lt (Nat.lt_of_lt_of_le LTb.out.dd HD2.out)) HFB22.out.rs
        refine ⟨by simp, .inl ⟨_, _, rfl, run_takeDeferred e1, ⟨by simp, .inl ⟨_, _, rfl, run_takeDeferred e2, ?_⟩⟩⟩⟩
        exact ⟨_, res4 rfl e4, rfl, e3⟩
end Go.Proofs.YtffldajbnhbkkaaDoor.Q

namespace Go.Proofs.YtffldajbnhbkkaaDoor.Q
open Go.RowKit Go.Proofs.YtffldajbnhbkkaaDoorW.PrintWords Go.Proofs.YtffldajbnhbkkaaDoorW.PrintLast Go.Proofs.YtffldajbnhbkkaaDoorW.PrintMore
set_option linter.unusedVariables false
set_option linter.unusedSimpArgs false
theorem leaves_row (W : World) (hG : Gd W) (s : ByteArray) (A : Option Addr) (c : Nat) (l : List S31) (a : Int) (hC : Kd.C k31 W A l.length l) (hc : l.length ≤ c) (hb : s.size + 3 * l.length ≤ 1048576) :
    Calls Tryd.prog 7 #[.agg #[.string s, .slice A l.length c], .int .i64 a] W fun e w' => e = .returned (.bool true) ∧ Below W.heap.size W w' :=
  leaves_law s A c l a W hG (by omega) hC hc (by omega)
end Go.Proofs.YtffldajbnhbkkaaDoor.Q
