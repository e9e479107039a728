import Derived.Test.YtfgjfkocbennnaaDoorPlain
import Derived.Test.YtfgjfkocbennnaaDoorOwnB
import Derived.RegionTactic
import Derived.BigRegion
import Derived.ChangeAlike
import Derived.Deep.RegionHeld3
import Derived.Outline
import Derived.StillTailTactics
namespace Go.Proofs.YtfgjfkocbennnaaDoor.Q
open Go.RowKit Go.Proofs.YtfgjfkocbennnaaDoorW.PrintWords Go.Proofs.YtfgjfkocbennnaaDoorW.PrintMore Go.Proofs.YtfgjfkocbennnaaDoor.OB
set_option linter.unusedVariables false
set_option linter.unusedSimpArgs false

def cells25 (r1 : ByteArray) (r2 r3 : Int) (r4 r5 : ByteArray) (r6 : Int) : Array Value := #[.string r1, .int .i64 r2, .int .i64 r3, .string r4, .string r5, .int .i64 r6]
attribute [local irreducible] Go.wpStill
theorem put25 {W : World} {g : Nat} {x0 x1 x2 x3 x4 x5 : Value} (h : W.heap[g]? = some (.cells #[x0, x1, x2, x3, x4, x5] 25 (0, 0))) (y0 y1 y2 y3 y4 y5 : Value) :
    ((((((W.setCell ⟨g, 0, none⟩ y0).setCell ⟨g, 1, none⟩ y1).setCell ⟨g, 2, none⟩ y2).setCell ⟨g, 3, none⟩ y3).setCell ⟨g, 4, none⟩ y4).setCell ⟨g, 5, none⟩ y5).heap[g]? = some (.cells #[y0, y1, y2, y3, y4, y5] 25 (0, 0)) :=
  blk_put (blk_put (blk_put (blk_put (blk_put (blk_put h 0 _ rfl) 1 _ rfl) 2 _ rfl) 3 _ rfl) 4 _ rfl) 5 _ rfl
theorem below6 {w W : World} {g : Nat} (hg : w.heap.size ≤ g) {y0 y1 y2 y3 y4 y5 : Value} (h : Below w.heap.size w W) :
    Below w.heap.size w ((((((W.setCell ⟨g, 0, none⟩ y0).setCell ⟨g, 1, none⟩ y1).setCell ⟨g, 2, none⟩ y2).setCell ⟨g, 3, none⟩ y3).setCell ⟨g, 4, none⟩ y4).setCell ⟨g, 5, none⟩ y5) :=
  below_set (below_set (below_set (below_set (below_set (below_set h hg) hg) hg) hg) hg) hg
def quipuref08_Of.f (c : Int) (n : Bool) (a b : ByteArray) (e : Int) (p : Bool) : Option Ops :=
  if a.size ≤ 140737488355328 then (if b.size ≤ 140737488355328 then some (ofP c n a b e p) else none) else none
theorem ofP_bad {c : Int} {n : Bool} {a b : ByteArray} {e : Int} {p : Bool} (h : ¬ (mayR c n a b e = true ∧ c = 0 ∧ ¬ (p = true ∧ e < 0))) : ofP c n a b e p = badOps := if_neg h
theorem badOps_eq {r1 : ByteArray} {r2 r3 : Int} {r4 r5 : ByteArray} {r6 r7 : Int} (h : badOps = (r1, r2, r3, r4, r5, r6, r7)) : r1 = ⟨#[]⟩ ∧ r2 = 0 ∧ r3 = 0 ∧ r4 = ⟨#[]⟩ ∧ r5 = ⟨#[]⟩ ∧ r6 = 0 ∧ r7 = 80 := by
  simp only [badOps, Prod.mk.injEq] at h
  obtain ⟨h1, h2, h3, h4, h5, h6, h7⟩ := h
  exact ⟨h1.symm, h2.symm, h3.symm, h4.symm, h5.symm, h6.symm, h7.symm⟩
abbrev RefPost (w : World) (o : Ops) (e : Ending) (w' : World) : Prop := e = .returned (.tuple #[.agg #[.string o.1, .int .i64 o.2.1, .int .i64 o.2.2.1, .string o.2.2.2.1, .string o.2.2.2.2.1, .int .i64 o.2.2.2.2.2.1], .int .i64 o.2.2.2.2.2.2]) ∧ Below w.heap.size w w'
set_option maxHeartbeats 2000000 in
set_option maxRecDepth 100000 in
theorem refOf_bad (c : Int) (n : Bool) (a b : ByteArray) (e : Int) (p : Bool) (w : World) (ha : a.size ≤ 140737488355328) (hb : b.size ≤ 140737488355328) (hbad : ¬ (mayR c n a b e = true ∧ c = 0 ∧ ¬ (p = true ∧ e < 0))) :
    Calls Tryd.prog 8 #[.agg #[.int .i64 c, .bool n, .string a, .string b, .int .i64 e, .bool p]] w (RefPost w badOps) := by
  have hu23 := Tryd.underlying23
  have hu25 := Tryd.underlying25
  obtain ⟨K, hK⟩ := May_p c n a b e p ha hb
  have HK := Aside0.mk (hK K (Nat.le_refl _))
  clear hK
  go_enter Tryd.func8, Tryd.ntmps8
  go_wp2_with fail
  refine (quipuref07_May.calls K c n a b e p _ _ HK.out).mono ?_
  rintro e' w1 ⟨rfl, hb1⟩
  have BK0 : Aside0 (w1.heap[w.heap.size]? = some (.cells #[.int .i64 c, .bool n, .string a, .string b, .int .i64 e, .bool p] 23 (0, 0))) := ⟨by rw [hb1.block _ (by simp; omega)]; exact blk_alloc (blk_new w _) _⟩
  have BK1 : Aside0 (w1.heap[w.heap.size + 1]? = some (.cells #[.string ⟨#[]⟩, .int .i64 0, .int .i64 0, .string ⟨#[]⟩, .string ⟨#[]⟩, .int .i64 0] 25 (0, 0))) := ⟨by rw [hb1.block _ (by simp)]; simpa using blk_new (w.alloc (.cells #[.int .i64 c, .bool n, .string a, .string b, .int .i64 e, .bool p] 23)) (.cells #[.string ⟨#[]⟩, .int .i64 0, .int .i64 0, .string ⟨#[]⟩, .string ⟨#[]⟩, .int .i64 0] 25)⟩
  have HB : Aside0 (Below w.heap.size w w1) := ⟨below_step (below_alloc (below_alloc (Below.refl _ _) _) _) hb1⟩
  clear hb1
  have z0 : w1.cell? ⟨w.heap.size, 0, none⟩ = some (.int .i64 c) := (blk_cell BK0.out 0).trans rfl
  have z4 : w1.cell? ⟨w.heap.size, 4, none⟩ = some (.int .i64 e) := (blk_cell BK0.out 4).trans rfl
  have z5 : w1.cell? ⟨w.heap.size, 5, none⟩ = some (.bool p) := (blk_cell BK0.out 5).trans rfl
  have y0 : w1.cell? ⟨w.heap.size + 1, 0, none⟩ = some (.string ⟨#[]⟩) := (blk_cell BK1.out 0).trans rfl
  have y1 : w1.cell? ⟨w.heap.size + 1, 1, none⟩ = some (.int .i64 0) := (blk_cell BK1.out 1).trans rfl
  have y2 : w1.cell? ⟨w.heap.size + 1, 2, none⟩ = some (.int .i64 0) := (blk_cell BK1.out 2).trans rfl
  have y3 : w1.cell? ⟨w.heap.size + 1, 3, none⟩ = some (.string ⟨#[]⟩) := (blk_cell BK1.out 3).trans rfl
  have y4 : w1.cell? ⟨w.heap.size + 1, 4, none⟩ = some (.string ⟨#[]⟩) := (blk_cell BK1.out 4).trans rfl
  have y5 : w1.cell? ⟨w.heap.size + 1, 5, none⟩ = some (.int .i64 0) := (blk_cell BK1.out 5).trans rfl
  have f0 := blk_frozen BK1.out 0
  have f1 := blk_frozen BK1.out 1
  have f2 := blk_frozen BK1.out 2
  have f3 := blk_frozen BK1.out 3
  have f4 := blk_frozen BK1.out 4
  have f5 := blk_frozen BK1.out 5
  cases hm : mayR c n a b e with
  | false =>
    clear hm hbad
    go_wp2
    refine bodyPost_ret (results_ct rfl _ _ (w.heap.size + 1) 25 #[.string ⟨#[]⟩, .int .i64 0, .int .i64 0, .string ⟨#[]⟩, .string ⟨#[]⟩, .int .i64 0] (0, 0) _ rfl (put25 BK1.out _ _ _ _ _ _) Tryd.underlying25 rfl (by kernel_rfl)) rfl ?_
    exact ⟨rfl, below6 (by omega) HB.out⟩
  | true =>
    by_cases hc : c = 0
    · subst hc
      have h3 : p = true ∧ e < 0 := Classical.byContradiction fun h => hbad ⟨hm, rfl, h⟩
      obtain ⟨rfl, h4⟩ := h3
      have q1 : decide (e < 0) = true := decide_eq_true h4
      clear hm hbad
      go_wp2
      refine bodyPost_ret (results_ct rfl _ _ (w.heap.size + 1) 25 #[.string ⟨#[]⟩, .int .i64 0, .int .i64 0, .string ⟨#[]⟩, .string ⟨#[]⟩, .int .i64 0] (0, 0) _ rfl (put25 BK1.out _ _ _ _ _ _) Tryd.underlying25 rfl (by kernel_rfl)) rfl ?_
      exact ⟨rfl, below6 (by omega) HB.out⟩
    · have q1 : (c == 0) = false := beq_eq_false_iff_ne.2 hc
      have q2 : (c != 0) = true := bne_iff_ne.2 hc
      clear hm hbad
      go_wp2
      refine bodyPost_ret (results_ct rfl _ _ (w.heap.size + 1) 25 #[.string ⟨#[]⟩, .int .i64 0, .int .i64 0, .string ⟨#[]⟩, .string ⟨#[]⟩, .int .i64 0] (0, 0) _ rfl (put25 BK1.out _ _ _ _ _ _) Tryd.underlying25 rfl (by kernel_rfl)) rfl ?_
      exact ⟨rfl, below6 (by omega) HB.out⟩

set_option maxHeartbeats 8000000 in
set_option maxRecDepth 100000 in
theorem quipuref08_ahead.still (k : Nat) (a0 : ByteArray) (r : ByteArray) (w : World) (h : quipuref08_ahead.f k a0 = some r) :
    Calls Tryd.prog 17 #[.string a0] w fun e w' => e = .returned (.string r) ∧ w' = w := by
  have H : (quipuref08_ahead.l0 k a0) = some r := h
  clear h
  have H' := Aside0.mk H
  clear H
  go_enter Tryd.func17, Tryd.ntmps17
  go_wp2
  go_loopg [0] k (fun kq v0 w' => ∃ (x0_1 : ByteArray), v0 = .string x0_1 ∧ Aside0 (quipuref08_ahead.l0 kq x0_1 = some r) ∧ Aside0 (kq ≤ k) ∧ w' = w)
  case atStart => exact ⟨(a0), (by first | rfl | (simp; done) | (simp [*]; done)), H', ⟨Nat.le_refl _⟩, rfl⟩
  case round =>
    clear H'
    try clear c1
    obtain ⟨x0_1, rfl, HA, HK1, rfl⟩ := hrel
    cases gk with
    | zero => exact absurd HA.out (by simp [quipuref08_ahead.l0])
    | succ k1 =>
      have H := HA.out
      clear HA
      simp only [quipuref08_ahead.l0] at H
      by_cases c2 : x0_1.toList = ([] : List UInt8)
      · rw [if_pos c2] at H
        have c2b0 : (x0_1.toList == ([] : List UInt8)) = true := beq_iff_eq.mpr c2
        have c2b1 : (x0_1.toList != ([] : List UInt8)) = false := bne_eq_false_iff_eq.mpr c2
        clear c2
        obtain rfl := Option.some.inj H
        go_wp2
        go_ret
        exact ⟨by first | rfl | (simp; done) | (simp [*]; done), rfl⟩
      · rw [if_neg c2] at H
        have c2b0 : (x0_1.toList == ([] : List UInt8)) = false := beq_eq_false_iff_ne.mpr c2
        have c2b1 : (x0_1.toList != ([] : List UInt8)) = true := bne_iff_ne.mpr c2
        by_cases c3 : 0 < (x0_1.size : Int)
        · rw [if_pos c3] at H
          have c3b0 : decide (0 < (x0_1.size : Int)) = true := decide_eq_true c3
          have c3b1 : decide (0 < x0_1.size) = true := decide_eq_true (by omega)
          clear c3
          by_cases c5 : (bt x0_1 0) = 48
          · rw [if_pos c5] at H
            have c5b0 : ((bt x0_1 0) == 48) = true := beq_iff_eq.mpr c5
            have c5b1 : ((bt x0_1 0) != 48) = false := bne_eq_false_iff_eq.mpr c5
            clear c5
            by_cases c6 : 1 ≤ (x0_1.size : Int)
            · rw [if_pos c6] at H
              have c6b0 := eq_true c6
              have c6b1 : decide (1 ≤ (x0_1.size : Int)) = true := decide_eq_true c6
              clear c6
              have H' := Aside0.mk H
              clear H
              have p4 : 0 ≤ (0 : Int) := (by omega)
              have q4 : 0 < x0_1.size := (by have : (0 : Int) < (x0_1.size : Int) := of_decide_eq_true (by first | (with_reducible assumption) | assumption); omega)
              have hx4 : ∀ h : 0 < x0_1.size, ((x0_1[0]'h).toNat : Int) = bt x0_1 0 := bt_at x0_1 0
              clear p4
              have qi4 : (0 < (x0_1.size : Int)) = True := eq_true (of_decide_eq_true (by first | (with_reducible assumption) | assumption))
              replace q4 := eq_true q4
              go_wp2
              go_roundg k1
              case measure => have := HK1.out; omega
              case rel => exact ⟨(x0_1.extract 1 x0_1.size), (by first | rfl | (simp; done) | (simp [*]; done)), H', ⟨by have := HK1.out; omega⟩, rfl⟩
            · rw [if_neg c6] at H
              exact absurd H (by simp)
          · rw [if_neg c5] at H
            have c5b0 : ((bt x0_1 0) == 48) = false := beq_eq_false_iff_ne.mpr c5
            have c5b1 : ((bt x0_1 0) != 48) = true := bne_iff_ne.mpr c5
            obtain rfl := Option.some.inj H
            have p4 : 0 ≤ (0 : Int) := (by omega)
            have q4 : 0 < x0_1.size := (by have : (0 : Int) < (x0_1.size : Int) := of_decide_eq_true (by first | (with_reducible assumption) | assumption); omega)
            have hx4 : ∀ h : 0 < x0_1.size, ((x0_1[0]'h).toNat : Int) = bt x0_1 0 := bt_at x0_1 0
            clear p4
            have qi4 : (0 < (x0_1.size : Int)) = True := eq_true (of_decide_eq_true (by first | (with_reducible assumption) | assumption))
            replace q4 := eq_true q4
            go_wp2
            go_ret
            exact ⟨by first | rfl | (simp; done) | (simp [*]; done), rfl⟩
        · rw [if_neg c3] at H
          exact absurd H (by simp)
theorem bare_at (l : List UInt8) (k : Nat) (hk : k ≤ l.length) (h1 : ∀ j b, k ≤ j → l[j]? = some b → b = 48) (h2 : ∀ b, 0 < k → l[k - 1]? = some b → b ≠ 48) : bareL l = l.take k := by
  have h := Lib.trimRightS_take l [48] k hk (fun j b hj hb => by rw [Lib.contains_one, h1 j b hj hb]; rfl) (fun b hb hbb => by rw [Lib.contains_one]; exact beq_eq_false_iff_ne.2 (h2 b hb hbb))
  rw [← trimRight_48]; exact h
/-! bytes as numbers -/
def nb (l : List UInt8) : List Int := l.map fun b => (b.toNat : Int)
theorem bytesOf_nb (s : ByteArray) : bytesOf s = nb s.data.toList := rfl
theorem nb_len (l : List UInt8) : (nb l).length = l.length := List.length_map _
theorem nb_app (a b : List UInt8) : nb (a ++ b) = nb a ++ nb b := List.map_append
theorem str_nb (l : List UInt8) : strOfNums (nb l) = mkS l := by
  unfold strOfNums nb mkS
  congr 1
  rw [List.map_map]
  congr 1
  refine (List.map_congr_left (g := id) fun b _ => ?_).trans (List.map_id l)
  simp
theorem whole_len (a b : List UInt8) (i : Nat) : (wholeL a b i).length ≤ a.length + b.length + i := by
  unfold wholeL; simp only [List.length_append, List.length_take, List.length_replicate]; omega
theorem whole_take (a b : List UInt8) (i : Nat) (h : i < b.length) : wholeL a b (i + 1) = wholeL a b i ++ [b[i]] := by
  unfold wholeL
  rw [Nat.sub_eq_zero_of_le (by omega), Nat.sub_eq_zero_of_le (by omega), List.take_succ_eq_append_getElem h]
  simp
theorem whole_nought (a b : List UInt8) (i : Nat) (h : ¬ i < b.length) : wholeL a b (i + 1) = wholeL a b i ++ [48] := by
  unfold wholeL
  rw [List.take_of_length_le (by omega), List.take_of_length_le (by omega), Nat.succ_sub (by omega), List.replicate_succ']
  simp
theorem info5 : (Tryd.prog.info? 5).map (fun i => (i.zero, i.size, i.bytes)) = some (some (.int .u8 0), 1, 1) := by kernel_rfl
theorem wS (i : Nat) (h : i < 100000) : wrap64 ((i : Int) + 1) = ((i : Int) + 1) := by unfold wrap64; omega
theorem wS2 (i : Nat) (h : i < 100000) : IntKind.i64.wrap ((i : Int) + 1) = ((i : Int) + 1) := IntWalk.i64_in _ (by omega)
theorem cut5 (A : Option Addr) (n c : Nat) (h : 1 ≤ n) : ∃ A' : Option Addr, (∀ W : World, (Instr.slice 40 (.slice A n c) (some (.int .i64 1)) none none).run Tryd.prog W = .ok (.slice A' (n - 1) (c - 1)) W) ∧
      ∀ (w : World) (k : IntKind) (xs : List Int), n ≤ c → ReadsInt w k A n xs → ReadsInt w k A' (n - 1) (xs.drop 1) := by
  obtain ⟨i0, hi0, hi2, hi1, hi3⟩ := info_parts info5
  exact print_cut (P := Tryd.prog) 40 5 .i64 Tryd.underlying40 hi0 hi1 A n c 1 h
theorem rd_nb (l : List UInt8) (k : Nat) (h : k < l.length) : rd (nb l) (k : Int) = ((l[k].toNat : Nat) : Int) := by
  unfold rd nb
  rw [Int.toNat_natCast, List.getD_eq_getElem?_getD, List.getElem?_map, List.getElem?_eq_getElem h]; rfl
theorem nb_take (l : List UInt8) (k : Nat) : (nb l).take k = nb (l.take k) := by unfold nb; rw [List.map_take]
theorem wD (k : Nat) (h : k < 100000) : wrap64 (((k + 1 : Nat) : Int) - 1) = (k : Int) := by unfold wrap64; omega
theorem wD2 (k : Nat) (h : k < 100000) : IntKind.i64.wrap (((k + 1 : Nat) : Int) - 1) = (k : Int) := by rw [IntWalk.i64_in _ (by omega)]; omega
theorem wD3 (k : Nat) (h : k < 100000) : wrap64 ((k : Int) + 1 - 1) = (k : Int) := by unfold wrap64; omega
theorem wD4 (k : Nat) (h : k < 100000) : IntKind.i64.wrap ((k : Int) + 1 - 1) = (k : Int) := by rw [IntWalk.i64_in _ (by omega)]; omega
theorem ahead_str (l : List UInt8) (w : World) : Calls Tryd.prog 17 #[.string (mkS l)] w fun e w' => e = .returned (.string (mkS (aheadL l))) ∧ w' = w :=
  quipuref08_ahead.still (l.length + 1) (mkS l) (mkS (aheadL l)) w (by have := ahead_p l.length (mkS l) (l.length + 1) (mkS_size l) (by omega); rw [mkS_data] at this; exact this)
theorem conv_own {w : World} {base : Nat} {v : Value} {l : List UInt8} (h : OwnB w base 5 v (nb l)) : (convert 40 9 v).run Tryd.prog w = .ok (.string (mkS l)) w := by
  obtain ⟨g, cap, rfl, _⟩ := h.slice
  rw [← str_nb]
  exact string_of_reads Tryd.underlying40 Tryd.underlying5 Tryd.underlying9 h.reads.2
theorem conv_reads {w : World} {A : Option Addr} {n c : Nat} {l : List UInt8} (h : ReadsInt w .u8 A n (nb l)) : (convert 40 9 (.slice A n c)).run Tryd.prog w = .ok (.string (mkS l)) w := by
  rw [← str_nb]
  exact string_of_reads Tryd.underlying40 Tryd.underlying5 Tryd.underlying9 h
theorem cut5to (A : Option Addr) (n c k : Nat) (hk : k ≤ n) (hc : n ≤ c) : ∀ W : World, (Instr.slice 40 (.slice A n c) none (some (.int .i64 (k : Int))) none).run Tryd.prog W = .ok (.slice A k c) W := by
  obtain ⟨i0, hi0, hi2, hi1, hi3⟩ := info_parts info5
  have := cut_to (P := Tryd.prog) 40 5 .i64 Tryd.underlying40 hi0 A n c (k : Int) (by omega) (by omega) hc
  rwa [Int.toNat_natCast] at this
theorem okOps_fin {la lb L : List UInt8} {i n5 k : Nat} (hL : L = lb.drop i) (h5 : n5 = L.length) (hb : bareL L = L.take k) (hk : k ≤ n5) :
    okOps la lb i = (mkS (aheadL (wholeL la lb i)), (n5 : Int), (k : Int), mkS (aheadL L), mkS (aheadL (L.take k)), (i : Int), 0) := by
  unfold okOps
  rw [← hL, hb, h5, List.length_take, Nat.min_eq_left (by omega)]
theorem two_made (w1 : World) (x y : ByteArray) (base : Nat) (hb : base ≤ w1.heap.size) (hx : x.size ≤ maxLen) (hy : y.size ≤ maxLen) :
    OwnB (Lib.bytesWorld (Lib.bytesWorld w1.drew 5 x) 5 y) base 5 (.slice (some ⟨w1.heap.size, 0, none⟩) x.size (grownCap w1.drew x.size 0 5)) (bytesOf x) ∧
    OwnB (Lib.bytesWorld (Lib.bytesWorld w1.drew 5 x) 5 y) base 5 (.slice (some ⟨(Lib.bytesWorld w1.drew 5 x).heap.size, 0, none⟩) y.size (grownCap (Lib.bytesWorld w1.drew 5 x) y.size 0 5)) (bytesOf y) ∧
    (Value.slice (some ⟨w1.heap.size, 0, none⟩) x.size (grownCap w1.drew x.size 0 5)).ownBlock ≠ (Value.slice (some ⟨(Lib.bytesWorld w1.drew 5 x).heap.size, 0, none⟩) y.size (grownCap (Lib.bytesWorld w1.drew 5 x) y.size 0 5)).ownBlock ∧
    (∀ k, k < w1.heap.size → (Lib.bytesWorld (Lib.bytesWorld w1.drew 5 x) 5 y).heap[k]? = w1.heap[k]?) ∧ Below w1.heap.size w1 (Lib.bytesWorld (Lib.bytesWorld w1.drew 5 x) 5 y) := by
  have hz : (Lib.bytesWorld w1.drew 5 x).heap.size = w1.heap.size + 1 := Lib.bytesWorld_size w1.drew 5 x
  have m1 := OwnB.made w1.drew 5 x base hb hx
  have m2 := OwnB.made (Lib.bytesWorld w1.drew 5 x) 5 y base (by omega) hy
  rw [bytesOf_length] at m1 m2
  have hB2 : Below (Lib.bytesWorld w1.drew 5 x).heap.size (Lib.bytesWorld w1.drew 5 x) (Lib.bytesWorld (Lib.bytesWorld w1.drew 5 x) 5 y) := bytes_below (Below.refl _ _) (Nat.le_refl _) 5 y
  have hB1 : Below w1.heap.size w1 (Lib.bytesWorld w1.drew 5 x) := bytes_below (below_drew (Below.refl _ _)) (Nat.le_refl _) 5 x
  have hB := below_step hB1 hB2
  exact ⟨m1.below hB2, m2, by simp [Value.ownBlock, hz], fun k hk => hB.block k hk, hB⟩
set_option maxHeartbeats 4000000 in
set_option maxRecDepth 100000 in
theorem refOf_good (n : Bool) (a b : ByteArray) (e : Int) (p : Bool) (w : World) (hm : mayR 0 n a b e = true) (hp : ¬ (p = true ∧ e < 0)) :
    Calls Tryd.prog 8 #[.agg #[.int .i64 0, .bool n, .string a, .string b, .int .i64 e, .bool p]] w (RefPost w (okOps a.data.toList b.data.toList (expP e p))) := by
  have hu23 := Tryd.underlying23
  have hu25 := Tryd.underlying25
  obtain ⟨s1, s2, s3, s4, s5, s6, s7⟩ := may_size hm
  have hla : a.data.toList.length = a.size := slen a
  have hlb : b.data.toList.length = b.size := slen b
  obtain ⟨la, ela⟩ : ∃ l, l = a.data.toList := ⟨_, rfl⟩
  obtain ⟨lb, elb⟩ : ∃ l, l = b.data.toList := ⟨_, rfl⟩
  rw [← ela] at hla ⊢
  rw [← elb] at hlb ⊢
  have t1 : la.length ≤ 4096 := by omega
  have t2 : lb.length ≤ 4096 := by omega
  have EA : Aside0 (bytesOf a = nb la) := ⟨by rw [ela]; rfl⟩
  have EB : Aside0 (bytesOf b = nb lb) := ⟨by rw [elb]; rfl⟩
  clear hla hlb ela elb
  obtain ⟨K, hK⟩ := May_p 0 n a b e p (by omega) (by omega)
  have HK : Aside0 (quipuref07_May.f K 0 n a b e p = some true) := ⟨by rw [hK K (Nat.le_refl _), hm]⟩
  clear hK hm s5 s6
  go_enter Tryd.func8, Tryd.ntmps8
  go_wp2_with fail
  refine (quipuref07_May.calls K 0 n a b e p _ _ HK.out).mono ?_
  rintro e' w1 ⟨rfl, hb1⟩
  have BK0 : Aside0 (w1.heap[w.heap.size]? = some (.cells #[.int .i64 0, .bool n, .string a, .string b, .int .i64 e, .bool p] 23 (0, 0))) := ⟨by rw [hb1.block _ (by simp; omega)]; exact blk_alloc (blk_new w _) _⟩
  have BK1 : Aside0 (w1.heap[w.heap.size + 1]? = some (.cells #[.string ⟨#[]⟩, .int .i64 0, .int .i64 0, .string ⟨#[]⟩, .string ⟨#[]⟩, .int .i64 0] 25 (0, 0))) := ⟨by rw [hb1.block _ (by simp)]; simpa using blk_new (w.alloc (.cells #[.int .i64 0, .bool n, .string a, .string b, .int .i64 e, .bool p] 23)) (.cells #[.string ⟨#[]⟩, .int .i64 0, .int .i64 0, .string ⟨#[]⟩, .string ⟨#[]⟩, .int .i64 0] 25)⟩
  have HB : Aside0 (Below w.heap.size w w1) := ⟨below_step (below_alloc (below_alloc (Below.refl _ _) _) _) hb1⟩
  have hs1 : w.heap.size + 2 ≤ w1.heap.size := by have := hb1.size; simp at this; omega
  clear hb1
  have z0 : w1.cell? ⟨w.heap.size, 0, none⟩ = some (.int .i64 0) := (blk_cell BK0.out 0).trans rfl
  have z2 : w1.cell? ⟨w.heap.size, 2, none⟩ = some (.string a) := (blk_cell BK0.out 2).trans rfl
  have z3 : w1.cell? ⟨w.heap.size, 3, none⟩ = some (.string b) := (blk_cell BK0.out 3).trans rfl
  have z4 : w1.cell? ⟨w.heap.size, 4, none⟩ = some (.int .i64 e) := (blk_cell BK0.out 4).trans rfl
  have z5 : w1.cell? ⟨w.heap.size, 5, none⟩ = some (.bool p) := (blk_cell BK0.out 5).trans rfl
  have hcv := fun (s : ByteArray) (W : World) => Lib.run_convert_string_bytes (P := Tryd.prog) W 9 40 5 s Tryd.underlying9 Tryd.underlying40 Tryd.underlying5
  have o1 : (Lib.bytesWorld w1.drew 5 a).cell? ⟨w.heap.size, 3, none⟩ = some (.string b) := (Lib.bytesWorld_old w1.drew 5 a ⟨w.heap.size, 3, none⟩ (show w.heap.size < w1.heap.size by omega)).trans z3
  have o2 : (Lib.bytesWorld w1.drew 5 b).cell? ⟨w.heap.size, 2, none⟩ = some (.string a) := (Lib.bytesWorld_old w1.drew 5 b ⟨w.heap.size, 2, none⟩ (show w.heap.size < w1.heap.size by omega)).trans z2
  have hbw := fun (s : ByteArray) (W : World) (k : Nat) (hk : k < W.heap.size) => Lib.bytesWorld_at_old W 5 s k hk
  have HBW := Aside0.mk hbw
  clear hbw
  have M1 := Aside0.mk (two_made w1 a b (w.heap.size + 2) hs1 (by unfold maxLen; omega) (by unfold maxLen; omega))
  have M2 := Aside0.mk (two_made w1 b a (w.heap.size + 2) hs1 (by unfold maxLen; omega) (by unfold maxLen; omega))
  have HP : Aside0 (p = true → 0 ≤ e) := ⟨fun h => Classical.byContradiction fun h3 => hp ⟨h, by omega⟩⟩
  clear hp HK
  obtain ⟨m, hm⟩ : ∃ m : Nat, m = expP e p := ⟨_, rfl⟩
  have HM := Aside0.mk hm
  rw [← hm]
  have hm0 : m ≤ 2001 := by rw [hm]; unfold expP; split <;> omega
  clear hm
  cases p
  case' true => (have q1 : decide (e < 0) = false := decide_eq_false (by have := HP.out rfl; omega))
  all_goals
    go_upto_region 3 with (fail)
    go_cut [4, 5, 6] (fun v4 v5 v6 wc => v6 = .int .i64 0 ∧ Aside0 (OwnB wc (w.heap.size + 2) 5 v4 (bytesOf a)) ∧ Aside0 (OwnB wc (w.heap.size + 2) 5 v5 (bytesOf b)) ∧ Aside0 (v4.ownBlock ≠ v5.ownBlock) ∧ Aside0 (wc.heap[w.heap.size]? = w1.heap[w.heap.size]?) ∧ Aside0 (wc.heap[w.heap.size + 1]? = w1.heap[w.heap.size + 1]?) ∧ Aside0 (Below w.heap.size w wc))
    case first =>
      go_region
      all_goals
        go_wp2
        go_meet
        case rel => first | exact ⟨rfl, ⟨M1.out.1⟩, ⟨M1.out.2.1⟩, ⟨M1.out.2.2.1⟩, ⟨M1.out.2.2.2.1 _ (by omega)⟩, ⟨M1.out.2.2.2.1 _ (by omega)⟩, ⟨below_step HB.out M1.out.2.2.2.2⟩⟩ | exact ⟨rfl, ⟨M2.out.2.1⟩, ⟨M2.out.1⟩, ⟨M2.out.2.2.1.symm⟩, ⟨M2.out.2.2.2.1 _ (by omega)⟩, ⟨M2.out.2.2.2.1 _ (by omega)⟩, ⟨below_step HB.out M2.out.2.2.2.2⟩⟩
    case rest =>
      clear o1 o2 hcv z0 z2 z3 z4 z5 M1 M2 HBW
      obtain ⟨rfl, OA, OB, NE, K0, K1, HBc⟩ := hcut
      have BC0 : Aside0 (wc.heap[w.heap.size]? = _) := ⟨K0.out.trans BK0.out⟩
      have BC1 : Aside0 (wc.heap[w.heap.size + 1]? = _) := ⟨K1.out.trans BK1.out⟩
      have hsc : w.heap.size + 2 ≤ wc.heap.size := by have := blk_lt BC1.out; omega
      clear K0 K1 BK0 BK1 HB hs1
      have z4 : wc.cell? ⟨w.heap.size, 4, none⟩ = some (.int .i64 e) := (blk_cell BC0.out 4).trans rfl
      have z5 := (blk_cell BC0.out 5).trans rfl
      go_upto_if 34 with (fail)
      go_cut [6] (fun v6 wd => v6 = .int .i64 (m : Int) ∧ wd = wc)
      case first =>
        go_wp2
        go_meet
        case rel => exact ⟨by rw [HM.out]; first | rfl | (have h0 := HP.out (by first | rfl | trivial); unfold expP; rw [if_pos rfl, Int.toNat_of_nonneg h0]), rfl⟩
      case rest =>
        obtain ⟨rfl, rfl⟩ := hcut
        obtain ⟨fb, hfb, FB⟩ := FR.of OB.out
        have hne := NE.out
        rw [hfb] at hne
        have hfl := (OB.out.block fb hfb).2
        have HNE := Aside0.mk hne
        have HFB := Aside0.mk FB
        rw [EA.out] at OA
        rw [EB.out] at HFB
        clear hne FB NE OB hfb HP z4 z5 s1 s2 s3 s4 s7
        go_wp2
        go_loopw [4, 5, 7] (fun v4 v5 v7 wr => ∃ i : Nat, v7 = .int .i64 i ∧ i ≤ m ∧ w.heap.size + 2 ≤ wr.heap.size ∧ fb < wr.heap.size ∧ Aside0 (OwnB wr (w.heap.size + 2) 5 v4 (nb (wholeL la lb i))) ∧ Aside0 (FR wc fb v5 (nb (lb.drop i))) ∧ Aside0 (v4.ownBlock ≠ some fb) ∧ Aside0 (wr.heap[fb]? = wc.heap[fb]?) ∧ Aside0 (wr.heap[w.heap.size + 1]? = some (.cells #[.string ⟨#[]⟩, .int .i64 0, .int .i64 0, .string ⟨#[]⟩, .string ⟨#[]⟩, .int .i64 0] 25 (0, 0))) ∧ Aside0 (Below w.heap.size w wr)) (fun _ _ v7 _ => m - (intOf v7).toNat)
        case atStart => exact ⟨0, rfl, Nat.zero_le _, hsc, hfl, by simpa [wholeL] using OA, by simpa using HFB, HNE, ⟨rfl⟩, BC1, HBc⟩
        case round =>
          clear OA HFB HNE BC1 HBc hsc hfl BC0
          obtain ⟨i, rfl, him, hsr, hfr, OA, HFB, HNE, HK, BC1, HBr⟩ := hrel
          have hwl := whole_len la lb i
          by_cases hlt : i < m
          · have d0 : decide ((i : Int) < (m : Int)) = true := decide_eq_true (by omega)
            have d0' : decide (i < m) = true := decide_eq_true hlt
            have g1 := wS i (by omega)
            have g2 := wS2 i (by omega)
            by_cases hb : i < lb.length
            · have ed : lb.drop i = lb[i] :: lb.drop (i + 1) := List.drop_eq_getElem_cons hb
              rw [ed] at HFB
              obtain ⟨A, c, rfl, hc, hr⟩ := HFB.out
              obtain ⟨ad, rfl, hx⟩ := FR.head (W' := wr) HFB.out HK.out
              have hnl : (nb (lb[i] :: lb.drop (i + 1))).length = (nb (lb.drop (i + 1))).length + 1 := rfl
              obtain ⟨n5, hn5⟩ : ∃ n, n = (nb (lb[i] :: lb.drop (i + 1))).length := ⟨_, rfl⟩
              have HR := Aside0.mk hr
              have hc5 : n5 ≤ c := by rw [hn5]; exact hc
              have hp5 : 0 < n5 := by omega
              have HN5 := Aside0.mk hn5
              rw [← hn5]
              obtain ⟨A', hcut, hread⟩ := cut5 (some ad) n5 c (by omega)
              have HRD := Aside0.mk hread
              have hx2 : wr.cell? ad = some (.int .u8 ((lb[i].toNat : Nat) : Int)) := hx
              generalize hxe : ((lb[i].toNat : Nat) : Int) = x at hx2
              have HXE := Aside0.mk hxe
              have q5 : decide (0 < (n5 : Int)) = true := decide_eq_true (by omega)
              have q6 : decide (0 < n5) = true := decide_eq_true hp5
              clear hx hr hnl hn5 hread hxe hc HFB ed
              go_wp2_with ((with_reducible refine gate_builtin (b := .append) (xs := #[.tmp 45, .tmp 49]) rfl ?_); at_builtin; obtain ⟨i0, hi0, hi2, hi1, hi3⟩ := info_parts info5; refine wpList_append_B rfl (.tmp 45) (.tmp 49) 40 rfl (w.heap.size + 2) 5 i0 Tryd.underlying40 hi0 hi2 hi1 hi3 _ (nb (wholeL la lb i)) rfl ?apO ⟨wr.heap.size, 0, none⟩ 1 x rfl ?apY ?apL ?apB ?_; (case apO => exact OA.out.alloc _); (case apY => exact (blk_cell (blk_new wr _) 0).trans rfl); (case apL => rw [nb_len]; omega); (case apB => simp; omega); intro v' w' hO hg hat; have HO := Aside0.mk hO; have HG := Aside0.mk hg; have HT := Aside0.mk hat; clear hO hg hat hi0 hi1 hi2 hi3)
              have hgs := HG.out.size
              simp at hgs
              have HO2 : Aside0 (OwnB w' (w.heap.size + 2) 5 v' (nb (wholeL la lb (i + 1)))) := ⟨by rw [whole_take la lb i hb, nb_app]; have := HO.out; rw [← HXE.out] at this; exact this⟩
              have HNE2 : Aside0 (v'.ownBlock ≠ some fb) := ⟨by rcases HT.out with h | h <;> rw [h]; exact HNE.out; simp; omega⟩
              have HK2 : Aside0 (w'.heap[fb]? = wc.heap[fb]?) := ⟨by rw [HG.out.block fb (by simp; omega) (fun h => HNE.out h.symm), ← HK.out]; exact (below_alloc (Below.refl wr.heap.size wr) _).block fb hfr⟩
              have hvb := fun k hk => (OA.out.block k hk).1
              have BC2 : Aside0 (w'.heap[w.heap.size + 1]? = some (.cells #[.string ⟨#[]⟩, .int .i64 0, .int .i64 0, .string ⟨#[]⟩, .string ⟨#[]⟩, .int .i64 0] 25 (0, 0))) := ⟨by
                rw [HG.out.block (w.heap.size + 1) (by simp; omega) (fun h => by have := hvb _ h.symm; omega)]; exact blk_alloc BC1.out _⟩
              have HB2 : Aside0 (Below w.heap.size w w') := ⟨(below_alloc HBr.out _).grown HG.out (by simp; omega) (fun k hk => by have := hvb _ hk; omega)⟩
              have HF2 : Aside0 (FR wc fb (.slice A' (n5 - 1) (c - 1)) (nb (lb.drop (i + 1)))) := ⟨by
                have e5 : n5 - 1 = (nb (lb.drop (i + 1))).length := by rw [HN5.out]; rfl
                rw [e5]
                refine ⟨A', c - 1, rfl, by rw [← e5]; omega, fun W' hW => ?_⟩
                have := HRD.out W' .u8 _ hc5 (by have := HR.out W' hW; rw [← HN5.out] at this; exact this)
                rw [e5] at this
                exact this⟩
              clear HO HG HT HRD HR HN5 HXE hx2 OA HNE HK BC1 HBr hvb
              go_wp2
              go_roundw
              case rel => exact ⟨i + 1, by go_num, by omega, by omega, by omega, HO2, HF2, HNE2, HK2, BC2, HB2⟩
              case measure => simp [intOf]; omega
            · have ed : lb.drop i = [] := List.drop_of_length_le (by omega)
              rw [ed] at HFB
              obtain ⟨A, c, rfl, hc, hr⟩ := HFB.out
              have q5 : decide (0 < ((nb []).length : Int)) = false := rfl
              have q6 : decide (0 < (nb []).length) = false := rfl
              go_wp2_with ((with_reducible refine gate_builtin (b := .append) (xs := #[.tmp 53, .tmp 54]) rfl ?_); at_builtin; obtain ⟨i0, hi0, hi2, hi1, hi3⟩ := info_parts info5; refine wpList_append_B rfl (.tmp 53) (.tmp 54) 40 rfl (w.heap.size + 2) 5 i0 Tryd.underlying40 hi0 hi2 hi1 hi3 _ (nb (wholeL la lb i)) rfl ?aqO ⟨wr.heap.size, 0, none⟩ 1 48 rfl ?aqY ?aqL ?aqB ?_; (case aqO => exact OA.out.alloc _); (case aqY => exact (blk_cell (blk_new wr _) 0).trans rfl); (case aqL => rw [nb_len]; omega); (case aqB => simp; omega); intro v' w' hO hg hat; have HO := Aside0.mk hO; have HG := Aside0.mk hg; have HT := Aside0.mk hat; clear hO hg hat hi0 hi1 hi2 hi3)
              have hgs := HG.out.size
              simp at hgs
              have HO2 : Aside0 (OwnB w' (w.heap.size + 2) 5 v' (nb (wholeL la lb (i + 1)))) := ⟨by rw [whole_nought la lb i hb, nb_app]; exact HO.out⟩
              have HNE2 : Aside0 (v'.ownBlock ≠ some fb) := ⟨by rcases HT.out with h | h <;> rw [h]; exact HNE.out; simp; omega⟩
              have HK2 : Aside0 (w'.heap[fb]? = wc.heap[fb]?) := ⟨by rw [HG.out.block fb (by simp; omega) (fun h => HNE.out h.symm), ← HK.out]; exact (below_alloc (Below.refl wr.heap.size wr) _).block fb hfr⟩
              have hvb := fun k hk => (OA.out.block k hk).1
              have BC2 : Aside0 (w'.heap[w.heap.size + 1]? = some (.cells #[.string ⟨#[]⟩, .int .i64 0, .int .i64 0, .string ⟨#[]⟩, .string ⟨#[]⟩, .int .i64 0] 25 (0, 0))) := ⟨by
                rw [HG.out.block (w.heap.size + 1) (by simp; omega) (fun h => by have := hvb _ h.symm; omega)]; exact blk_alloc BC1.out _⟩
              have HB2 : Aside0 (Below w.heap.size w w') := ⟨(below_alloc HBr.out _).grown HG.out (by simp; omega) (fun k hk => by have := hvb _ hk; omega)⟩
              have HF2 : Aside0 (FR wc fb (.slice A (nb []).length c) (nb (lb.drop (i + 1)))) := ⟨by
                rw [List.drop_of_length_le (show lb.length ≤ i + 1 by omega)]; exact HFB.out⟩
              clear HO HG HT hr HFB OA HNE HK BC1 HBr hvb
              go_wp2
              go_roundw
              case rel => exact ⟨i + 1, by go_num, by omega, by omega, by omega, HO2, HF2, HNE2, HK2, BC2, HB2⟩
              case measure => simp [intOf]; omega
          · have d0 : decide ((i : Int) < (m : Int)) = false := decide_eq_false (by omega)
            have d0' : decide (i < m) = false := decide_eq_false hlt
            obtain rfl : i = m := by omega
            obtain ⟨A, c, rfl, hc, hr⟩ := HFB.out
            obtain ⟨n5, hn5⟩ : ∃ n, n = (nb (lb.drop i)).length := ⟨_, rfl⟩
            rw [← hn5] at HFB ⊢
            have HN5 := Aside0.mk hn5
            have HR : Aside0 (ReadsInt wr .u8 A n5 (nb (lb.drop i))) := ⟨by have := hr wr HK.out; rw [← hn5] at this; exact this⟩
            have hc5 : n5 ≤ c := by rw [hn5]; exact hc
            have h54 : n5 ≤ 4096 := by rw [hn5, nb_len, List.length_drop]; omega
            clear hc hr hn5 HFB HNE HK hlt
            obtain ⟨L, hL⟩ : ∃ L, L = lb.drop i := ⟨_, rfl⟩
            rw [← hL] at HR HN5
            have hLn : n5 = L.length := by rw [HN5.out, nb_len]
            have HL := Aside0.mk hL
            have HLN := Aside0.mk hLn
            have l1 : n5 ≤ L.length := by omega
            have l2 : L.length ≤ n5 := by omega
            clear hL HN5 hLn
            go_wp2
            go_loop [8] (fun v8 => ∃ k : Nat, v8 = .int .i64 k ∧ k ≤ n5 ∧ Aside0 (∀ j b, k ≤ j → L[j]? = some b → b = 48)) (fun v8 => (intOf v8).toNat)
            case atStart => exact ⟨n5, rfl, Nat.le_refl _, ⟨fun j b hj hb => by have := (List.getElem?_eq_some_iff.1 hb).1; omega⟩⟩
            case round =>
              obtain ⟨k, rfl, hk, HZ⟩ := hrel
              cases k with
              | zero =>
                have HBR : Aside0 (bareL L = L.take 0) := ⟨bare_at L 0 (Nat.zero_le _) HZ.out (fun b h => absurd h (by omega))⟩
                have q1 : decide ((0 : Int) < ((0 : Nat) : Int)) = false := rfl
                go_wp2
                have FIN := Aside0.mk (okOps_fin (la := la) (k := 0) HL.out HLN.out HBR.out (by omega))
                have hcv1 := conv_own OA.out.drew
                have hcv2 : (convert 40 9 (.slice A n5 c)).run Tryd.prog wr.drew = .ok (.string (mkS L)) wr.drew := conv_reads (w := wr.drew) HR.out
                have hcut : ∀ W : World, (Instr.slice 40 (.slice A n5 c) none (some (.int .i64 0)) none).run Tryd.prog W = .ok (.slice A (0) c) W := cut5to A n5 c (0) (by omega) hc5
                have hcv3 : (convert 40 9 (.slice A (0) c)).run Tryd.prog wr.drew = .ok (.string (mkS (L.take (0)))) wr.drew := conv_reads (w := wr.drew) (by rw [← nb_take]; exact ReadsInt.take_ HR.out (0) (by omega))
                have y0 : wr.cell? ⟨w.heap.size + 1, 0, none⟩ = some (.string ⟨#[]⟩) := (blk_cell BC1.out 0).trans rfl
                have y1 : wr.cell? ⟨w.heap.size + 1, 1, none⟩ = some (.int .i64 0) := (blk_cell BC1.out 1).trans rfl
                have y2 : wr.cell? ⟨w.heap.size + 1, 2, none⟩ = some (.int .i64 0) := (blk_cell BC1.out 2).trans rfl
                have y3 : wr.cell? ⟨w.heap.size + 1, 3, none⟩ = some (.string ⟨#[]⟩) := (blk_cell BC1.out 3).trans rfl
                have y4 : wr.cell? ⟨w.heap.size + 1, 4, none⟩ = some (.string ⟨#[]⟩) := (blk_cell BC1.out 4).trans rfl
                have y5 : wr.cell? ⟨w.heap.size + 1, 5, none⟩ = some (.int .i64 0) := (blk_cell BC1.out 5).trans rfl
                have f0 := blk_frozen BC1.out 0
                have f1 := blk_frozen BC1.out 1
                have f2 := blk_frozen BC1.out 2
                have f3 := blk_frozen BC1.out 3
                have f4 := blk_frozen BC1.out 4
                have f5 := blk_frozen BC1.out 5
                generalize wholeL la lb i = wl at hcv1 FIN
                go_still_tail 16, (by kernel_rfl)
                still_call (ahead_str wl wr.drew)
                repeat still_step
                still_call (ahead_str L wr.drew)
                repeat still_step
                still_call (ahead_str (L.take (0)) wr.drew)
                repeat still_step
                refine wpStill_nil ?_
                change wpList _ _ _ _ _ wr.drew
                go_wp2
                refine bodyPost_ret (results_ct rfl _ _ (w.heap.size + 1) 25 #[.string (mkS (aheadL wl)), .int .i64 n5, .int .i64 0, .string (mkS (aheadL L)), .string (mkS (aheadL [])), .int .i64 i] (0, 0) _ rfl (blk_drew (put25 BC1.out _ _ _ _ _ _)) Tryd.underlying25 rfl (by kernel_rfl)) rfl ?_
                exact ⟨by rw [← HM.out, FIN.out]; rfl, below_drew (below6 (by omega) HBr.out)⟩
              | succ k =>
                have hkL : k < L.length := by omega
                obtain ⟨ad, eA, hx⟩ := HR.out.at_ (k : Int) (by omega) (by omega)
                subst eA
                rw [rd_nb L k hkL, Int.toNat_natCast] at hx
                have r1 := wD k (by omega)
                have r2 := wD2 k (by omega)
                have r3 := wD3 k (by omega)
                have r4 := wD4 k (by omega)
                have q1 : decide ((0 : Int) < ((k + 1 : Nat) : Int)) = true := decide_eq_true (by omega)
                have q2 : decide (0 < k + 1) = true := decide_eq_true (by omega)
                have q3 : (k : Int) < (n5 : Int) := by omega
                by_cases h48 : L[k] = 48
                · have hx2 : wr.cell? (ad.add k) = some (.int .u8 48) := by rw [hx, h48]; rfl
                  have HZ2 : Aside0 (∀ j b, k ≤ j → L[j]? = some b → b = 48) := ⟨fun j b hj hb => by
                    rcases Nat.lt_or_ge k j with h | h
                    · exact HZ.out j b h hb
                    · obtain rfl : j = k := by omega
                      rw [List.getElem?_eq_getElem hkL] at hb
                      rw [← Option.some.inj hb]; exact h48⟩
                  clear hx h48 HZ
                  go_wp2
                  go_round
                  case rel => exact ⟨k, by first | rfl | go_num, by omega, HZ2⟩
                  case measure => simp [intOf]
                · have HBR : Aside0 (bareL L = L.take (k + 1)) := ⟨bare_at L (k + 1) (by omega) HZ.out (fun b h hb => by rw [Nat.add_sub_cancel, List.getElem?_eq_getElem hkL] at hb; rw [← Option.some.inj hb]; exact h48)⟩
                  have hne : ¬ ((L[k].toNat : Nat) : Int) = 48 := fun e => h48 (UInt8.toNat_inj.1 (show L[k].toNat = 48 from by omega))
                  have q4 : (((L[k].toNat : Nat) : Int) == 48) = false := beq_eq_false_iff_ne.2 hne
                  generalize ((L[k].toNat : Nat) : Int) = x at hx q4
                  clear h48 hne HZ
                  go_wp2
                  have FIN := Aside0.mk (okOps_fin (la := la) (k := k + 1) HL.out HLN.out HBR.out (by omega))
                  have hcv1 := conv_own OA.out.drew
                  have hcv2 : (convert 40 9 (.slice (some ad) n5 c)).run Tryd.prog wr.drew = .ok (.string (mkS L)) wr.drew := conv_reads (w := wr.drew) HR.out
                  have hcut : ∀ W : World, (Instr.slice 40 (.slice (some ad) n5 c) none (some (.int .i64 ((k : Int) + 1))) none).run Tryd.prog W = .ok (.slice (some ad) (k + 1) c) W := by have h_ := cut5to (some ad) n5 c (k + 1) (by omega) hc5; push_cast at h_; exact h_
                  have hcv3 : (convert 40 9 (.slice (some ad) (k + 1) c)).run Tryd.prog wr.drew = .ok (.string (mkS (L.take (k + 1)))) wr.drew := conv_reads (w := wr.drew) (by rw [← nb_take]; exact ReadsInt.take_ HR.out (k + 1) (by omega))
                  have y0 : wr.cell? ⟨w.heap.size + 1, 0, none⟩ = some (.string ⟨#[]⟩) := (blk_cell BC1.out 0).trans rfl
                  have y1 : wr.cell? ⟨w.heap.size + 1, 1, none⟩ = some (.int .i64 0) := (blk_cell BC1.out 1).trans rfl
                  have y2 : wr.cell? ⟨w.heap.size + 1, 2, none⟩ = some (.int .i64 0) := (blk_cell BC1.out 2).trans rfl
                  have y3 : wr.cell? ⟨w.heap.size + 1, 3, none⟩ = some (.string ⟨#[]⟩) := (blk_cell BC1.out 3).trans rfl
                  have y4 : wr.cell? ⟨w.heap.size + 1, 4, none⟩ = some (.string ⟨#[]⟩) := (blk_cell BC1.out 4).trans rfl
                  have y5 : wr.cell? ⟨w.heap.size + 1, 5, none⟩ = some (.int .i64 0) := (blk_cell BC1.out 5).trans rfl
                  have f0 := blk_frozen BC1.out 0
                  have f1 := blk_frozen BC1.out 1
                  have f2 := blk_frozen BC1.out 2
                  have f3 := blk_frozen BC1.out 3
                  have f4 := blk_frozen BC1.out 4
                  have f5 := blk_frozen BC1.out 5
                  generalize wholeL la lb i = wl at hcv1 FIN
                  go_still_tail 16, (by kernel_rfl)
                  still_call (ahead_str wl wr.drew)
                  repeat still_step
                  still_call (ahead_str L wr.drew)
                  repeat still_step
                  still_call (ahead_str (L.take (k + 1)) wr.drew)
                  repeat still_step
                  refine wpStill_nil ?_
                  change wpList _ _ _ _ _ wr.drew
                  go_wp2
                  refine bodyPost_ret (results_ct rfl _ _ (w.heap.size + 1) 25 #[.string (mkS (aheadL wl)), .int .i64 n5, .int .i64 ((k : Int) + 1), .string (mkS (aheadL L)), .string (mkS (aheadL (L.take (k + 1)))), .int .i64 i] (0, 0) _ rfl (blk_drew (put25 BC1.out _ _ _ _ _ _)) Tryd.underlying25 rfl (by kernel_rfl)) rfl ?_
                  exact ⟨by rw [← HM.out, FIN.out]; first | rfl | (push_cast; rfl), below_drew (below6 (by omega) HBr.out)⟩
theorem quipuref08_Of.calls (a0_0 : Int) (a0_1 : Bool) (a0_2 : ByteArray) (a0_3 : ByteArray) (a0_4 : Int) (a0_5 : Bool) (r1 : ByteArray) (r2 : Int) (r3 : Int) (r4 : ByteArray) (r5 : ByteArray) (r6 : Int) (r7 : Int) (w : World) (h : quipuref08_Of.f a0_0 a0_1 a0_2 a0_3 a0_4 a0_5 = some (r1, r2, r3, r4, r5, r6, r7)) :
    Calls Tryd.prog 8 #[.agg #[.int .i64 a0_0, .bool a0_1, .string a0_2, .string a0_3, .int .i64 a0_4, .bool a0_5]] w fun e w' => e = .returned (.tuple #[.agg #[.string r1, .int .i64 r2, .int .i64 r3, .string r4, .string r5, .int .i64 r6], .int .i64 r7]) ∧ Below w.heap.size w w' := by
  unfold quipuref08_Of.f at h
  by_cases c1 : a0_2.size ≤ 140737488355328
  · rw [if_pos c1] at h
    by_cases c2 : a0_3.size ≤ 140737488355328
    · rw [if_pos c2] at h
      have h2 := Option.some.inj h
      have key : Calls Tryd.prog 8 #[.agg #[.int .i64 a0_0, .bool a0_1, .string a0_2, .string a0_3, .int .i64 a0_4, .bool a0_5]] w (RefPost w (ofP a0_0 a0_1 a0_2 a0_3 a0_4 a0_5)) := by
        unfold ofP
        by_cases hg : mayR a0_0 a0_1 a0_2 a0_3 a0_4 = true ∧ a0_0 = 0 ∧ ¬ (a0_5 = true ∧ a0_4 < 0)
        · rw [if_pos hg]
          obtain ⟨g1, rfl, g3⟩ := hg
          exact refOf_good a0_1 a0_2 a0_3 a0_4 a0_5 w g1 g3
        · rw [if_neg hg]
          exact refOf_bad a0_0 a0_1 a0_2 a0_3 a0_4 a0_5 w c1 c2 hg
      rw [h2] at key
      exact key
    · rw [if_neg c2] at h; cases h
  · rw [if_neg c1] at h; cases h
end Go.Proofs.YtfgjfkocbennnaaDoor.Q
