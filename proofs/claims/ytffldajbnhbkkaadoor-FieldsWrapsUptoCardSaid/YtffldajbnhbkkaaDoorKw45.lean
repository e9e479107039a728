import Derived.Test.YtffldajbnhbkkaaDoorKw44
import Derived.Test.YtffldajbnhbkkaaDoorKw37
import Derived.Test.YtffldajbnhbkkaaDoorKw39
namespace Go.Proofs.YtffldajbnhbkkaaDoor.Q
open Go.RowKit Go.Proofs.YtffldajbnhbkkaaDoorW.PrintWords Go.Proofs.YtffldajbnhbkkaaDoorW.PrintLast Go.Proofs.YtffldajbnhbkkaaDoorW.PrintMore
set_option linter.unusedVariables false
set_option linter.unusedSimpArgs false
theorem mkL_len (l : List S31) : (mkL l).length = l.length + 1 := by unfold mkL; simp
theorem unmark {w : World} {base c : Nat} {ok : Nat → Prop} {A : Option Addr} {l : List S31} (h : Kd.R k31 31 w base ok (.slice A (l.length + 1) c) (mkL l)) : Kd.R k31 31 w base ok (.slice A l.length c) l := by
  have := Kd.R_take (m := l.length) h (by rw [mkL_len]; omega)
  have e : (mkL l).take l.length = l := by unfold mkL; simp
  rw [e] at this; exact this
theorem marked {w : World} {base c : Nat} {ok : Nat → Prop} {A : Option Addr} {l : List S31} (h : Kd.R k31 31 w base ok (.slice A (l.length + 1) c) (mkL l)) : Kd.C k31 w A (l.length + 1) (mkL l) := by
  have := (Kd.R_reads' h).2.2
  rw [mkL_len] at this; exact this
def quipulaw17_own.f (a0_0 : ByteArray) (l0_1 : List S31) : Option (ByteArray × List S31) := if l0_1.length < 100000000 then some (a0_0, l0_1) else none
theorem quipulaw17_own.calls (a0_0 : ByteArray) (A0_1 : Option Addr) (c0_1 : Nat) (l0_1 : List (S31)) (r1 : ByteArray) (r2 : List (S31)) (w : World) (hr0_1 : Kd.C k31 w A0_1 l0_1.length l0_1) (hc0_1 : l0_1.length ≤ c0_1) (h : quipulaw17_own.f a0_0 l0_1 = some (r1, r2)) :
    Calls Tryd.prog 12 #[.agg #[.string a0_0, .slice A0_1 l0_1.length c0_1]] w fun e w' => ∃ (ga co : Nat), e = .returned (.agg #[.string r1, .slice (some ⟨ga, 0, none⟩) r2.length co]) ∧ Kd.R k31 31 w' w.heap.size (fun _ => True) (.slice (some ⟨ga, 0, none⟩) (r2.length + 1) co) (mkL r2) ∧ Below w.heap.size w w' := by
  unfold quipulaw17_own.f at h
  by_cases c : l0_1.length < 100000000
  · rw [if_pos c] at h
    have e := Option.some.inj h
    injection e with e1 e2
    subst e1 e2
    exact own_walk a0_0 A0_1 c0_1 l0_1 w hr0_1 hc0_1 c
  · rw [if_neg c] at h; cases h
theorem C_take {w : World} {A : Option Addr} {l : List S31} (h : Kd.C k31 w A (l.length + 1) (mkL l)) : Kd.C k31 w A l.length l := by
  obtain ⟨_, h2, h3⟩ := h
  obtain ⟨ad, e, h4⟩ := h3 (Nat.succ_pos _)
  refine ⟨rfl, by omega, fun _ => ⟨ad, e, fun j y hy => h4 j y ?_⟩⟩
  have hj := (List.getElem?_eq_some_iff.1 hy).1
  unfold mkL
  rw [List.getElem?_append_left hj]; exact hy
theorem mark_at {w : World} {A : Option Addr} {l : List S31} (h : Kd.C k31 w A (l.length + 1) (mkL l)) : ∃ ad, A = some ad ∧ w.cell? (ad.add (l.length * 3)) = some (.int .i64 77) := by
  have h' : Kd.C k31 w A (mkL l).length (mkL l) := by rw [mkL_len]; exact h
  obtain ⟨ad, ea, c0, c1, c2⟩ := at_T31 h' (l.length : Int) (by omega) (by rw [mkL_len]; omega)
  have e : rd_T31 (mkL l) (l.length : Int) = ⟨77, 0, 0⟩ := by
    rw [rd31 _ _ (by rw [mkL_len]; omega)]
    unfold mkL
    simp
  rw [e, Int.toNat_natCast] at c0
  exact ⟨ad, ea, c0⟩
def key31 (x : S31) : Int × Int × Int := (x.f0, x.f1, x.f2)
theorem key31_inj {x y : S31} (h : key31 x = key31 y) : x = y := by
  obtain ⟨a, b, c⟩ := x
  obtain ⟨d, e, f⟩ := y
  injection h with h1 h2
  injection h2 with h2 h3
  subst h1 h2 h3; rfl
theorem keys_inj : ∀ {l m : List S31}, l.map key31 = m.map key31 → l = m
  | [], [], _ => rfl
  | [], _ :: _, h => by cases h
  | _ :: _, [], h => by cases h
  | x :: l, y :: m, h => by
    injection h with h1 h2
    rw [key31_inj h1, keys_inj h2]
theorem bytes_inj {s t : ByteArray} (h : s.data.toList = t.data.toList) : s = t := by
  obtain ⟨⟨s⟩⟩ := s
  obtain ⟨⟨t⟩⟩ := t
  have h : s = t := h
  subst h; rfl
def quipulaw17_kept.f (a0_0 : ByteArray) (l0_1 : List S31) (a1_0 : ByteArray) (l1_1 : List S31) : Option Bool := if a0_0.data.toList = a1_0.data.toList ∧ l0_1.map key31 = l1_1.map key31 ∧ l0_1.length ≤ 1000000 then some true else none
set_option maxHeartbeats 4000000 in
set_option maxRecDepth 100000 in
theorem kept_walk (s : ByteArray) (A0 : Option Addr) (c0 : Nat) (l : List S31) (A1 : Option Addr) (c1 : Nat) (w : World) (hr0 : Kd.C k31 w A0 (l.length + 1) (mkL l)) (hc0 : l.length + 1 ≤ c0) (hr1 : Kd.C k31 w A1 l.length l) (hc1 : l.length ≤ c1) (hl : l.length ≤ 1000000) :
    Calls Tryd.prog 17 #[.agg #[.string s, .slice A0 l.length c0], .agg #[.string s, .slice A1 l.length c1]] w fun e w' => e = .returned (.bool true) ∧ Below w.heap.size w w' := by
  have hu25 := Tryd.underlying25
  have hu31 := Tryd.underlying31
  have hu23 := Tryd.underlying23
  obtain ⟨ad, rfl, hm⟩ := mark_at hr0
  obtain ⟨hX, hY⟩ := two_blocks w #[.string s, .slice (some ad) l.length c0] #[.string s, .slice A1 l.length c1] 25 25
  have hb : Below w.heap.size w ((w.alloc (.cells #[.string s, .slice (some ad) l.length c0] 25)).alloc (.cells #[.string s, .slice A1 l.length c1] 25)) := below_alloc (below_alloc (Below.refl _ _) _) _
  have HB := Aside0.mk hb
  have SC := Aside0.mk (fun (w2 : World) (hW : Below w.heap.size w w2) => quipuref17_Same.calls (l.length + 2) s (some ad) c0 l s A1 c1 l true w2 (Kd.C_below (C_take hr0) hW) (by omega) (Kd.C_below hr1 hW) hc1 (same_self s l hl _ (by omega)))
  have HM := Aside0.mk hm
  have HL := Aside0.mk hl
  have n1 : wrap64 ((l.length : Int) + 1) = (l.length : Int) + 1 := by unfold wrap64; omega
  clear hr0 hr1 hl hm
  go_enter Tryd.func17, Tryd.ntmps17
  go_upto_region 1 with (fail)
  generalize ((w.alloc (.cells #[.string s, .slice (some ad) l.length c0] 25)).alloc (.cells #[.string s, .slice A1 l.length c1] 25)) = w1 at hX hY HB ⊢
  have hne : w.heap.size ≠ w.heap.size + 1 := by omega
  have a0 := (blk_cell hX 0).trans (rfl : _ = some (Value.string s))
  have a1 := (blk_cell hX 1).trans (rfl : _ = some (Value.slice (some ad) l.length c0))
  have b0 := (blk_cell hY 0).trans (rfl : _ = some (Value.string s))
  have b1 := (blk_cell hY 1).trans (rfl : _ = some (Value.slice A1 l.length c1))
  have HXA := Aside0.mk hX
  have HYA := Aside0.mk hY
  have q0 : (0 : Int) ≤ (l.length : Int) := Int.natCast_nonneg _
  have q1 : (0 : Int) ≤ (l.length : Int) + 1 := by omega
  have q2 : (l.length : Int) + 1 ≤ (c0 : Int) := by omega
  have w1e : IntKind.i64.wrap ((l.length : Int) + 1) = (l.length : Int) + 1 := IntWalk.i64_in _ (by have := HL.out; omega)
  have q4 : (l.length : Int) < (l.length : Int) + 1 := by omega
  have q3 : ((l.length : Int) + 1).toNat = l.length + 1 := by omega
  clear hX hY hb hne
  generalize w.heap.size + 1 = g1 at b0 b1 HYA ⊢
  generalize hg0 : w.heap.size = g0 at a0 a1 HXA ⊢
  go_wp2
  go_region_law (first | (go_simp; go_at_call 10; refine (SC.out _ (below_drew1 HB.out)).mono ?_; rintro e w2 ⟨rfl, hb2⟩; have hb3 := below_step (below_drew1 HB.out) hb2; have hX2 := blk_below (blk_drew HXA.out) hb2; have hY2 := blk_below (blk_drew HYA.out) hb2; have a0' := (blk_cell hX2 0).trans (rfl : _ = some (Value.string s)); have a1' := (blk_cell hX2 1).trans (rfl : _ = some (Value.slice (some ad) l.length c0)); have b0' := (blk_cell hY2 0).trans (rfl : _ = some (Value.string s)); have b1' := (blk_cell hY2 1).trans (rfl : _ = some (Value.slice A1 l.length c1)); have m' := bce hb3 HM.out; have HB3 := Aside0.mk hb3; clear hb2 hb3 hX2 hY2))
  all_goals
    go_wp2
    go_ret
    exact ⟨rfl, by first | exact HB3.out | exact below_drew1 HB3.out⟩
theorem quipulaw17_kept.calls (a0_0 : ByteArray) (A0_1 : Option Addr) (c0_1 : Nat) (l0_1 : List (S31)) (a1_0 : ByteArray) (A1_1 : Option Addr) (c1_1 : Nat) (l1_1 : List (S31)) (r : Bool) (w : World) (hr0_1 : Kd.C k31 w A0_1 (l0_1.length + 1) (mkL l0_1)) (hc0_1 : l0_1.length + 1 ≤ c0_1) (hr1_1 : Kd.C k31 w A1_1 l1_1.length l1_1) (hc1_1 : l1_1.length ≤ c1_1) (h : quipulaw17_kept.f a0_0 l0_1 a1_0 l1_1 = some r) :
    Calls Tryd.prog 17 #[.agg #[.string a0_0, .slice A0_1 l0_1.length c0_1], .agg #[.string a1_0, .slice A1_1 l1_1.length c1_1]] w fun e w' => e = .returned (.bool r) ∧ Below w.heap.size w w' := by
  unfold quipulaw17_kept.f at h
  by_cases c : a0_0.data.toList = a1_0.data.toList ∧ l0_1.map key31 = l1_1.map key31 ∧ l0_1.length ≤ 1000000
  · rw [if_pos c] at h
    obtain rfl := Option.some.inj h
    obtain ⟨h1, h2, hl⟩ := c
    obtain rfl := bytes_inj h1
    obtain rfl := keys_inj h2
    exact kept_walk a0_0 A0_1 c0_1 l0_1 A1_1 c1_1 w hr0_1 hc0_1 hr1_1 hc1_1 hl
  · rw [if_neg c] at h; cases h
end Go.Proofs.YtffldajbnhbkkaaDoor.Q
