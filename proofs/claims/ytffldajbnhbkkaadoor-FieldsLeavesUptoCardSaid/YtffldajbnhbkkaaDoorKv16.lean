import Derived.Test.YtffldajbnhbkkaaDoorKv14
import Derived.Test.YtffldajbnhbkkaaDoorKv15
namespace Go.Proofs.YtffldajbnhbkkaaDoor.Q
open Go.RowKit Go.Proofs.YtffldajbnhbkkaaDoorW.PrintWords Go.Proofs.YtffldajbnhbkkaaDoorW.PrintLast Go.Proofs.YtffldajbnhbkkaaDoorW.PrintMore
set_option linter.unusedVariables false
set_option linter.unusedSimpArgs false
theorem add0 (g n : Nat) : (⟨g, 0, none⟩ : Addr).add n = ⟨g, n, none⟩ := by
  by_cases h : n = 0
  · subst h; rfl
  · simp [Addr.add, h]
theorem HB_C {w : World} {g cap : Nat} {l : List S31} (H : HB w g cap l) (hl : l.length ≤ 9223372036854775807) : Kd.C k31 w (some ⟨g, 0, none⟩) l.length l := by
  obtain ⟨cur, hb, hs, hc, hh⟩ := H
  refine ⟨rfl, hl, fun hp => ⟨⟨g, 0, none⟩, rfl, fun j x hx => ?_⟩⟩
  obtain ⟨hj, rfl⟩ := List.getElem?_eq_some_iff.1 hx
  obtain ⟨h0, h1, h2⟩ := hh j hj
  refine ⟨[.int .i64 l[j].f0, .int .i64 l[j].f1, .int .i64 l[j].f2], rfl, k31_mk w _, fun i u hu => ?_⟩
  have e : (⟨g, 0, none⟩ : Addr).add (j * k31.sz + i) = ⟨g, j * 3 + i, none⟩ := add0 g _
  rw [e, blk_cell hb]
  match i, hu with
  | 0, hu => obtain rfl := Option.some.inj hu; exact h0
  | 1, hu => obtain rfl := Option.some.inj hu; exact h1
  | 2, hu => obtain rfl := Option.some.inj hu; exact h2
theorem less_row (g cap : Nat) (W : World) (l : List S31) (H : HB W g cap l) (hl : l.length ≤ 9223372036854775807) (i j : Nat) (hi : i < l.length) (hj : j < l.length) :
    Calls Tryd.prog 91 #[.slice (some ⟨g, 0, none⟩) l.length cap, .int .i64 i, .int .i64 j] W fun e w' => e = .returned (.bool (lt31 l[i] l[j])) ∧ Below W.heap.size W w' := by
  have hc := H
  obtain ⟨_, _, _, hcap, _⟩ := hc
  exact fields_spans_Less.calls 3 (some ⟨g, 0, none⟩) cap l (i : Int) (j : Int) _ W (HB_C H hl) hcap (less_p l i j hi hj 0)
/-- A heap's variable, and its row. -/
def HV (w : World) (gh g cap : Nat) (l : List S31) : Prop := w.heap[gh]? = some (.cells #[.slice (some ⟨g, 0, none⟩) l.length cap] 54 (0, 0)) ∧ gh ≠ g ∧ HB w g cap l
theorem HV.chg {w w' : World} {gh g cap : Nat} {l l' : List S31} (h : HV w gh g cap l) (hc : Chg g w w') (hb : HB w' g cap l') (hl : l'.length = l.length) : HV w' gh g cap l' :=
  ⟨by rw [hl]; exact (hc.1 gh h.2.1).trans h.1, h.2.1, hb⟩
theorem HV.below {w w' : World} {gh g cap : Nat} {l : List S31} (h : HV w gh g cap l) (hb : Below w.heap.size w w') : HV w' gh g cap l := by
  obtain ⟨h1, h2, cur, h3, h4⟩ := h
  exact ⟨blk_below h1 hb, h2, cur, blk_below h3 hb, h4⟩
/-- What a walk of the heap's leaves: the two blocks are its own, all else stays. -/
def Beside (gh g : Nat) (w w' : World) : Prop := w'.os = w.os ∧ w'.tape = w.tape ∧ w'.output = w.output ∧ w.heap.size ≤ w'.heap.size ∧ ∀ k, k < w.heap.size → k ≠ gh → k ≠ g → w'.heap[k]? = w.heap[k]?
theorem Beside.refl (gh g : Nat) (w : World) : Beside gh g w w := ⟨rfl, rfl, rfl, Nat.le_refl _, fun _ _ _ _ => rfl⟩
theorem Beside.trans {gh g : Nat} {a b c : World} (h : Beside gh g a b) (k : Beside gh g b c) : Beside gh g a c :=
  ⟨k.1.trans h.1, k.2.1.trans h.2.1, k.2.2.1.trans h.2.2.1, Nat.le_trans h.2.2.2.1 k.2.2.2.1, fun i hi h1 h2 => (k.2.2.2.2 i (Nat.lt_of_lt_of_le hi h.2.2.2.1) h1 h2).trans (h.2.2.2.2 i hi h1 h2)⟩
theorem Beside.below {gh g : Nat} {a b c : World} (h : Beside gh g a b) (k : Below b.heap.size b c) : Beside gh g a c :=
  ⟨k.os.trans h.1, k.tape.trans h.2.1, k.output.trans h.2.2.1, Nat.le_trans h.2.2.2.1 k.size, fun i hi h1 h2 => (k.block i (Nat.lt_of_lt_of_le hi h.2.2.2.1)).trans (h.2.2.2.2 i hi h1 h2)⟩
theorem Beside.chg {gh g : Nat} {a b c : World} (h : Beside gh g a b) (k : Chg g b c) : Beside gh g a c :=
  ⟨k.2.2.1.trans h.1, k.2.2.2.1.trans h.2.1, k.2.2.2.2.trans h.2.2.1, Nat.le_trans h.2.2.2.1 (Nat.le_of_eq k.2.1.symm), fun i hi h1 h2 => (k.1 i h2).trans (h.2.2.2.2 i hi h1 h2)⟩
theorem Beside.under {gh g base : Nat} {w0 a b : World} (h : Beside gh g a b) (hg : base ≤ gh) (hg2 : base ≤ g) (hs : gh < a.heap.size) (k : Below base w0 a) : Below base w0 b :=
  ⟨h.1.trans k.os, h.2.1.trans k.tape, h.2.2.1.trans k.output, Nat.le_trans k.size h.2.2.2.1, fun i hi => (h.2.2.2.2 i (by omega) (by omega) (by omega)).trans (k.block i hi)⟩
theorem up_nums (j p n : Nat) (hz : j ≠ 0) (hp : (j - 1) / 2 = p) (hj : j < n) (hn : n < 4611686018427387904) :
    p < j ∧ p < n ∧ wrap64 ((j : Int) - 1) = (j : Int) - 1 ∧ Int.tdiv ((j : Int) - 1) 2 = (p : Int) ∧ wrap64 (p : Int) = (p : Int) ∧ ((p : Int) == (j : Int)) = false ∧ (¬ ((p : Int) = (j : Int))) ∧ n ≤ 9223372036854775807 ∧ p ≠ j := by
  have h1 : p < j := by omega
  refine ⟨h1, by omega, by unfold wrap64; omega, ?_, by unfold wrap64; omega, beq_eq_false_iff_ne.2 (by omega), by omega, by omega, by omega⟩
  rw [Int.tdiv_eq_ediv_of_nonneg (by omega)]; omega
theorem up_le {j p n : Nat} (hz : j ≠ 0) (hp : (j - 1) / 2 = p) (hn : j ≤ n + 1) : p ≤ n := by omega
theorem up_go (n' : Nat) (l' : List S31) (j' p : Nat) (hz : j' ≠ 0) (hp : (j' - 1) / 2 = p) (hj' : j' < l'.length) (hpl : p < l'.length) :
    HP.upL lt31 (n' + 1) l' j' = if lt31 l'[j'] l'[p] = true then HP.upL lt31 n' (HP.swapL l' p j' hpl hj') p else l' := by
  subst hp
  conv => lhs; unfold HP.upL
  rw [dif_pos ⟨Nat.pos_of_ne_zero hz, hj'⟩]
set_option maxHeartbeats 1000000 in
set_option maxRecDepth 100000 in
theorem up_walk (gh g cap : Nat) : ∀ (n : Nat) (l : List S31) (j : Nat) (W : World), j ≤ n → j < l.length → l.length < 4611686018427387904 → HV W gh g cap l →
    Calls Tryd.prog 42 #[.iface 56 (.pointer (some ⟨gh, 0, none⟩)), .int .i64 j] W fun e w' => e = .returned (.tuple #[]) ∧ HV w' gh g cap (HP.upL lt31 n l j) ∧ Beside gh g W w' := by
  intro n l j W hn hj hsz hv
  have hc0 : W.cell? ⟨gh, 0, none⟩ = some (.slice (some ⟨g, 0, none⟩) l.length cap) := (blk_cell hv.1 0).trans rfl
  have eL : ∀ args w, (callFunc 91 args).run Tryd.prog w = .ok (.enter 91 args) w := enters_of Tryd.func91 (by kernel_rfl) rfl
  have eS : ∀ args w, (callFunc 92 args).run Tryd.prog w = .ok (.enter 92 args) w := enters_of Tryd.func92 (by kernel_rfl) rfl
  go_enter Tryd.func42, Tryd.ntmps42
  go_wp2
  go_loopw [1] (fun v1 wr => ∃ (j' n' : Nat) (l' : List S31), v1 = .int .i64 j' ∧ j' ≤ n' ∧ j' < l'.length ∧ l'.length = l.length ∧ HV wr gh g cap l' ∧ Beside gh g W wr ∧ HP.upL lt31 n' l' j' = HP.upL lt31 n l j) (fun v1 _ => (Lib.intOf v1).toNat)
  case atStart => exact ⟨j, n, l, rfl, hn, hj, rfl, hv, Beside.refl _ _ _, rfl⟩
  case round =>
    obtain ⟨j', n', l', rfl, hn', hj', hll, hv', hbs, hup⟩ := hrel
    by_cases hz : j' = 0
    · subst hz
      have hend : HP.upL lt31 n' l' 0 = l' := by
        cases n' with
        | zero => rfl
        | succ n' => unfold HP.upL; rw [dif_neg (by omega)]
      have HU := Aside0.mk (hend.symm.trans hup)
      have HV' := Aside0.mk hv'
      have HS := Aside0.mk hbs
      clear hup hv' hbs hend hv hc0
      go_wp2
      go_end0
      exact ⟨rfl, by rw [← HU.out]; exact HV'.out, HS.out⟩
    · obtain ⟨n', rfl⟩ : ∃ q, n' = q + 1 := Nat.exists_eq_add_one_of_ne_zero (fun h => hz (Nat.le_zero.1 (h ▸ hn')))
      obtain ⟨p, hp⟩ : ∃ p, (j' - 1) / 2 = p := ⟨_, rfl⟩
      obtain ⟨hpj, hpl, e1, e2, e3, e4, e5, hlb, hpne⟩ := up_nums j' p l'.length hz hp hj' (hll ▸ hsz)
      have hl := less_row g cap wr l' hv'.2.2 hlb j' p hj' hpl
      have mL := find_Less gh wr (.slice (some ⟨g, 0, none⟩) l'.length cap) ((blk_cell hv'.1 0).trans rfl)
      have hsw := fun (w2 : World) (h : HB w2 g cap l') => swap_row g cap w2 l' h p j' hpl hj' hpne (hll ▸ hsz)
      have hgo := up_go n' l' j' p hz hp hj' hpl
      have HVo := Aside0.mk hv'
      have HS := Aside0.mk hbs
      have HU := Aside0.mk hup
      have HG := Aside0.mk hgo
      have HN := Aside0.mk hn'
      have HP1 := Aside0.mk hp
      have HSW := Aside0.mk hsw
      have HLL := Aside0.mk hll
      clear hv' hbs hup hgo hv hc0 hn' hp hsw hll
      cases hlt : lt31 l'[j'] l'[p] with
      | true =>
        rw [hlt] at hl
        have HLT := Aside0.mk hlt
        clear hlt
        go_wp2_with (first
          | (go_at_call 91; refine hl.mono ?_; rintro e w2 ⟨rfl, hb⟩; have hv2 := HV.below HVo.out hb; have mS := find_Swap gh w2 (.slice (some ⟨g, 0, none⟩) l'.length cap) ((blk_cell hv2.1 0).trans rfl); have HV2 := Aside0.mk hv2; have HB2 := Aside0.mk hb; clear hv2 hb)
          | (go_at_call 92; refine (HSW.out _ HV2.out.2.2).mono ?_; rintro e w3 ⟨rfl, hb3, hc3⟩))
        go_roundw
        case rel =>
          refine ⟨p, n', HP.swapL l' p j' hpl hj', rfl, up_le hz HP1.out HN.out, by rw [HP.swap_len]; exact hpl, by rw [HP.swap_len]; exact HLL.out, HV.chg HV2.out hc3 hb3 (HP.swap_len ..), (HS.out.below HB2.out).chg hc3, ?_⟩
          rw [← HU.out, HG.out, HLT.out, if_pos rfl]
        case measure => exact hpj
      | false =>
        rw [hlt] at hl
        have HLT := Aside0.mk hlt
        clear hlt
        go_wp2_with (go_at_call 91; refine hl.mono ?_; rintro e w2 ⟨rfl, hb⟩)
        go_end0
        refine ⟨rfl, ?_, HS.out.below hb⟩
        · rw [← HU.out, HG.out, HLT.out, if_neg (by simp)]
          exact HV.below HVo.out hb
end Go.Proofs.YtffldajbnhbkkaaDoor.Q
