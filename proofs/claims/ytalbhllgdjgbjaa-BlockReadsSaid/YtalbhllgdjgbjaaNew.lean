import Derived.Test.YtalbhllgdjgbjaaDiskC
import Derived.Test.YtalbhllgdjgbjaaQ9
import Derived.Deep.RegionLaw
namespace Go.Proofs.Ytalbhllgdjgbjaa.Q
open Go.RowKit Go.Proofs.YtalbhllgdjgbjaaW.PrintWords Go.Proofs.YtalbhllgdjgbjaaW.PrintLast Go.Proofs.YtalbhllgdjgbjaaW.PrintMore
set_option linter.unusedVariables false
set_option linter.unusedSimpArgs false

/-- A disk in memory: its block g, laid from B on; its faults in a row of its own. -/
def Disk (T B : Nat) (W : World) (g : Nat) (img : ByteArray) (fs : List S40) (n : Int) : Prop :=
  ∃ v, W.heap[g]? = some (.cells #[.string img, v, .int .i64 n] T (0, 0)) ∧ B ≤ g ∧ Kd.R k40 40 W B (fun k => k ≠ g) v fs
def mayB (f : S40) : Bool := decide (1 ≤ f.f1) && decide (f.f1 ≤ 3) && decide (0 ≤ f.f0) && decide (0 ≤ f.f2) && decide (0 ≤ f.f3) && decide (f.f3 ≤ 7)
theorem mayB_f (f : S40) : block_may.f f.f0 f.f1 f.f2 f.f3 = some (mayB f) := by
  unfold block_may.f mayB
  by_cases h1 : 1 ≤ f.f1 <;> by_cases h2 : f.f1 ≤ 3 <;> by_cases h3 : 0 ≤ f.f0 <;> by_cases h4 : 0 ≤ f.f2 <;> by_cases h5 : 0 ≤ f.f3 <;> simp [h1, h2, h3, h4, h5]
def okFs (fs : List S40) : Prop := ∀ k, k < fs.length → mayB (rd_T40 fs (k : Int)) = true ∧ atF (fs.take k) (rd_T40 fs (k : Int)).f0 = none
def NewPost (T : Nat) (w : World) (img : ByteArray) (fs : List S40) (e : Ending) (w' : World) : Prop :=
  (okFs fs ∧ (∃ g, e = .returned (.tuple #[.pointer (some ⟨g, 0, none⟩), .int .i64 0]) ∧ Disk T w.heap.size w' g img fs 0) ∧ Below w.heap.size w w') ∨
  (¬ okFs fs ∧ e = .returned (.tuple #[.pointer none, .int .i64 103]) ∧ Below w.heap.size w w')
theorem take_snoc40 (fs : List S40) (k : Nat) (h : k < fs.length) : fs.take (k + 1) = fs.take k ++ [rd_T40 fs (k : Int)] := by
  rw [List.take_succ_eq_append_getElem h]; simp [rd_T40, List.getD_eq_getElem?_getD, List.getElem?_eq_getElem h]

theorem law_of_step {b : Bool} {X Y E : Prop} (hw : b = true) (h : if b = true then X else Y) : if b = true then X else E := by
  rw [if_pos hw] at h ⊢; exact h

set_option maxHeartbeats 4000000 in
set_option maxRecDepth 100000 in
theorem new_main (img : ByteArray) (A : Option Addr) (c : Nat) (fs : List S40) (w : World) (hi : img.size ≤ 65552) (hm : fs.length ≤ 64) (hC : Kd.C k40 w A fs.length fs) :
    Calls Try.prog 15 #[.string img, .slice A fs.length c] w (NewPost 59 w img fs) := by
  have hu40 := Try.underlying40
  have hu59 := Try.underlying59
  have d1 : decide (65552 < (img.size : Int)) = false := decide_eq_false (by omega)
  have d2 : decide (64 < (fs.length : Int)) = false := decide_eq_false (by omega)
  have d1' : decide (65552 < img.size) = false := decide_eq_false (by omega)
  have d2' : decide (64 < fs.length) = false := decide_eq_false (by omega)
  have HC := Aside0.mk hC
  clear hC
  go_enter Try.func15, Try.ntmps15
  go_wp2
  go_loopw [22] (fun i wr => ∃ k : Nat, k ≤ fs.length ∧ i = .int .i64 k ∧ Aside0 (∀ j, j < k → mayB (rd_T40 fs (j : Int)) = true ∧ atF (fs.take j) (rd_T40 fs (j : Int)).f0 = none) ∧ Aside0 (Below w.heap.size w wr) ∧ Aside0 (Disk 59 w.heap.size wr w.heap.size img (fs.take k) 0)) (fun i _ => fs.length - (intOf i).toNat)
  case atStart => exact ⟨0, Nat.zero_le _, rfl, ⟨fun j hj => absurd hj (by omega)⟩, ⟨below_alloc (Below.refl _ _) _⟩, ⟨_, blk_new w _, Nat.le_refl _, by simpa using Kd.R_nil k40 40 _ w.heap.size _⟩⟩
  case round =>
    obtain ⟨k, hk, rfl, HN, HB, HD⟩ := hrel
    obtain ⟨v, hb, _, hR⟩ := HD.out
    obtain ⟨A1, c1, rfl, hc1, hC1⟩ := Kd.R_reads hR
    have hsz : w.heap.size < wr.heap.size := blk_lt hb
    have HBB := Aside0.mk hb
    have HR := Aside0.mk hR
    have HC1 := Aside0.mk hC1
    clear hb hR hC1 hc1
    by_cases hlt : k < fs.length
    · obtain ⟨ad, eA, hx0, hx1, hx2, hx3⟩ := at_T40 HC.out (k : Int) (by omega) (by omega)
      subst eA
      replace hx0 := pw_cell_below HB.out hx0
      replace hx1 := pw_cell_below HB.out hx1
      replace hx2 := pw_cell_below HB.out hx2
      replace hx3 := pw_cell_below HB.out hx3
      simp only [Int.toNat_natCast] at hx0 hx1 hx2 hx3
      generalize hf : rd_T40 fs (k : Int) = f at hx0 hx1 hx2 hx3
      have HF := Lib.hid hf
      clear hf
      go_wp2_with fail
      refine (at_calls w.heap.size img A1 c1 (fs.take k) 0 f.f0 _ (blk_alloc HBB.out _) (Kd.C_alloc HC1.out _) (by simp; omega)).mono ?_
      rintro e w2 ⟨rfl, hbl⟩
      generalize atV (fs.take k) f.f0 = fv
      rw [cells40]
      have hf2 : w2.heap[wr.heap.size]? = some (.cells (cells40 f) 40 (0, 0)) := by rw [hbl.block _ (by simp)]; exact blk_new wr _
      have HB2 : Aside0 (Below w.heap.size w w2) := ⟨below_then (below_alloc HB.out _) (by simp; omega) hbl⟩
      have hd2 : w2.heap[w.heap.size]? = some (.cells #[.string img, .slice A1 (fs.take k).length c1, .int .i64 0] 59 (0, 0)) := by
        rw [hbl.block _ (by simp; omega)]; exact blk_alloc HBB.out _
      have HR2 : Aside0 (Kd.R k40 40 w2 w.heap.size (fun k => k ≠ w.heap.size) (.slice A1 (fs.take k).length c1) (fs.take k)) := ⟨Kd.R_below (Kd.R_alloc HR.out _) hbl⟩
      have hlt2 : wr.heap.size < w2.heap.size := blk_lt hf2
      have HF2 := Aside0.mk hf2
      have HD2 := Aside0.mk hd2
      clear hbl hf2 hd2
      by_cases ha : (atF (fs.take k) f.f0).isSome = true
      · rw [ha]
        have HA := Lib.hid ha
        clear ha
        have h0 : w2.cell? ⟨wr.heap.size, 0, none⟩ = some (.int .i64 f.f0) := (blk_cell HF2.out 0).trans rfl
        go_wp2
        go_ret2
        refine Or.inr ⟨fun hok => ?_, rfl, below_alloc HB2.out _⟩
        have := (hok k hlt).2
        rw [HF.out] at this
        have h2 := HA.out
        rw [this] at h2
        exact absurd h2 (by simp)
      · have ha' : (atF (fs.take k) f.f0).isSome = false := by simpa using ha
        rw [ha']
        have HA := Lib.hid ha'
        clear ha ha'
        have h0 : w2.cell? ⟨wr.heap.size, 0, none⟩ = some (.int .i64 f.f0) := (blk_cell HF2.out 0).trans rfl
        have h1 : w2.cell? ⟨wr.heap.size, 1, none⟩ = some (.int .i64 f.f1) := (blk_cell HF2.out 1).trans rfl
        have h2 : w2.cell? ⟨wr.heap.size, 2, none⟩ = some (.int .i64 f.f2) := (blk_cell HF2.out 2).trans rfl
        have h3 : w2.cell? ⟨wr.heap.size, 3, none⟩ = some (.int .i64 f.f3) := (blk_cell HF2.out 3).trans rfl
        go_wp2_with fail
        refine (block_may.calls f.f0 f.f1 f.f2 f.f3 (mayB f) _ (mayB_f f)).mono ?_
        rintro e w3 ⟨rfl, hb3⟩
        clear h0 h1 h2 h3
        have hf3 : w3.heap[wr.heap.size]? = some (.cells (cells40 f) 40 (0, 0)) := by rw [hb3.block _ (by simp; omega)]; exact blk_alloc HF2.out _
        have HB3 : Aside0 (Below w.heap.size w w3) := ⟨below_then (below_alloc HB2.out _) (by simp; omega) hb3⟩
        have hd3 : w3.heap[w.heap.size]? = some (.cells #[.string img, .slice A1 (fs.take k).length c1, .int .i64 0] 59 (0, 0)) := by
          rw [hb3.block _ (by simp; omega)]; exact blk_alloc HD2.out _
        have HR3 : Aside0 (Kd.R k40 40 w3 w.heap.size (fun k => k ≠ w.heap.size) (.slice A1 (fs.take k).length c1) (fs.take k)) := ⟨Kd.R_below (Kd.R_alloc HR2.out _) hb3⟩
        have hlt3 : wr.heap.size < w3.heap.size := blk_lt hf3
        have HD3 := Aside0.mk hd3
        clear hb3
        by_cases hmy : mayB f = true
        · rw [hmy]
          have HM := Lib.hid hmy
          clear hmy
          have h0 : w3.cell? ⟨wr.heap.size, 0, none⟩ = some (.int .i64 f.f0) := (blk_cell hf3 0).trans rfl
          have h1 : w3.cell? ⟨wr.heap.size, 1, none⟩ = some (.int .i64 f.f1) := (blk_cell hf3 1).trans rfl
          have h2 : w3.cell? ⟨wr.heap.size, 2, none⟩ = some (.int .i64 f.f2) := (blk_cell hf3 2).trans rfl
          have h3 : w3.cell? ⟨wr.heap.size, 3, none⟩ = some (.int .i64 f.f3) := (blk_cell hf3 3).trans rfl
          have z1 : w3.cell? ⟨w.heap.size, 1, none⟩ = some (.slice A1 (fs.take k).length c1) := (blk_cell hd3 1).trans rfl
          have zf := blk_frozen hd3 1
          have hlt4 : w.heap.size < w3.heap.size := blk_lt hd3
          clear hf3 hd3
          go_wp2
          go_region_law (refine law_of_step ?hw (Kd.R_append_step k40 (w0 := w) (W := w3.drew) w.heap.size ?hw2 (.tmp 43) (.tmp 45) 29 40 (.agg #[.int .i64 0, .int .i64 0, .int .i64 0, .int .i64 0]) 32 ?ho Try.underlying29 info40 rfl (by decide) (by decide) (.slice A1 (fs.take k).length c1) (fs.take k) f [.int .i64 f.f0, .int .i64 f.f1, .int .i64 f.f2, .int .i64 f.f3] (fun k => k ≠ w.heap.size) (fun _ => False) ?hs ?hx (k40_mkM _ _ _ f) (fun _ h => h.elim) ?hfr ?hO ?hB ?hb ?hl ?_); (case hw => simp [Region.wanted]); (case hw2 => simp [Region.wanted]); (case ho => rfl); (case hs => simp [Act.eval, Act.put, List.length_take]; omega); (case hx => simp [Act.eval, Act.put]); (case hfr => intro q hq; simp at hq; omega); (case hO => exact Kd.R_drew HR3.out); (case hB => exact below_drew1 HB3.out); (case hb => simp; omega); (case hl => simp; omega); intro v1 w4 hR4 hB4 hg4 hat4; obtain ⟨A4, c4, rfl⟩ := Kd.R_slice hR4; rw [show (List.take k fs ++ [f]).length = k + 1 from by simp; omega] at hR4; have hd4 := (hg4.block w.heap.size (by simp; omega) (Kd.R_away HR3.out (fun _ h => h))).trans HD3.out; have q4 := blk_cell hd4 1; simp only [List.getElem?_toArray, List.getElem?_cons_succ, List.getElem?_cons_zero] at q4; have z4 := blk_frozen hd4 1; have HD4 := Aside0.mk hd4; have HR4 := Aside0.mk hR4; have HB4 := Aside0.mk hB4; clear hd4 hR4 hB4 hg4 hat4)
          all_goals
            go_wp2
            go_roundw
            case rel =>
              refine ⟨k + 1, by omega, by go_num, ⟨fun j hj => ?_⟩, ⟨below_set HB4.out (Nat.le_refl _)⟩, ⟨_, blk_put HD4.out 1 _ rfl, Nat.le_refl _, ?_⟩⟩
              · rcases Nat.lt_succ_iff_lt_or_eq.1 hj with h | rfl
                · exact HN.out j h
                · rw [HF.out]; exact ⟨HM.out, by have := HA.out; cases hq : atF (fs.take j) f.f0 with | none => rfl | some _ => rw [hq] at this; exact absurd this (by simp)⟩
              · rw [take_snoc40 fs k hlt, HF.out]; exact Kd.R_far (p := ⟨w.heap.size, 1, none⟩) HR4.out (fun _ h => h) _
            case measure => simp [intOf]; omega
        · have hmy' : mayB f = false := by simpa using hmy
          rw [hmy']
          have HM := Lib.hid hmy'
          clear hmy hmy' hf3 hd3
          go_wp2
          go_ret2
          refine Or.inr ⟨fun hok => ?_, rfl, HB3.out⟩
          have := (hok k hlt).1
          rw [HF.out, HM.out] at this
          exact absurd this (by simp)
    · go_wp2
      go_ret2
      have e : k = fs.length := by omega
      subst e
      rw [List.take_length] at HD
      exact Or.inl ⟨fun j hj => HN.out j hj, ⟨_, rfl, HD.out⟩, HB.out⟩
end Go.Proofs.Ytalbhllgdjgbjaa.Q
