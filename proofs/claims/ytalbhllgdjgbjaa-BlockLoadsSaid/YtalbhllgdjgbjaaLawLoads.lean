import Derived.Test.YtalbhllgdjgbjaaOpsOpen
import Derived.StillTailTactics
namespace Go.Proofs.Ytalbhllgdjgbjaa.Q
open Go.RowKit Go.Proofs.YtalbhllgdjgbjaaW.PrintWords Go.Proofs.YtalbhllgdjgbjaaW.PrintLast Go.Proofs.YtalbhllgdjgbjaaW.PrintMore
set_option linter.unusedVariables false
set_option linter.unusedSimpArgs false

theorem readN_le (img : ByteArray) (n a k : Int) : n ≤ readN img n a k ∧ readN img n a k ≤ n + 1 := by unfold readN; split <;> omega
/-- The other disk stays. -/
theorem DiskE.only {T B E B1 E1 g : Nat} {w w' : World} {img : ByteArray} {fs : List S40} {n : Int} (h : DiskE T B E w g img fs n) (ho : Only B1 E1 w w') (hE : E ≤ w.heap.size) (hd : E ≤ B1 ∨ E1 ≤ B) : DiskE T B E w' g img fs n :=
  h.keep (fun k h1 h2 => ho.block k (by omega) (by omega))

theorem str_eq (s : ByteArray) : (s.toList == s.toList) = true := by simp
theorem cell_disk {T B g : Nat} {w : World} {img : ByteArray} {fs : List S40} {n : Int} (h : Disk T B w g img fs n) : w.cell? ⟨g, 2, none⟩ = some (.int .i64 n) := by
  obtain ⟨v, hb, _⟩ := h
  exact (blk_cell hb 2).trans rfl
theorem reads_cell (g : Nat) (n : Int) (w : World) (z : w.cell? ⟨g, 2, none⟩ = some (.int .i64 n)) :
    Calls Try.prog 20 #[.pointer (some ⟨g, 0, none⟩)] w fun e w' => e = .returned (.int .i64 n) ∧ w = w' := by
  go_enter Try.func20, Try.ntmps20
  go_wp2
  go_ret
  exact ⟨rfl, rfl⟩

set_option maxHeartbeats 4000000 in
set_option maxRecDepth 100000 in
theorem loads_calls (img : ByteArray) (hi : img.size ≤ 140737488351232) (A : Option Addr) (c : Nat) (fs : List S40) (hm : fs.length ≤ 140737488355328) (A2 : Option Addr) (c2 : Nat) (os : List S43) (hos : os.length ≤ 140737488355328) (w : World)
    (hC : Kd.C k40 w A fs.length fs) (hC2 : Kd.C k43 w A2 os.length os) (hr : ∀ k : Nat, k < os.length → -9223372036854775808 ≤ (rd_T43 os (k : Int)).f1) :
    Calls Try.prog 5 #[.string img, .slice A fs.length c, .slice A2 os.length c2] w fun e w' => e = .returned (.bool true) ∧ Below w.heap.size w w' := by
  have HC := Aside0.mk hC
  have HC2 := Aside0.mk hC2
  have HR := Aside0.mk hr
  clear hC hC2 hr
  by_cases hg : goodN img fs
  · have HG := Aside0.mk hg
    have hi6 : img.size ≤ 65552 := hg.1
    have hm6 : fs.length ≤ 64 := hg.2.1
    clear hg
    go_enter Try.func5, Try.ntmps5
    go_wp2_with fail
    refine (new_any img A c fs _ (by omega) hm HC.out).mono ?_
    rintro e w1 (⟨_, ⟨g, rfl, hd1⟩, hb1⟩ | ⟨hn, _⟩)
    case inr => exact absurd HG.out hn
    have HD1 := Aside0.mk hd1
    have HB1 := Aside0.mk hb1
    clear hd1 hb1
    go_wp2_with fail
    refine (rnew_any img A c fs _ (by omega) hm (Kd.C_below HC.out HB1.out)).mono ?_
    rintro e w2 (⟨_, ⟨x, rfl, hd2⟩, hb2⟩ | ⟨hn, _⟩)
    case inr => exact absurd HG.out hn
    have HDA : Aside0 (DiskE 59 w.heap.size w1.heap.size w2 g img fs 0) := ⟨HD1.out.toE.below hb2 (Nat.le_refl _)⟩
    have HDB : Aside0 (DiskE 46 w1.heap.size w2.heap.size w2 x img fs 0) := ⟨hd2.toE⟩
    have HB2 := Aside0.mk (below_step HB1.out hb2)
    have hE1 : w.heap.size ≤ w1.heap.size := HB1.out.size
    have hE2 : w1.heap.size ≤ w2.heap.size := hb2.size
    obtain ⟨E1, e1⟩ : ∃ E, E = w1.heap.size := ⟨_, rfl⟩
    obtain ⟨E2, e2⟩ : ∃ E, E = w2.heap.size := ⟨_, rfl⟩
    rw [← e1] at HDA HDB hE1 hE2
    rw [← e2] at HDB hE2
    have he2 : E2 ≤ w2.heap.size := by omega
    clear hd2 hb2 HD1 e1 e2 HB1
    go_wp2
    go_loopw [11] (fun v11 wr => ∃ (k : Nat) (n : Int), v11 = .int .i64 k ∧ k ≤ os.length ∧ 0 ≤ n ∧ n ≤ k ∧ E2 ≤ wr.heap.size ∧ Aside0 (Below w.heap.size w wr) ∧ Aside0 (DiskE 59 w.heap.size E1 wr g img fs n) ∧ Aside0 (DiskE 46 E1 E2 wr x img fs n)) (fun v11 _ => os.length - (intOf v11).toNat)
    case atStart => exact ⟨0, 0, rfl, Nat.zero_le _, by omega, by omega, he2, HB2, HDA, HDB⟩
    case round =>
      clear HB2 HDA HDB he2
      obtain ⟨k, n, rfl, hk, hn0, hnk, hsz, HB, HDA, HDB⟩ := hrel
      by_cases hlt : k < os.length
      · have d0 : decide ((k : Int) < (os.length : Int)) = true := decide_eq_true (by omega)
        obtain ⟨ad, eA, hx0, hx1⟩ := at_T43 HC2.out (k : Int) (by omega) (by omega)
        subst eA
        simp only [Int.toNat_natCast] at hx0 hx1
        have hf1 := HR.out k hlt
        generalize rd_T43 os (k : Int) = f at hx0 hx1 hf1
        have X0 := Aside0.mk hx0
        have X1 := Aside0.mk hx1
        replace hx0 := pw_cell_below HB.out hx0
        replace hx1 := pw_cell_below HB.out hx1
        go_upto_region 10 with (fail)
        go_still_tail 11, (by kernel_rfl)
        change wpList _ _ _ _ _ wr.drew
        go_wp2_with fail
        refine (readE w.heap.size E1 g img fs n f.f0 f.f1 wr.drew (HDA.out.drewN 1) (by simp; omega) HG.out.2.2 (by omega) hi6 hn0 (by omega) hf1).mono ?_
        rintro e w3 ⟨rfl, hd3, ho3⟩
        have hl := readN_le img n f.f0 f.f1
        have hgl := HDA.out.lt
        have HDA2 := Aside0.mk hd3
        have HDB2 : Aside0 (DiskE 46 E1 E2 w3 x img fs n) := ⟨(HDB.out.drewN 1).only ho3 (by simp; omega) (by omega)⟩
        have HB2 : Aside0 (Below w.heap.size w w3) := ⟨ho3.below (below_drew HB.out) (by omega) (by simp; omega)⟩
        have hs3 : E2 ≤ w3.heap.size := by have := ho3.size; simp at this; omega
        clear hx0 hx1 hd3 ho3
        have hx0 := pw_cell_below HB2.out X0.out
        have hx1 := pw_cell_below HB2.out X1.out
        go_upto_region 11 with (fail)
        go_still_tail 11, (by kernel_rfl)
        change wpList _ _ _ _ _ w3.drew
        go_wp2_with fail
        refine (rreadE E1 E2 x img fs n f.f0 f.f1 w3.drew (HDB2.out.drewN 1) (by simp; omega) HG.out.2.2 (by omega) hi6 hn0 (by omega) hf1).mono ?_
        rintro e w4 ⟨rfl, hd4, ho4⟩
        have HDB3 := Aside0.mk hd4
        have hs4 := ho4.size
        simp at hs4
        have HDA3 : Aside0 (DiskE 59 w.heap.size E1 w4 g img fs (readN img n f.f0 f.f1)) := ⟨(HDA2.out.drewN 1).only ho4 (by simp; omega) (by have := HDB2.out.lt; omega)⟩
        have hxl := HDB2.out.lt
        have HB3 : Aside0 (Below w.heap.size w w4) := ⟨ho4.below (below_drew HB2.out) (by omega) (by simp; omega)⟩
        clear hd4 ho4 hx0 hx1
        go_wp2
        go_roundw
        case rel => exact ⟨k + 1, _, rfl, by omega, by omega, by push_cast; omega, by omega, HB3, HDA3, HDB3⟩
        case measure => simp [intOf]; omega
      · have d0 : decide ((k : Int) < (os.length : Int)) = false := decide_eq_false (by omega)
        go_wp2_with fail
        refine (load_calls w.heap.size E1 g img fs n wr HDA.out (by omega) HG.out.2.2 (by omega) hi6 hn0 (by omega)).mono ?_
        rintro e w3 ⟨rfl, hd3, ho3⟩
        have hgl := HDA.out.lt
        have hs3 := ho3.size
        have HDA2 := Aside0.mk hd3
        have HDB2 := Aside0.mk (HDB.out.only ho3 (by omega) (by omega))
        have HB2 : Aside0 (Below w.heap.size w w3) := ⟨ho3.below HB.out (by omega) (by omega)⟩
        clear hd3 ho3
        go_wp2_with fail
        refine (rload_calls E1 E2 x img fs n w3 HDB2.out (by omega) HG.out.2.2 (by omega) hi6 hn0 (by omega)).mono ?_
        rintro e w4 ⟨rfl, hd4, ho4⟩
        have hxl := HDB2.out.lt
        have hs4 := ho4.size
        have HDA3 := Aside0.mk (HDA2.out.only ho4 (by omega) (by omega))
        have HDB3 := Aside0.mk hd4
        have HB3 : Aside0 (Below w.heap.size w w4) := ⟨ho4.below HB2.out (by omega) (by omega)⟩
        clear hd4 ho4 HDA2 HDB2 HDA HDB
        have ha := cell_disk HDA3.out.toD
        have hb := cell_disk HDB3.out.toD
        generalize loadP img fs n = q at ha hb
        obtain ⟨s, en, nn⟩ := q
        dsimp only at ha hb
        clear HDA3 HDB3
        have ks := str_eq s
        go_upto_region 14 with (fail)
        go_region_held3 (fun w' => w'.cell? ⟨g, 2, none⟩ = some (.int .i64 nn) ∧ w'.cell? ⟨x, 2, none⟩ = some (.int .i64 nn)) (first | go_keep | exact ⟨pw_cell_below ‹Below _ _ _› (by first | assumption | (simp; assumption)), pw_cell_below ‹Below _ _ _› (by first | assumption | (simp; assumption))⟩)
          (first | (go_at_call 20; refine (reads_cell _ nn _ (by assumption)).mono ?_; rintro e w5 ⟨rfl, rfl⟩) | (go_at_call 13; refine (fixed_calls _).mono ?_; rintro e w5 ⟨rfl, hb5⟩))
        go_wp2
        go_ret
        exact ⟨rfl, below_step (below_drew HB3.out) hb5⟩
  · have HG := Aside0.mk hg
    clear hg
    go_enter Try.func5, Try.ntmps5
    go_wp2_with fail
    refine (new_any img A c fs _ (by omega) hm HC.out).mono ?_
    rintro e w1 (⟨hn, _⟩ | ⟨_, rfl, hb1⟩)
    case inl => exact absurd hn HG.out
    have HB1 := Aside0.mk hb1
    clear hb1
    go_wp2_with fail
    refine (rnew_any img A c fs _ (by omega) hm (Kd.C_below HC.out HB1.out)).mono ?_
    rintro e w2 (⟨hn, _⟩ | ⟨_, rfl, hb2⟩)
    case inl => exact absurd hn HG.out
    have HB2 := Aside0.mk (below_step HB1.out hb2)
    clear hb2
    generalize errN img = en
    go_wp2_with fail
    refine (fixed_calls _).mono ?_
    rintro e w3 ⟨rfl, hb3⟩
    go_wp2
    go_ret
    exact ⟨rfl, below_step HB2.out hb3⟩
/-- The same, in the row's order. -/
theorem loads_row (w : World) (img : ByteArray) (hi : img.size ≤ 140737488351232) (A : Option Addr) (c : Nat) (fs : List S40) (hC : Kd.C k40 w A fs.length fs) (ok : ∀ y ∈ fs, wf64 y.f0 ∧ wf64 y.f1 ∧ wf64 y.f2 ∧ wf64 y.f3) (y : fs.length * 32 ≤ 140737488351232)
    (A2 : Option Addr) (c2 : Nat) (os : List S43) (hC2 : Kd.C k43 w A2 os.length os) (ok2 : ∀ y ∈ os, wf64 y.f0 ∧ wf64 y.f1) (y2 : os.length * 16 ≤ 140737488351232) :
    Calls Try.prog 5 #[.string img, .slice A fs.length c, .slice A2 os.length c2] w fun e w' => e = .returned (.bool true) ∧ Below w.heap.size w w' :=
  loads_calls img hi A c fs (by omega) A2 c2 os (by omega) w hC hC2 (ops_wf ok2)
end Go.Proofs.Ytalbhllgdjgbjaa.Q
