import Derived.Test.YtalbhllgdjgbjaaNew
namespace Go.Proofs.Ytalbhllgdjgbjaa.Q
open Go.RowKit Go.Proofs.YtalbhllgdjgbjaaW.PrintWords Go.Proofs.YtalbhllgdjgbjaaW.PrintLast Go.Proofs.YtalbhllgdjgbjaaW.PrintMore
set_option linter.unusedVariables false
set_option linter.unusedSimpArgs false

theorem mayB_mk {f : S40} (h1 : ¬ f.f1 < 1) (h2 : ¬ 3 < f.f1) (h3 : ¬ f.f0 < 0) (h4 : ¬ f.f2 < 0) (h5 : ¬ f.f3 < 0) (h6 : ¬ 7 < f.f3) : mayB f = true := by
  unfold mayB; simp; omega
theorem mayB_not {f : S40} (h : f.f1 < 1 ∨ 3 < f.f1 ∨ f.f0 < 0 ∨ f.f2 < 0 ∨ f.f3 < 0 ∨ 7 < f.f3) : mayB f ≠ true := by
  unfold mayB; simp; omega

set_option maxHeartbeats 4000000 in
set_option maxRecDepth 100000 in
theorem rnew_main (img : ByteArray) (A : Option Addr) (c : Nat) (fs : List S40) (w : World) (hi : img.size ≤ 65552) (hm : fs.length ≤ 64) (hC : Kd.C k40 w A fs.length fs) :
    Calls Try.prog 16 #[.string img, .slice A fs.length c] w (NewPost 46 w img fs) := by
  have hu40 := Try.underlying40
  have hu46 := Try.underlying46
  have d1 : decide (65552 < (img.size : Int)) = false := decide_eq_false (by omega)
  have d2 : decide (64 < (fs.length : Int)) = false := decide_eq_false (by omega)
  have d1' : decide (65552 < img.size) = false := decide_eq_false (by omega)
  have d2' : decide (64 < fs.length) = false := decide_eq_false (by omega)
  have HC := Aside0.mk hC
  clear hC
  go_enter Try.func16, Try.ntmps16
  go_wp2
  go_loopw [6] (fun i wr => ∃ k : Nat, k ≤ fs.length ∧ i = .int .i64 k ∧ Aside0 (∀ j, j < k → mayB (rd_T40 fs (j : Int)) = true ∧ atF (fs.take j) (rd_T40 fs (j : Int)).f0 = none) ∧ Aside0 (Below w.heap.size w wr)) (fun i _ => fs.length - (intOf i).toNat)
  case atStart => exact ⟨0, Nat.zero_le _, rfl, ⟨fun j hj => absurd hj (by omega)⟩, ⟨Below.refl _ _⟩⟩
  case round =>
    obtain ⟨k, hk, rfl, HN, HB⟩ := hrel
    by_cases hlt : k < fs.length
    · obtain ⟨ad, eA, hx0, hx1, hx2, hx3⟩ := at_T40 HC.out (k : Int) (by omega) (by omega)
      subst eA
      replace hx0 := pw_cell_below HB.out hx0
      replace hx1 := pw_cell_below HB.out hx1
      replace hx2 := pw_cell_below HB.out hx2
      replace hx3 := pw_cell_below HB.out hx3
      simp only [Int.toNat_natCast] at hx0 hx1 hx2 hx3
      generalize hf : rd_T40 fs (k : Int) = f at hx0 hx1 hx2 hx3
      have HF := Lib.hid hf
      clear hf
      have bad : mayB f ≠ true → ¬ okFs fs := fun hn hok => hn (by have := (hok k hlt).1; rwa [HF.out] at this)
      have BAD := Aside0.mk bad
      clear bad
      by_cases a1 : f.f1 < 1
      · have b1 : decide (f.f1 < 1) = true := decide_eq_true a1
        have hn := Aside0.mk (BAD.out (mayB_not (.inl a1))); clear a1
        go_wp2
        go_ret2
        exact Or.inr ⟨hn.out, rfl, below_alloc HB.out _⟩
      have b1 : decide (f.f1 < 1) = false := decide_eq_false a1
      by_cases a2 : 3 < f.f1
      · have b2 : decide (3 < f.f1) = true := decide_eq_true a2
        have hn := Aside0.mk (BAD.out (mayB_not (.inr (.inl a2)))); clear a1 a2
        go_wp2
        go_ret2
        exact Or.inr ⟨hn.out, rfl, below_alloc HB.out _⟩
      have b2 : decide (3 < f.f1) = false := decide_eq_false a2
      by_cases a3 : f.f0 < 0
      · have b3 : decide (f.f0 < 0) = true := decide_eq_true a3
        have hn := Aside0.mk (BAD.out (mayB_not (.inr (.inr (.inl a3))))); clear a1 a2 a3
        go_wp2
        go_ret2
        exact Or.inr ⟨hn.out, rfl, below_alloc HB.out _⟩
      have b3 : decide (f.f0 < 0) = false := decide_eq_false a3
      by_cases a4 : f.f2 < 0
      · have b4 : decide (f.f2 < 0) = true := decide_eq_true a4
        have hn := Aside0.mk (BAD.out (mayB_not (.inr (.inr (.inr (.inl a4)))))); clear a1 a2 a3 a4
        go_wp2
        go_ret2
        exact Or.inr ⟨hn.out, rfl, below_alloc HB.out _⟩
      have b4 : decide (f.f2 < 0) = false := decide_eq_false a4
      by_cases a5 : f.f3 < 0
      · have b5 : decide (f.f3 < 0) = true := decide_eq_true a5
        have hn := Aside0.mk (BAD.out (mayB_not (.inr (.inr (.inr (.inr (.inl a5))))))); clear a1 a2 a3 a4 a5
        go_wp2
        go_ret2
        exact Or.inr ⟨hn.out, rfl, below_alloc HB.out _⟩
      have b5 : decide (f.f3 < 0) = false := decide_eq_false a5
      by_cases a6 : 7 < f.f3
      · have b6 : decide (7 < f.f3) = true := decide_eq_true a6
        have hn := Aside0.mk (BAD.out (mayB_not (.inr (.inr (.inr (.inr (.inr a6))))))); clear a1 a2 a3 a4 a5 a6
        go_wp2
        go_ret2
        exact Or.inr ⟨hn.out, rfl, below_alloc HB.out _⟩
      have b6 : decide (7 < f.f3) = false := decide_eq_false a6
      have HM := Aside0.mk (mayB_mk a1 a2 a3 a4 a5 a6)
      clear a1 a2 a3 a4 a5 a6
      obtain ⟨wo, hwo⟩ : ∃ wo : World, wo = wr := ⟨_, rfl⟩
      rw [← hwo] at hx0 hx1 hx2 hx3 HB ⊢
      clear hwo
      go_wp2
      go_loopw [8] (fun i w2 => ∃ j : Nat, j ≤ k ∧ i = .int .i64 j ∧ Aside0 (∀ q, q < j → (rd_T40 fs (q : Int)).f0 ≠ f.f0) ∧ Aside0 (Below w.heap.size w w2) ∧ Aside0 (w2.heap[wo.heap.size]? = some (.cells #[.int .i64 f.f0, .int .i64 f.f1, .int .i64 f.f2, .int .i64 f.f3] 40 (0, 0)))) (fun i _ => k - (intOf i).toNat)
      case atStart => exact ⟨0, Nat.zero_le _, rfl, ⟨fun j hj => absurd hj (by omega)⟩, ⟨below_alloc HB.out _⟩, ⟨blk_new wo _⟩⟩
      case round =>
        clear hx0 hx1 hx2 hx3 b1 b2 b3 b4 b5 b6
        obtain ⟨j, hj, rfl, HQ, HB2, HF2⟩ := hrel
        by_cases hjk : j < k
        · obtain ⟨ad2, eA, hx0, hx1, hx2, hx3⟩ := at_T40 HC.out (j : Int) (by omega) (by omega)
          injection eA with eA
          subst eA
          replace hx0 := pw_cell_below HB2.out hx0
          clear hx1 hx2 hx3
          simp only [Int.toNat_natCast] at hx0
          have c0 : wr.cell? ⟨wo.heap.size, 0, none⟩ = some (.int .i64 f.f0) := (blk_cell HF2.out 0).trans rfl
          have i0 : (0 : Int) ≤ (j : Int) := by omega
          have i1 : (j : Int) < (fs.length : Int) := by omega
          by_cases he : (rd_T40 fs (j : Int)).f0 = f.f0
          · have e0 : ((rd_T40 fs (j : Int)).f0 == f.f0) = true := beq_iff_eq.2 he
            have HE := Lib.hid he
            clear he
            go_wp2
            go_region
            go_wp2
            go_ret2
            refine Or.inr ⟨fun hok => ?_, rfl, below_drew1 HB2.out⟩
            have := (hok k hlt).2
            rw [HF.out] at this
            unfold atF at this
            rw [List.find?_eq_none] at this
            have hh := this (rd_T40 fs (j : Int)) (by
              rw [List.mem_take_iff_getElem]
              exact ⟨j, by omega, by simp [rd_T40, List.getD_eq_getElem?_getD, List.getElem?_eq_getElem (show j < fs.length by omega)]⟩)
            exact hh (by simpa using HE.out)
          · have e0 : ((rd_T40 fs (j : Int)).f0 == f.f0) = false := beq_eq_false_iff_ne.2 he
            have HE := Lib.hid he
            clear he
            go_wp2
            go_region
            go_wp2
            go_roundw
            case rel => exact ⟨j + 1, by omega, by go_num, ⟨fun q hq => (Nat.lt_succ_iff_lt_or_eq.1 hq).elim (HQ.out q) (fun h => h ▸ HE.out)⟩, ⟨below_drew1 HB2.out⟩, ⟨HF2.out⟩⟩
            case measure => simp [intOf]; omega
        · have ejk : j = k := by omega
          subst ejk
          go_wp2
          go_roundw
          case rel =>
            refine ⟨j + 1, by omega, by go_num, ⟨fun q hq => ?_⟩, ⟨HB2.out⟩⟩
            rcases Nat.lt_succ_iff_lt_or_eq.1 hq with h | rfl
            · exact HN.out q h
            · rw [HF.out]
              refine ⟨HM.out, ?_⟩
              unfold atF
              rw [List.find?_eq_none]
              intro x hx
              obtain ⟨i, hi2, rfl⟩ := List.mem_take_iff_getElem.1 hx
              have := HQ.out i (by omega)
              simpa [rd_T40, List.getD_eq_getElem?_getD, List.getElem?_eq_getElem (show i < fs.length by omega)] using this
          case measure => simp [intOf]; omega
    · have ek : k = fs.length := by omega
      have HC2 := Aside0.mk (Kd.C_below HC.out HB.out)
      go_wp2_with (first | ((with_reducible refine gate_dst (N := 67) rfl ?_); refine Kd.R_lit k40 (w0 := w) w.heap.size 40 ?hg (N := 67) ?hd (xs := ([] : List (S40))) (inner := []) (ok := fun _ => True) (okp := fun _ => True) ?hr ?hp (fun _ hk => hk) trivial HB.out HB.out.size (by simp) ?_; (case hd => rfl); (case hg => rfl); (case hr => first | (go_simp; done) | (go_simp; rfl)); (case hp => exact (Reps.none _ _)); intro v3 w3 ho3 hb3 hg3 hn3; have HO3 := Aside0.mk ho3; have HB3 := Aside0.mk hb3; have HC3 := Aside0.mk (Kd.C_below HC.out hb3); clear ho3 hb3 hg3 hn3) | ((with_reducible refine gate_builtin (b := .append) (xs := #[.tmp 67, .tmp 68]) rfl ?_); at_builtin; refine Kd.R_append_rows k40 (w0 := w) w.heap.size rfl (.tmp 67) (.tmp 68) 29 40 (.agg #[(.int .i64 0), (.int .i64 0), (.int .i64 0), (.int .i64 0)]) 32 rfl Try.underlying29 info40 rfl (by decide) (by omega) v3 [] fs _ _ _ (fun _ => True) (fun _ => False) rfl rfl ?aO ?aR (fun _ _ h => h) (fun _ h => h.elim) ?aF ?aB ?aS ?aL ?_; (case aR => exact HC3.out); (case aB => exact HB3.out); (case aF => exact (fun _ _ => trivial)); (case aO => exact HO3.out); (case aS => exact HB3.out.size); (case aL => simp; omega); intro v4 w4 ho4 hb4 hg4 hat4; obtain ⟨A4, c4, rfl⟩ := Kd.R_slice ho4; have HO4 := Aside0.mk ho4; have HB4 := Aside0.mk hb4; clear ho4 hb4 hg4 hat4))
      go_ret2
      subst ek
      refine Or.inl ⟨fun j hj => HN.out j hj, ⟨_, rfl, _, blk_new w4 _, HB4.out.size, ?_⟩, below_alloc HB4.out _⟩
      exact Kd.R_alloc (Kd.R_mono (Kd.R_bound HO4.out) (fun q hq => by have := hq.2.2.1; omega)) _
end Go.Proofs.Ytalbhllgdjgbjaa.Q
