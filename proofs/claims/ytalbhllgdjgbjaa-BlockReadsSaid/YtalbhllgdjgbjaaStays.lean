import Derived.Test.YtalbhllgdjgbjaaOps
namespace Go.Proofs.Ytalbhllgdjgbjaa.Q
open Go.RowKit Go.Proofs.YtalbhllgdjgbjaaW.PrintWords Go.Proofs.YtalbhllgdjgbjaaW.PrintLast Go.Proofs.YtalbhllgdjgbjaaW.PrintMore
set_option linter.unusedVariables false
set_option linter.unusedSimpArgs false

/-- The mark behind a copy. -/
def mark40 : S40 := ⟨-7, 0, 0, 0⟩
theorem cut_cap {P : Program} (t e : TypeId) (kh : IntKind) {i : TypeInfo} (ht : P.underlying t = some (.slice e)) (hi : P.info? e = some i) (A : Option Addr) (n c : Nat) (j : Int) (h0 : 0 ≤ j) (hm : j ≤ c) :
    ∀ W : World, (Instr.slice t (.slice A n c) none (some (.int kh j)) none).run P W = .ok (.slice A j.toNat c) W := by
  intro W
  have hel : P.elem t = e := by simp [Program.elem, ht]
  have hu : P.underlying t = some (.slice (P.elem t)) := by rw [hel]; exact ht
  have ha : (A.map fun x => x.add 0) = A := by cases A <;> simp [Addr.add]
  rw [run_slice_h W t A n c hu kh j h0 (by omega), hel]
  simp [sizeOf, typeInfo, hi, sliced, Result.andThen, ha]

set_option maxHeartbeats 8000000 in
set_option maxRecDepth 100000 in
theorem copied_mark (A0 : Option Addr) (c0 : Nat) (l0 : List S40) (w : World) (hr0 : Kd.C k40 w A0 l0.length l0) (hm : l0.length ≤ 4398046510976) :
    Calls Try.prog 14 #[.slice A0 l0.length c0] w fun e w' => ∃ (A : Option Addr) (c : Nat), e = .returned (.slice A l0.length c) ∧ l0.length + 1 ≤ c ∧ Kd.R k40 40 w' w.heap.size (fun _ => True) (.slice A (l0 ++ [mark40]).length c) (l0 ++ [mark40]) ∧ Below w.heap.size w w' := by
  have hu40 := Try.underlying40
  have HR0 := Aside0.mk hr0
  clear hr0
  have HB := Aside0.mk (Below.refl w.heap.size w)
  have hln : (l0 ++ [mark40]).length = l0.length + 1 := by simp
  have HLN := Aside0.mk hln
  have HM := Aside0.mk hm
  clear hln
  obtain ⟨y132, hy132⟩ : ∃ y_ : List (S40), y_ = (([] : List (S40))) := ⟨_, rfl⟩
  obtain ⟨y135, hy135⟩ : ∃ y_ : List (S40), y_ = (y132 ++ l0) := ⟨_, rfl⟩
  obtain ⟨y138, hy138⟩ : ∃ y_ : List (S40), y_ = (y135 ++ [(⟨(-7), 0, 0, 0⟩ : S40)]) := ⟨_, rfl⟩
  have E138 : Aside0 (y138 = l0 ++ [mark40]) := ⟨by rw [hy138, hy135, hy132]; rfl⟩
  have L132 : Aside0 (y132.length = 0) := ⟨by rw [hy132]; rfl⟩
  have L135 : Aside0 (y135.length = l0.length) := ⟨by rw [hy135, hy132]; rfl⟩
  have Ny132 := Aside0.mk hy132
  have Ny135 := Aside0.mk hy135
  have Ny138 := Aside0.mk hy138
  clear hy132 hy135 hy138 hm
  go_enter Try.func14, Try.ntmps14
  go_wp2_with (first
    | ((with_reducible refine gate_dst (N := 3) rfl ?_); refine Kd.R_lit k40 _ 40 ?hg (N := 3) ?hd (xs := ([] : List (S40))) (inner := []) (ok := fun _ => True) (okp := fun _ => True) ?hr ?hp (fun _ hk => hk) trivial (Below.refl _ _) (Nat.le_refl _) (by simp) ?_; (case hd => rfl); (case hg => rfl); (case hr => first | (go_simp; done) | (go_simp; rfl)); (case hp => exact (Reps.none _ _)); intro v133 w6 ho7 hb hg_ hnew_; clear hg_ hnew_; (first | rw [← Ny132.out] at ho7 | (simp only [Int.reduceToNat] at ho7; rw [← Ny132.out] at ho7)); have n0_ := Aside0.mk (Kd.R_lower ho7 (below_size (by repeat (first | (with_reducible first | exact HB.out | apply below_alloc | apply pw_below_drewN | apply below_drew1) | exact HB.out)))); have n1_ := Aside0.mk (below_step (by repeat (first | (with_reducible first | exact HB.out | apply below_alloc | apply pw_below_drewN | apply below_drew1) | exact HB.out)) hb); clear HB; have HO134 := n0_; have HB := n1_; clear n0_ n1_; clear hb ho7)
    | ((with_reducible refine gate_builtin (b := .append) (xs := #[.tmp 3, .tmp 4]) rfl ?_); at_builtin; refine Kd.R_append_rows k40 (w0 := w) w.heap.size rfl (.tmp 3) (.tmp 4) 29 40 (.agg #[(.int .i64 0), (.int .i64 0), (.int .i64 0), (.int .i64 0)]) 32 rfl Try.underlying29 info40 rfl (by decide) (by omega) v133 y132 l0 _ _ _ (fun _ => True) (fun _ => False) rfl rfl ?aO ?aR (fun _ _ h => h) (fun _ h => h.elim) ?aF ?aB ?aS ?aL ?_; (case aR => repeat (first | exact (Kd.C_below HR0.out HB.out) | (with_reducible refine Kd.C_alloc ?_ _) | (with_reducible refine Kd.C_drewN ?_ _) | (with_reducible refine Kd.C_drew ?_))); (case aB => exact (by repeat (first | (with_reducible first | exact HB.out | apply below_alloc | apply pw_below_drewN | apply below_drew1) | exact HB.out))); (case aF => exact (fun _ _ => trivial)); (case aO => exact (by (with_reducible repeat (first | apply Kd.R_alloc | apply Kd.R_drewN | apply Kd.R_drew)); exact HO134.out)); (case aS => exact (below_size (by repeat (first | (with_reducible first | exact HB.out | apply below_alloc | apply pw_below_drewN | apply below_drew1) | exact HB.out)))); (case aL => have := HM.out; have := L132.out; omega); intro v136 w8 ho hb hg hat; rw [← Ny135.out] at ho; have n0_ := Aside0.mk (hb); have n1_ := Aside0.mk (ho); clear HB; clear HO134; have HB := n0_; have HO137 := n1_; clear n0_ n1_; clear ho hb hg hat)
    | ((with_reducible refine gate_builtin (b := .append) (xs := #[.tmp 5, .tmp 7]) rfl ?_); at_builtin; refine Kd.R_append k40 (w0 := w) w.heap.size rfl (.tmp 5) (.tmp 7) 29 40 (.agg #[(.int .i64 0), (.int .i64 0), (.int .i64 0), (.int .i64 0)]) 32 rfl Try.underlying29 info40 rfl (by decide) (by omega) v136 y135 (⟨(-7), 0, 0, 0⟩ : S40) [.int .i64 (-7), .int .i64 0, .int .i64 0, .int .i64 0] (fun _ => True) (fun _ => False) rfl rfl ?aP (fun _ hk => hk.elim) ?aF ?aO ?aB ?aS ?aL ?_; (case aP => exact k40_mkM _ _ _ (⟨(-7), 0, 0, 0⟩ : S40)); (case aB => exact (by repeat (first | (with_reducible first | exact HB.out | apply below_alloc | apply pw_below_drewN | apply below_drew1) | exact HB.out))); (case aF => exact (fun _ _ => trivial)); (case aO => exact (by (with_reducible repeat (first | apply Kd.R_alloc | apply Kd.R_drewN | apply Kd.R_drew)); exact HO137.out)); (case aS => exact (below_size (by repeat (first | (with_reducible first | exact HB.out | apply below_alloc | apply pw_below_drewN | apply below_drew1) | exact HB.out)))); (case aL => have := HM.out; have := L135.out; omega); intro v139 w9 ho hb hg hat; rw [← Ny138.out, E138.out] at ho; have n0_ := Aside0.mk (hb); have n1_ := Aside0.mk (ho); clear HB; clear HO137; have HB := n0_; have HO140 := n1_; clear n0_ n1_; clear ho hb hg hat; obtain ⟨Ao10, co10, eo10⟩ := Kd.R_slice HO140.out; subst eo10; obtain ⟨i011, hi011, _, hsz11, _⟩ := info_parts info40; have hcc := (Kd.R_reads' HO140.out).2.1; have hcut11 := cut_cap (P := Try.prog) 29 40 .i64 Try.underlying29 hi011 Ao10 (l0 ++ [mark40]).length co10 (l0.length : Int) (by omega) (by have := HLN.out; omega); have hcc2 : l0.length + 1 ≤ co10 := (by have := HLN.out; omega); rw [Int.toNat_natCast, HLN.out] at hcut11; have HCC := Aside0.mk hcc2; clear hcc hcc2 hi011 hsz11))
  go_ret
  exact ⟨Ao10, co10, rfl, HCC.out, by (with_reducible repeat (first | apply Kd.R_alloc | apply Kd.R_drewN | apply Kd.R_drew)); exact HO140.out, by repeat (first | (with_reducible first | exact HB.out | apply below_alloc | apply pw_below_drewN | apply below_drew1) | exact HB.out)⟩

theorem eqS40 (d : Nat) (w : World) (x0 y0 : Int) (x1 y1 : Int) (x2 y2 : Int) (x3 y3 : Int) :
    (Op.equalIn (d + 2) 40 (.agg #[.int .i64 x0, .int .i64 x1, .int .i64 x2, .int .i64 x3]) (.agg #[.int .i64 y0, .int .i64 y1, .int .i64 y2, .int .i64 y3])).run Try.prog w = .ok (x0 == y0 && (x1 == y1 && (x2 == y2 && (x3 == y3)))) w := by
  refine eqA_of Try.underlying40 (by kernel_rfl) ?_
  refine eqf_cons (by rfl) (by go_simp; rfl) (by go_simp; rfl) (by go_simp) ?_
  refine eqf_cons (by rfl) (by go_simp; rfl) (by go_simp; rfl) (by go_simp) ?_
  refine eqf_cons (by rfl) (by go_simp; rfl) (by go_simp; rfl) (by go_simp) ?_
  exact eqf_last (by rfl) (by go_simp; rfl) (by go_simp; rfl) (by go_simp)
attribute [local go_sem high] eqS40
theorem rd_left40 (l r : List S40) (k : Nat) (h : k < l.length) : rd_T40 (l ++ r) (k : Int) = rd_T40 l (k : Int) := by
  simp [rd_T40, List.getD_eq_getElem?_getD, List.getElem?_append_left h]
theorem rd_mark (l : List S40) : rd_T40 (l ++ [mark40]) (l.length : Int) = mark40 := by
  simp [rd_T40, List.getD_eq_getElem?_getD]
set_option maxHeartbeats 8000000 in
set_option maxRecDepth 100000 in
theorem stays_mark (A0 : Option Addr) (c0 : Nat) (A1 : Option Addr) (c1 : Nat) (l : List S40) (w : World) (hr0 : Kd.C k40 w A0 (l ++ [mark40]).length (l ++ [mark40])) (hc0 : l.length + 1 ≤ c0) (hr1 : Kd.C k40 w A1 l.length l) (hm : l.length ≤ 4398046510976) :
    Calls Try.prog 17 #[.slice A0 l.length c0, .slice A1 l.length c1] w fun e w' => e = .returned (.bool true) ∧ Drawn0 w w' := by
  have hu40 := Try.underlying40
  have hln : (l ++ [mark40]).length = l.length + 1 := by simp
  have HLN := Aside0.mk hln
  clear hln
  have HR0 := Aside0.mk hr0
  have HC0 := Aside0.mk hc0
  have HR1 := Aside0.mk hr1
  clear hr0 hc0 hr1
  go_enter Try.func17, Try.ntmps17
  go_wp2
  go_loopw [5] (fun v5 w' => ∃ k : Nat, v5 = .int .i64 k ∧ k ≤ l.length ∧ Drawn0 w w') (fun v5 _ => l.length - (intOf v5).toNat)
  case atStart => exact ⟨0, rfl, by omega, Drawn0.refl _⟩
  case round =>
    obtain ⟨k, rfl, hk, ⟨m1, rfl⟩⟩ := hrel
    by_cases hlt : k < l.length
    · have d0 : decide ((k : Int) < (l.length : Int)) = true := decide_eq_true (by omega)
      obtain ⟨ad0, e0, hx0, hx1, hx2, hx3⟩ := at_T40 HR0.out (k : Int) (by omega) (by have := HLN.out; omega)
      cases e0
      obtain ⟨ad1, e1, hy0, hy1, hy2, hy3⟩ := at_T40 HR1.out (k : Int) (by omega) (by omega)
      cases e1
      rw [rd_left40 l _ k hlt] at hx0 hx1 hx2 hx3
      simp only [Int.toNat_natCast] at hx0 hx1 hx2 hx3 hy0 hy1 hy2 hy3
      have p1 : (0 : Int) ≤ (k : Int) := by omega
      have p2 : (k : Int) < (l.length : Int) := by omega
      go_wp2
      go_quiet (fail)
      go_wp2
      go_roundw
      case rel => exact ⟨k + 1, by go_num, by omega, by repeat (first | exact Drawn0.refl _ | apply Drawn0.step)⟩
      case measure => simp [intOf]; omega
    · have d0 : decide ((k : Int) < (l.length : Int)) = false := decide_eq_false (by omega)
      obtain ⟨ad0, e0, hx0, hx1, hx2, hx3⟩ := at_T40 HR0.out (l.length : Int) (by omega) (by have := HLN.out; omega)
      cases e0
      rw [rd_mark] at hx0
      clear hx1 hx2 hx3
      have q0 : wrap64 ((l.length : Int) + 1) = (l.length : Int) + 1 := by unfold wrap64; omega
      have q1 : IntKind.i64.wrap ((l.length : Int) + 1) = (l.length : Int) + 1 := IntWalk.i64_in _ (by omega)
      obtain ⟨i0, hi0, _, hsz, _⟩ := info_parts info40
      have hcut := cut_cap (P := Try.prog) 29 40 .i64 Try.underlying29 hi0 (some ad0) l.length c0 ((l.length : Int) + 1) (by omega) (by have := HC0.out; omega)
      rw [show ((l.length : Int) + 1).toNat = l.length + 1 from by omega] at hcut
      simp only [Int.toNat_natCast] at hx0
      go_wp2
      go_ret
      exact ⟨by simp [mark40], by repeat (first | exact Drawn0.refl _ | apply Drawn0.step)⟩
end Go.Proofs.Ytalbhllgdjgbjaa.Q
