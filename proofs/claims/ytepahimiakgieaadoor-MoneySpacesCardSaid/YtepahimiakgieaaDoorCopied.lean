import Derived.Test.YtepahimiakgieaaDoorQ0
import Derived.Test.YtepahimiakgieaaDoorSpace
namespace Go.Proofs.YtepahimiakgieaaDoor.Q
open Go.RowKit Go.Proofs.YtepahimiakgieaaDoorW.PrintWords Go.Proofs.YtepahimiakgieaaDoorW.PrintLast Go.Proofs.YtepahimiakgieaaDoorW.PrintMore
set_option linter.unusedVariables false
set_option linter.unusedSimpArgs false
def mk7 : S43 := ⟨⟨#[]⟩, -7⟩
set_option maxHeartbeats 4000000 in
set_option maxRecDepth 100000 in
/-- Pieces in memory of their own: behind their length, and within the room, a mark. -/
theorem copied_calls (A0 : Option Addr) (c0 : Nat) (l0 : List S43) (w : World) (hr0 : Kd.C k43 w A0 l0.length l0) (hc0 : l0.length ≤ c0) (hl : l0.length ≤ 5864062014803) :
    Calls Tryd.prog 16 #[.slice A0 l0.length c0] w fun e w' => ∃ (X : Option Addr) (cx : Nat), e = .returned (.slice X l0.length cx) ∧ l0.length + 1 ≤ cx ∧ Kd.C k43 w' X (l0.length + 1) (l0 ++ [mk7]) ∧ Below w.heap.size w w' := by
  have hu43 := Tryd.underlying43
  have HR0 := Aside0.mk hr0
  have HC0 := Aside0.mk hc0
  clear hr0 hc0
  have HB := Aside0.mk (Below.refl w.heap.size w)
  obtain ⟨y146, hy146⟩ : ∃ y_ : List (S43), y_ = (([] : List (S43))) := ⟨_, rfl⟩
  have Ny146 := Aside0.mk hy146
  have LMc2 : Aside0 (y146.length + l0.length < 5864062014805) := ⟨by rw [hy146]; simp; omega⟩
  obtain ⟨y149, hy149⟩ : ∃ y_ : List (S43), y_ = (y146 ++ l0) := ⟨_, rfl⟩
  have Ny149 := Aside0.mk hy149
  have LMc3 : Aside0 (y149.length < 5864062014805) := ⟨by rw [hy149, hy146]; simp; omega⟩
  obtain ⟨y152, hy152⟩ : ∃ y_ : List (S43), y_ = (y149 ++ [(⟨(⟨#[]⟩ : ByteArray), (-7)⟩ : S43)]) := ⟨_, rfl⟩
  have Ny152 := Aside0.mk hy152
  have NY : Aside0 (y152 = l0 ++ [mk7]) := ⟨by rw [hy152, hy149, hy146]; rfl⟩
  clear hy146 hy149 hy152
  go_enter Tryd.func16, Tryd.ntmps16
  go_wp2_with (first | ((with_reducible refine gate_dst (N := 3) rfl ?_); refine Kd.R_lit k43 _ 43 ?hg (N := 3) ?hd (xs := ([] : List (S43))) (inner := []) (ok := fun _ => True) (okp := fun _ => True) ?hr ?hp (fun _ hk => hk) trivial (Below.refl _ _) (Nat.le_refl _) (by simp) ?_; (case hd => rfl); (case hg => rfl); (case hr => first | (go_simp; done) | (go_simp; rfl)); (case hp => exact (Reps.none _ _)); intro v147 w6 ho7 hb hg_ hnew_; clear hg_ hnew_; (first | rw [← Ny146.out] at ho7 | (simp only [Int.reduceToNat] at ho7; rw [← Ny146.out] at ho7)); have n0_ := Aside0.mk (Kd.R_lower ho7 (below_size (by repeat (first | (with_reducible first | exact HB.out | apply below_alloc | apply pw_below_drewN | apply below_drew1) | exact HB.out)))); have n1_ := Aside0.mk (below_step (by repeat (first | (with_reducible first | exact HB.out | apply below_alloc | apply pw_below_drewN | apply below_drew1) | exact HB.out)) hb); clear HB; have HO148 := n0_; have HB := n1_; clear n0_ n1_; clear hb ho7) | ((with_reducible refine gate_builtin (b := .append) (xs := #[.tmp 3, .tmp 4]) rfl ?_); at_builtin; refine Kd.R_append_rows k43 (w0 := w) w.heap.size rfl (.tmp 3) (.tmp 4) 37 43 (.agg #[(.string ⟨#[]⟩), (.int .i64 0)]) 24 rfl Tryd.underlying37 info43 rfl (by decide) (by omega) v147 y146 l0 _ _ _ (fun _ => True) (fun _ => False) rfl rfl ?aO ?aR (fun _ _ h => h) (fun _ h => h.elim) ?aF ?aB ?aS ?aL ?_; (case aR => repeat (first | exact (Kd.C_below HR0.out HB.out) | (with_reducible refine Kd.C_alloc ?_ _) | (with_reducible refine Kd.C_drewN ?_ _) | (with_reducible refine Kd.C_drew ?_))); (case aB => exact (by repeat (first | (with_reducible first | exact HB.out | apply below_alloc | apply pw_below_drewN | apply below_drew1) | exact HB.out))); (case aF => exact (fun _ _ => trivial)); (case aO => exact (by (with_reducible repeat (first | apply Kd.R_alloc | apply Kd.R_drewN | apply Kd.R_drew)); exact HO148.out)); (case aS => exact (below_size (by repeat (first | (with_reducible first | exact HB.out | apply below_alloc | apply pw_below_drewN | apply below_drew1) | exact HB.out)))); (case aL => have := LMc2.out; omega); intro v150 w8 ho hb hg hat; rw [← Ny149.out] at ho; have n0_ := Aside0.mk (hb); have n1_ := Aside0.mk (ho); clear HB; clear HO148; have HB := n0_; have HO151 := n1_; clear n0_ n1_; clear ho hb hg hat) | ((with_reducible refine gate_builtin (b := .append) (xs := #[.tmp 5, .tmp 7]) rfl ?_); at_builtin; refine Kd.R_append k43 (w0 := w) w.heap.size rfl (.tmp 5) (.tmp 7) 37 43 (.agg #[(.string ⟨#[]⟩), (.int .i64 0)]) 24 rfl Tryd.underlying37 info43 rfl (by decide) (by omega) v150 y149 (⟨(⟨#[]⟩ : ByteArray), (-7)⟩ : S43) [.string (⟨#[]⟩ : ByteArray), .int .i64 (-7)] (fun _ => True) (fun _ => False) rfl rfl ?aP (fun _ hk => hk.elim) ?aF ?aO ?aB ?aS ?aL ?_; (case aP => exact k43_mkM _ _ _ (⟨(⟨#[]⟩ : ByteArray), (-7)⟩ : S43)); (case aB => exact (by repeat (first | (with_reducible first | exact HB.out | apply below_alloc | apply pw_below_drewN | apply below_drew1) | exact HB.out))); (case aF => exact (fun _ _ => trivial)); (case aO => exact (by (with_reducible repeat (first | apply Kd.R_alloc | apply Kd.R_drewN | apply Kd.R_drew)); exact HO151.out)); (case aS => exact (below_size (by repeat (first | (with_reducible first | exact HB.out | apply below_alloc | apply pw_below_drewN | apply below_drew1) | exact HB.out)))); (case aL => have := LMc3.out; omega); intro v153 w9 ho hb hg hat; rw [← Ny152.out] at ho; have n0_ := Aside0.mk (hb); have n1_ := Aside0.mk (ho); clear HB; clear HO151; have HB := n0_; have HO154 := n1_; clear n0_ n1_; clear ho hb hg hat; obtain ⟨Ao10, co10, eo10⟩ := Kd.R_slice HO154.out; subst eo10; obtain ⟨i011, hi011, _, hsz11, _⟩ := info_parts info43; have hcut11 := cut_to (P := Tryd.prog) 37 43 .i64 Tryd.underlying37 hi011 Ao10 y152.length co10 (l0.length : Int) (by omega) (by rw [NY.out]; simp; omega) (Kd.R_reads' HO154.out).2.1; have q11 := eq_true (show (l0.length : Int) ≤ ((y152.length : Int) : Int) from by rw [NY.out]; simp; omega); have HC154 := Aside0.mk (Kd.R_reads' HO154.out).2; clear hi011 hsz11 HO154; (try simp only [Int.toNat_natCast] at hcut11)))
  go_ret
  have e1 : y152.length = l0.length + 1 := by rw [NY.out]; simp
  refine ⟨Ao10, co10, rfl, ?_, ?_, ?_⟩
  · have := HC154.out.1; omega
  · rw [← NY.out, ← e1]
    (with_reducible repeat (first | apply Kd.C_alloc | apply Kd.C_drewN | apply Kd.C_drew))
    exact HC154.out.2
  · repeat (first | (with_reducible first | exact HB.out | apply below_alloc | apply pw_below_drewN | apply below_drew1) | exact HB.out)
end Go.Proofs.YtepahimiakgieaaDoor.Q
