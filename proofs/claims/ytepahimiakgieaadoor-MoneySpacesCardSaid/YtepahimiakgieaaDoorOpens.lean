import Derived.Test.YtepahimiakgieaaDoorOpenA
import Derived.Test.YtepahimiakgieaaDoorQ0
namespace Go.Proofs.YtepahimiakgieaaDoor.Q
open Go.RowKit Go.Proofs.YtepahimiakgieaaDoorW.PrintWords Go.Proofs.YtepahimiakgieaaDoorW.PrintLast Go.Proofs.YtepahimiakgieaaDoorW.PrintMore Go.Proofs.YtepahimiakgieaaDoor.Opn
set_option linter.unusedVariables false
set_option linter.unusedSimpArgs false
/-! ### What comes in -/
def ok22 (x : S22) : Prop := (x.f0.size ≤ maxLen) ∧ ((x.f1.size ≤ maxLen) ∧ ((x.f2.size ≤ maxLen) ∧ ((x.f3.size ≤ maxLen) ∧ ((x.f4.size ≤ maxLen) ∧ (x.f5.size ≤ maxLen)))))
theorem open22 : Opens Tryd.prog 22 k22 ok22 :=
  Opens.array (fs := [⟨"a", 9, 0, false, "", "", 0⟩, ⟨"a", 9, 1, false, "", "", 0⟩, ⟨"a", 9, 2, false, "", "", 0⟩, ⟨"a", 9, 3, false, "", "", 0⟩, ⟨"a", 9, 4, false, "", "", 0⟩, ⟨"a", 9, 5, false, "", "", 0⟩]) Tryd.underlying22 (fun f hf => by
    have hc : Tryd.prog.cellsOf 9 = 1 := by kernel_rfl
    simp only [List.mem_cons, List.not_mem_nil, or_false] at hf
    rcases hf with rfl | rfl | rfl | rfl | rfl | rfl
    · exact ⟨0, by omega, rfl, by rw [hc]⟩
    · exact ⟨1, by omega, rfl, by rw [hc]⟩
    · exact ⟨2, by omega, rfl, by rw [hc]⟩
    · exact ⟨3, by omega, rfl, by rw [hc]⟩
    · exact ⟨4, by omega, rfl, by rw [hc]⟩
    · exact ⟨5, by omega, rfl, by rw [hc]⟩) (OpensF.cons (Opens.string (by kernel_rfl)) rfl (by kernel_rfl) (OpensF.cons (Opens.string (by kernel_rfl)) rfl (by kernel_rfl) (OpensF.cons (Opens.string (by kernel_rfl)) rfl (by kernel_rfl) (OpensF.cons (Opens.string (by kernel_rfl)) rfl (by kernel_rfl) (OpensF.cons (Opens.string (by kernel_rfl)) rfl (by kernel_rfl) (OpensF.one (Opens.string (by kernel_rfl)) rfl (by kernel_rfl)))))))
    (by kernel_rfl) (fun x : S22 => (x.f0, x.f1, x.f2, x.f3, x.f4, x.f5)) (fun p => ⟨p.1, p.2.1, p.2.2.1, p.2.2.2.1, p.2.2.2.2.1, p.2.2.2.2.2⟩) (fun _ => rfl)
theorem ko22 {w : World} {x : S22} {cs : List Value} (h : k22.K w x cs) : cs = [.string x.f0, .string x.f1, .string x.f2, .string x.f3, .string x.f4, .string x.f5] := by
  obtain ⟨_, _, rfl, rfl, ⟨_, _, rfl, rfl, ⟨_, _, rfl, rfl, ⟨_, _, rfl, rfl, ⟨_, _, rfl, rfl, rfl⟩⟩⟩⟩⟩ := h
  exact rfl
def ok24 (x : S24) : Prop := (x.f0.size ≤ maxLen) ∧ ((x.f1.size ≤ maxLen) ∧ ((x.f2.size ≤ maxLen) ∧ ((ok22 x.f3) ∧ (((Lit.int .i64 x.f4).wf = true) ∧ (((Lit.int .i64 x.f5).wf = true) ∧ ((Lit.int .i64 x.f6).wf = true))))))
theorem open24 : Opens Tryd.prog 24 k24 ok24 :=
  Opens.struct Tryd.underlying24 (OpensF.cons (Opens.string (by kernel_rfl)) rfl (by kernel_rfl) (OpensF.cons (Opens.string (by kernel_rfl)) rfl (by kernel_rfl) (OpensF.cons (Opens.string (by kernel_rfl)) rfl (by kernel_rfl) (OpensF.cons open22 rfl (by kernel_rfl) (OpensF.cons (Opens.int .i64 (by kernel_rfl)) rfl (by kernel_rfl) (OpensF.cons (Opens.int .i64 (by kernel_rfl)) rfl (by kernel_rfl) (OpensF.one (Opens.int .i64 (by kernel_rfl)) rfl (by kernel_rfl))))))))
    (by kernel_rfl) (fun x : S24 => (x.f0, x.f1, x.f2, x.f3, x.f4, x.f5, x.f6)) (fun p => ⟨p.1, p.2.1, p.2.2.1, p.2.2.2.1, p.2.2.2.2.1, p.2.2.2.2.2.1, p.2.2.2.2.2.2⟩) (fun _ => rfl)
theorem ko24 {w : World} {x : S24} {cs : List Value} (h : k24.K w x cs) : cs = [.string x.f0, .string x.f1, .string x.f2, .string x.f3.f0, .string x.f3.f1, .string x.f3.f2, .string x.f3.f3, .string x.f3.f4, .string x.f3.f5, .int .i64 x.f4, .int .i64 x.f5, .int .i64 x.f6] := by
  obtain ⟨_, _, rfl, rfl, ⟨_, _, rfl, rfl, ⟨_, _, rfl, rfl, ⟨_, _, rfl, s3, ⟨_, _, rfl, rfl, ⟨_, _, rfl, rfl, rfl⟩⟩⟩⟩⟩⟩ := h
  obtain rfl := ko22 s3
  exact rfl
structure S26 where
  f0 : Int
  f1 : Bool
  f2 : ByteArray
  f3 : Int
def k26 : Kd S26 := Kd.iso (Kd.pair (Kd.int .i64) (Kd.pair Kd.bool (Kd.pair Kd.string (Kd.int .i64)))) (fun x : S26 => (x.f0, x.f1, x.f2, x.f3))
def ok26 (x : S26) : Prop := ((Lit.int .i64 x.f0).wf = true) ∧ ((True) ∧ ((x.f2.size ≤ maxLen) ∧ ((Lit.int .i64 x.f3).wf = true)))
theorem open26 : Opens Tryd.prog 26 k26 ok26 :=
  Opens.struct Tryd.underlying26 (OpensF.cons (Opens.int .i64 (by kernel_rfl)) rfl (by kernel_rfl) (OpensF.cons (Opens.bool (by kernel_rfl)) rfl (by kernel_rfl) (OpensF.cons (Opens.string (by kernel_rfl)) rfl (by kernel_rfl) (OpensF.one (Opens.int .i64 (by kernel_rfl)) rfl (by kernel_rfl)))))
    (by kernel_rfl) (fun x : S26 => (x.f0, x.f1, x.f2, x.f3)) (fun p => ⟨p.1, p.2.1, p.2.2.1, p.2.2.2⟩) (fun _ => rfl)
theorem ko26 {w : World} {x : S26} {cs : List Value} (h : k26.K w x cs) : cs = [.int .i64 x.f0, .bool x.f1, .string x.f2, .int .i64 x.f3] := by
  obtain ⟨_, _, rfl, rfl, ⟨_, _, rfl, rfl, ⟨_, _, rfl, rfl, rfl⟩⟩⟩ := h
  exact rfl
structure S28 where
  f0 : Int
  f1 : Int
  f2 : Int
  f3 : Int
  f4 : Int
  f5 : Bool
  f6 : S26
  f7 : Int
  f8 : Bool
  f9 : Int
  f10 : Int
def k28 : Kd S28 := Kd.iso (Kd.pair (Kd.int .i64) (Kd.pair (Kd.int .i64) (Kd.pair (Kd.int .i64) (Kd.pair (Kd.int .i64) (Kd.pair (Kd.int .i64) (Kd.pair Kd.bool (Kd.pair k26 (Kd.pair (Kd.int .i64) (Kd.pair Kd.bool (Kd.pair (Kd.int .i64) (Kd.int .i64))))))))))) (fun x : S28 => (x.f0, x.f1, x.f2, x.f3, x.f4, x.f5, x.f6, x.f7, x.f8, x.f9, x.f10))
def ok28 (x : S28) : Prop := ((Lit.int .i64 x.f0).wf = true) ∧ (((Lit.int .i64 x.f1).wf = true) ∧ (((Lit.int .i64 x.f2).wf = true) ∧ (((Lit.int .i64 x.f3).wf = true) ∧ (((Lit.int .i64 x.f4).wf = true) ∧ ((True) ∧ ((ok26 x.f6) ∧ (((Lit.int .i64 x.f7).wf = true) ∧ ((True) ∧ (((Lit.int .i64 x.f9).wf = true) ∧ ((Lit.int .i64 x.f10).wf = true))))))))))
theorem open28 : Opens Tryd.prog 28 k28 ok28 :=
  Opens.struct Tryd.underlying28 (OpensF.cons (Opens.int .i64 (by kernel_rfl)) rfl (by kernel_rfl) (OpensF.cons (Opens.int .i64 (by kernel_rfl)) rfl (by kernel_rfl) (OpensF.cons (Opens.int .i64 (by kernel_rfl)) rfl (by kernel_rfl) (OpensF.cons (Opens.int .i64 (by kernel_rfl)) rfl (by kernel_rfl) (OpensF.cons (Opens.int .i64 (by kernel_rfl)) rfl (by kernel_rfl) (OpensF.cons (Opens.bool (by kernel_rfl)) rfl (by kernel_rfl) (OpensF.cons open26 rfl (by kernel_rfl) (OpensF.cons (Opens.int .i64 (by kernel_rfl)) rfl (by kernel_rfl) (OpensF.cons (Opens.bool (by kernel_rfl)) rfl (by kernel_rfl) (OpensF.cons (Opens.int .i64 (by kernel_rfl)) rfl (by kernel_rfl) (OpensF.one (Opens.int .i64 (by kernel_rfl)) rfl (by kernel_rfl))))))))))))
    (by kernel_rfl) (fun x : S28 => (x.f0, x.f1, x.f2, x.f3, x.f4, x.f5, x.f6, x.f7, x.f8, x.f9, x.f10)) (fun p => ⟨p.1, p.2.1, p.2.2.1, p.2.2.2.1, p.2.2.2.2.1, p.2.2.2.2.2.1, p.2.2.2.2.2.2.1, p.2.2.2.2.2.2.2.1, p.2.2.2.2.2.2.2.2.1, p.2.2.2.2.2.2.2.2.2.1, p.2.2.2.2.2.2.2.2.2.2⟩) (fun _ => rfl)
theorem ko28 {w : World} {x : S28} {cs : List Value} (h : k28.K w x cs) : cs = [.int .i64 x.f0, .int .i64 x.f1, .int .i64 x.f2, .int .i64 x.f3, .int .i64 x.f4, .bool x.f5, .int .i64 x.f6.f0, .bool x.f6.f1, .string x.f6.f2, .int .i64 x.f6.f3, .int .i64 x.f7, .bool x.f8, .int .i64 x.f9, .int .i64 x.f10] := by
  obtain ⟨_, _, rfl, rfl, ⟨_, _, rfl, rfl, ⟨_, _, rfl, rfl, ⟨_, _, rfl, rfl, ⟨_, _, rfl, rfl, ⟨_, _, rfl, rfl, ⟨_, _, rfl, s6, ⟨_, _, rfl, rfl, ⟨_, _, rfl, rfl, ⟨_, _, rfl, rfl, rfl⟩⟩⟩⟩⟩⟩⟩⟩⟩⟩ := h
  obtain rfl := ko26 s6
  exact rfl
def ok43 (x : S43) : Prop := (x.f0.size ≤ maxLen) ∧ ((Lit.int .i64 x.f1).wf = true)
theorem open43 : Opens Tryd.prog 43 k43 ok43 :=
  Opens.struct Tryd.underlying43 (OpensF.cons (Opens.string (by kernel_rfl)) rfl (by kernel_rfl) (OpensF.one (Opens.int .i64 (by kernel_rfl)) rfl (by kernel_rfl)))
    (by kernel_rfl) (fun x : S43 => (x.f0, x.f1)) (fun p => ⟨p.1, p.2⟩) (fun _ => rfl)
theorem ko43 {w : World} {x : S43} {cs : List Value} (h : k43.K w x cs) : cs = [.string x.f0, .int .i64 x.f1] := by
  obtain ⟨_, _, rfl, rfl, rfl⟩ := h
  exact rfl
structure S45 where
  f0 : ByteArray
  f1 : ByteArray
  f2 : ByteArray
  f3 : ByteArray
  f4 : ByteArray
  f5 : ByteArray
  f6 : ByteArray
  f7 : ByteArray
  f8 : ByteArray
  f9 : ByteArray
def k45 : Kd S45 := Kd.iso (Kd.pair Kd.string (Kd.pair Kd.string (Kd.pair Kd.string (Kd.pair Kd.string (Kd.pair Kd.string (Kd.pair Kd.string (Kd.pair Kd.string (Kd.pair Kd.string (Kd.pair Kd.string Kd.string))))))))) (fun x : S45 => (x.f0, x.f1, x.f2, x.f3, x.f4, x.f5, x.f6, x.f7, x.f8, x.f9))
def ok45 (x : S45) : Prop := (x.f0.size ≤ maxLen) ∧ ((x.f1.size ≤ maxLen) ∧ ((x.f2.size ≤ maxLen) ∧ ((x.f3.size ≤ maxLen) ∧ ((x.f4.size ≤ maxLen) ∧ ((x.f5.size ≤ maxLen) ∧ ((x.f6.size ≤ maxLen) ∧ ((x.f7.size ≤ maxLen) ∧ ((x.f8.size ≤ maxLen) ∧ (x.f9.size ≤ maxLen)))))))))
theorem open45 : Opens Tryd.prog 45 k45 ok45 :=
  Opens.array (fs := [⟨"a", 9, 0, false, "", "", 0⟩, ⟨"a", 9, 1, false, "", "", 0⟩, ⟨"a", 9, 2, false, "", "", 0⟩, ⟨"a", 9, 3, false, "", "", 0⟩, ⟨"a", 9, 4, false, "", "", 0⟩, ⟨"a", 9, 5, false, "", "", 0⟩, ⟨"a", 9, 6, false, "", "", 0⟩, ⟨"a", 9, 7, false, "", "", 0⟩, ⟨"a", 9, 8, false, "", "", 0⟩, ⟨"a", 9, 9, false, "", "", 0⟩]) Tryd.underlying45 (fun f hf => by
    have hc : Tryd.prog.cellsOf 9 = 1 := by kernel_rfl
    simp only [List.mem_cons, List.not_mem_nil, or_false] at hf
    rcases hf with rfl | rfl | rfl | rfl | rfl | rfl | rfl | rfl | rfl | rfl
    · exact ⟨0, by omega, rfl, by rw [hc]⟩
    · exact ⟨1, by omega, rfl, by rw [hc]⟩
    · exact ⟨2, by omega, rfl, by rw [hc]⟩
    · exact ⟨3, by omega, rfl, by rw [hc]⟩
    · exact ⟨4, by omega, rfl, by rw [hc]⟩
    · exact ⟨5, by omega, rfl, by rw [hc]⟩
    · exact ⟨6, by omega, rfl, by rw [hc]⟩
    · exact ⟨7, by omega, rfl, by rw [hc]⟩
    · exact ⟨8, by omega, rfl, by rw [hc]⟩
    · exact ⟨9, by omega, rfl, by rw [hc]⟩) (OpensF.cons (Opens.string (by kernel_rfl)) rfl (by kernel_rfl) (OpensF.cons (Opens.string (by kernel_rfl)) rfl (by kernel_rfl) (OpensF.cons (Opens.string (by kernel_rfl)) rfl (by kernel_rfl) (OpensF.cons (Opens.string (by kernel_rfl)) rfl (by kernel_rfl) (OpensF.cons (Opens.string (by kernel_rfl)) rfl (by kernel_rfl) (OpensF.cons (Opens.string (by kernel_rfl)) rfl (by kernel_rfl) (OpensF.cons (Opens.string (by kernel_rfl)) rfl (by kernel_rfl) (OpensF.cons (Opens.string (by kernel_rfl)) rfl (by kernel_rfl) (OpensF.cons (Opens.string (by kernel_rfl)) rfl (by kernel_rfl) (OpensF.one (Opens.string (by kernel_rfl)) rfl (by kernel_rfl)))))))))))
    (by kernel_rfl) (fun x : S45 => (x.f0, x.f1, x.f2, x.f3, x.f4, x.f5, x.f6, x.f7, x.f8, x.f9)) (fun p => ⟨p.1, p.2.1, p.2.2.1, p.2.2.2.1, p.2.2.2.2.1, p.2.2.2.2.2.1, p.2.2.2.2.2.2.1, p.2.2.2.2.2.2.2.1, p.2.2.2.2.2.2.2.2.1, p.2.2.2.2.2.2.2.2.2⟩) (fun _ => rfl)
theorem ko45 {w : World} {x : S45} {cs : List Value} (h : k45.K w x cs) : cs = [.string x.f0, .string x.f1, .string x.f2, .string x.f3, .string x.f4, .string x.f5, .string x.f6, .string x.f7, .string x.f8, .string x.f9] := by
  obtain ⟨_, _, rfl, rfl, ⟨_, _, rfl, rfl, ⟨_, _, rfl, rfl, ⟨_, _, rfl, rfl, ⟨_, _, rfl, rfl, ⟨_, _, rfl, rfl, ⟨_, _, rfl, rfl, ⟨_, _, rfl, rfl, ⟨_, _, rfl, rfl, rfl⟩⟩⟩⟩⟩⟩⟩⟩⟩ := h
  exact rfl
structure S47 where
  f0 : S45
  f1 : ByteArray
  f2 : ByteArray
  f3 : ByteArray
  f4 : ByteArray
  f5 : ByteArray
  f6 : ByteArray
  f7 : ByteArray
  f8 : ByteArray
  f9 : ByteArray
  f10 : ByteArray
  f11 : ByteArray
def k47 : Kd S47 := Kd.iso (Kd.pair k45 (Kd.pair Kd.string (Kd.pair Kd.string (Kd.pair Kd.string (Kd.pair Kd.string (Kd.pair Kd.string (Kd.pair Kd.string (Kd.pair Kd.string (Kd.pair Kd.string (Kd.pair Kd.string (Kd.pair Kd.string Kd.string))))))))))) (fun x : S47 => (x.f0, x.f1, x.f2, x.f3, x.f4, x.f5, x.f6, x.f7, x.f8, x.f9, x.f10, x.f11))
def ok47 (x : S47) : Prop := (ok45 x.f0) ∧ ((x.f1.size ≤ maxLen) ∧ ((x.f2.size ≤ maxLen) ∧ ((x.f3.size ≤ maxLen) ∧ ((x.f4.size ≤ maxLen) ∧ ((x.f5.size ≤ maxLen) ∧ ((x.f6.size ≤ maxLen) ∧ ((x.f7.size ≤ maxLen) ∧ ((x.f8.size ≤ maxLen) ∧ ((x.f9.size ≤ maxLen) ∧ ((x.f10.size ≤ maxLen) ∧ (x.f11.size ≤ maxLen)))))))))))
theorem open47 : Opens Tryd.prog 47 k47 ok47 :=
  Opens.struct Tryd.underlying47 (OpensF.cons open45 rfl (by kernel_rfl) (OpensF.cons (Opens.string (by kernel_rfl)) rfl (by kernel_rfl) (OpensF.cons (Opens.string (by kernel_rfl)) rfl (by kernel_rfl) (OpensF.cons (Opens.string (by kernel_rfl)) rfl (by kernel_rfl) (OpensF.cons (Opens.string (by kernel_rfl)) rfl (by kernel_rfl) (OpensF.cons (Opens.string (by kernel_rfl)) rfl (by kernel_rfl) (OpensF.cons (Opens.string (by kernel_rfl)) rfl (by kernel_rfl) (OpensF.cons (Opens.string (by kernel_rfl)) rfl (by kernel_rfl) (OpensF.cons (Opens.string (by kernel_rfl)) rfl (by kernel_rfl) (OpensF.cons (Opens.string (by kernel_rfl)) rfl (by kernel_rfl) (OpensF.cons (Opens.string (by kernel_rfl)) rfl (by kernel_rfl) (OpensF.one (Opens.string (by kernel_rfl)) rfl (by kernel_rfl)))))))))))))
    (by kernel_rfl) (fun x : S47 => (x.f0, x.f1, x.f2, x.f3, x.f4, x.f5, x.f6, x.f7, x.f8, x.f9, x.f10, x.f11)) (fun p => ⟨p.1, p.2.1, p.2.2.1, p.2.2.2.1, p.2.2.2.2.1, p.2.2.2.2.2.1, p.2.2.2.2.2.2.1, p.2.2.2.2.2.2.2.1, p.2.2.2.2.2.2.2.2.1, p.2.2.2.2.2.2.2.2.2.1, p.2.2.2.2.2.2.2.2.2.2.1, p.2.2.2.2.2.2.2.2.2.2.2⟩) (fun _ => rfl)
theorem ko47 {w : World} {x : S47} {cs : List Value} (h : k47.K w x cs) : cs = [.string x.f0.f0, .string x.f0.f1, .string x.f0.f2, .string x.f0.f3, .string x.f0.f4, .string x.f0.f5, .string x.f0.f6, .string x.f0.f7, .string x.f0.f8, .string x.f0.f9, .string x.f1, .string x.f2, .string x.f3, .string x.f4, .string x.f5, .string x.f6, .string x.f7, .string x.f8, .string x.f9, .string x.f10, .string x.f11] := by
  obtain ⟨_, _, rfl, s0, ⟨_, _, rfl, rfl, ⟨_, _, rfl, rfl, ⟨_, _, rfl, rfl, ⟨_, _, rfl, rfl, ⟨_, _, rfl, rfl, ⟨_, _, rfl, rfl, ⟨_, _, rfl, rfl, ⟨_, _, rfl, rfl, ⟨_, _, rfl, rfl, ⟨_, _, rfl, rfl, rfl⟩⟩⟩⟩⟩⟩⟩⟩⟩⟩⟩ := h
  obtain rfl := ko45 s0
  exact rfl
def ok129 (x : S129) : Prop := ((Lit.int .i64 x.f0).wf = true) ∧ (((Lit.int .i64 x.f1).wf = true) ∧ (x.f2.size ≤ maxLen))
theorem open129 : Opens Tryd.prog 129 k129 ok129 :=
  Opens.struct Tryd.underlying129 (OpensF.cons (Opens.int .i64 (by kernel_rfl)) rfl (by kernel_rfl) (OpensF.cons (Opens.int .i64 (by kernel_rfl)) rfl (by kernel_rfl) (OpensF.one (Opens.string (by kernel_rfl)) rfl (by kernel_rfl))))
    (by kernel_rfl) (fun x : S129 => (x.f0, x.f1, x.f2)) (fun p => ⟨p.1, p.2.1, p.2.2⟩) (fun _ => rfl)
theorem ko129 {w : World} {x : S129} {cs : List Value} (h : k129.K w x cs) : cs = [.int .i64 x.f0, .int .i64 x.f1, .string x.f2] := by
  obtain ⟨_, _, rfl, rfl, ⟨_, _, rfl, rfl, rfl⟩⟩ := h
  exact rfl
def ok57 (x : S57) : Prop := (x.f0.size ≤ maxLen) ∧ ((ok22 x.f1) ∧ ((ok22 x.f2) ∧ (x.f3.size ≤ maxLen)))
theorem open57 : Opens Tryd.prog 57 k57 ok57 :=
  Opens.struct Tryd.underlying57 (OpensF.cons (Opens.string (by kernel_rfl)) rfl (by kernel_rfl) (OpensF.cons open22 rfl (by kernel_rfl) (OpensF.cons open22 rfl (by kernel_rfl) (OpensF.one (Opens.string (by kernel_rfl)) rfl (by kernel_rfl)))))
    (by kernel_rfl) (fun x : S57 => (x.f0, x.f1, x.f2, x.f3)) (fun p => ⟨p.1, p.2.1, p.2.2.1, p.2.2.2⟩) (fun _ => rfl)
theorem ko57 {w : World} {x : S57} {cs : List Value} (h : k57.K w x cs) : cs = [.string x.f0, .string x.f1.f0, .string x.f1.f1, .string x.f1.f2, .string x.f1.f3, .string x.f1.f4, .string x.f1.f5, .string x.f2.f0, .string x.f2.f1, .string x.f2.f2, .string x.f2.f3, .string x.f2.f4, .string x.f2.f5, .string x.f3] := by
  obtain ⟨_, _, rfl, rfl, ⟨_, _, rfl, s1, ⟨_, _, rfl, s2, rfl⟩⟩⟩ := h
  obtain rfl := ko22 s1
  obtain rfl := ko22 s2
  exact rfl
structure S52 where
  f0 : ByteArray
  f1 : S47
  f2 : Int
  f3 : ByteArray
  f4 : ByteArray
  f5 : ByteArray
  f6 : ByteArray
  f7 : ByteArray
  f8 : ByteArray
  f9 : ByteArray
  f10 : List (S129)
  f11 : List (S129)
  f12 : List (S24)
  f13 : List (S57)
  f14 : ByteArray
def k52 : Kd S52 := Kd.iso (Kd.pair Kd.string (Kd.pair k47 (Kd.pair (Kd.int .i64) (Kd.pair Kd.string (Kd.pair Kd.string (Kd.pair Kd.string (Kd.pair Kd.string (Kd.pair Kd.string (Kd.pair Kd.string (Kd.pair Kd.string (Kd.pair (Kd.slice 129 k129) (Kd.pair (Kd.slice 129 k129) (Kd.pair (Kd.slice 24 k24) (Kd.pair (Kd.slice 57 k57) Kd.string)))))))))))))) (fun x : S52 => (x.f0, x.f1, x.f2, x.f3, x.f4, x.f5, x.f6, x.f7, x.f8, x.f9, x.f10, x.f11, x.f12, x.f13, x.f14))
def ok52 (x : S52) : Prop := (x.f0.size ≤ maxLen) ∧ ((ok47 x.f1) ∧ (((Lit.int .i64 x.f2).wf = true) ∧ ((x.f3.size ≤ maxLen) ∧ ((x.f4.size ≤ maxLen) ∧ ((x.f5.size ≤ maxLen) ∧ ((x.f6.size ≤ maxLen) ∧ ((x.f7.size ≤ maxLen) ∧ ((x.f8.size ≤ maxLen) ∧ ((x.f9.size ≤ maxLen) ∧ (((∀ y_ ∈ x.f10, ok129 y_) ∧ x.f10.length ≤ maxLen) ∧ (((∀ y_ ∈ x.f11, ok129 y_) ∧ x.f11.length ≤ maxLen) ∧ (((∀ y_ ∈ x.f12, ok24 y_) ∧ x.f12.length ≤ maxLen) ∧ (((∀ y_ ∈ x.f13, ok57 y_) ∧ x.f13.length ≤ maxLen) ∧ (x.f14.size ≤ maxLen))))))))))))))
theorem open52 : Opens Tryd.prog 52 k52 ok52 :=
  Opens.struct Tryd.underlying52 (OpensF.cons (Opens.string (by kernel_rfl)) rfl (by kernel_rfl) (OpensF.cons open47 rfl (by kernel_rfl) (OpensF.cons (Opens.int .i64 (by kernel_rfl)) rfl (by kernel_rfl) (OpensF.cons (Opens.string (by kernel_rfl)) rfl (by kernel_rfl) (OpensF.cons (Opens.string (by kernel_rfl)) rfl (by kernel_rfl) (OpensF.cons (Opens.string (by kernel_rfl)) rfl (by kernel_rfl) (OpensF.cons (Opens.string (by kernel_rfl)) rfl (by kernel_rfl) (OpensF.cons (Opens.string (by kernel_rfl)) rfl (by kernel_rfl) (OpensF.cons (Opens.string (by kernel_rfl)) rfl (by kernel_rfl) (OpensF.cons (Opens.string (by kernel_rfl)) rfl (by kernel_rfl) (OpensF.cons (Opens.slice (by kernel_rfl) open129 (by kernel_rfl)) rfl (by kernel_rfl) (OpensF.cons (Opens.slice (by kernel_rfl) open129 (by kernel_rfl)) rfl (by kernel_rfl) (OpensF.cons (Opens.slice (by kernel_rfl) open24 (by kernel_rfl)) rfl (by kernel_rfl) (OpensF.cons (Opens.slice (by kernel_rfl) open57 (by kernel_rfl)) rfl (by kernel_rfl) (OpensF.one (Opens.string (by kernel_rfl)) rfl (by kernel_rfl))))))))))))))))
    (by kernel_rfl) (fun x : S52 => (x.f0, x.f1, x.f2, x.f3, x.f4, x.f5, x.f6, x.f7, x.f8, x.f9, x.f10, x.f11, x.f12, x.f13, x.f14)) (fun p => ⟨p.1, p.2.1, p.2.2.1, p.2.2.2.1, p.2.2.2.2.1, p.2.2.2.2.2.1, p.2.2.2.2.2.2.1, p.2.2.2.2.2.2.2.1, p.2.2.2.2.2.2.2.2.1, p.2.2.2.2.2.2.2.2.2.1, p.2.2.2.2.2.2.2.2.2.2.1, p.2.2.2.2.2.2.2.2.2.2.2.1, p.2.2.2.2.2.2.2.2.2.2.2.2.1, p.2.2.2.2.2.2.2.2.2.2.2.2.2.1, p.2.2.2.2.2.2.2.2.2.2.2.2.2.2⟩) (fun _ => rfl)
theorem ko52 {w : World} {x : S52} {cs : List Value} (h : k52.K w x cs) : ∃ (A0 : Option Addr) (c0 : Nat) (A1 : Option Addr) (c1 : Nat) (A2 : Option Addr) (c2 : Nat) (A3 : Option Addr) (c3 : Nat), cs = [.string x.f0, .string x.f1.f0.f0, .string x.f1.f0.f1, .string x.f1.f0.f2, .string x.f1.f0.f3, .string x.f1.f0.f4, .string x.f1.f0.f5, .string x.f1.f0.f6, .string x.f1.f0.f7, .string x.f1.f0.f8, .string x.f1.f0.f9, .string x.f1.f1, .string x.f1.f2, .string x.f1.f3, .string x.f1.f4, .string x.f1.f5, .string x.f1.f6, .string x.f1.f7, .string x.f1.f8, .string x.f1.f9, .string x.f1.f10, .string x.f1.f11, .int .i64 x.f2, .string x.f3, .string x.f4, .string x.f5, .string x.f6, .string x.f7, .string x.f8, .string x.f9, .slice A0 x.f10.length c0, .slice A1 x.f11.length c1, .slice A2 x.f12.length c2, .slice A3 x.f13.length c3, .string x.f14] ∧ x.f10.length ≤ c0 ∧ Kd.C k129 w A0 x.f10.length x.f10 ∧ x.f11.length ≤ c1 ∧ Kd.C k129 w A1 x.f11.length x.f11 ∧ x.f12.length ≤ c2 ∧ Kd.C k24 w A2 x.f12.length x.f12 ∧ x.f13.length ≤ c3 ∧ Kd.C k57 w A3 x.f13.length x.f13 := by
  obtain ⟨_, _, rfl, rfl, ⟨_, _, rfl, s1, ⟨_, _, rfl, rfl, ⟨_, _, rfl, rfl, ⟨_, _, rfl, rfl, ⟨_, _, rfl, rfl, ⟨_, _, rfl, rfl, ⟨_, _, rfl, rfl, ⟨_, _, rfl, rfl, ⟨_, _, rfl, rfl, ⟨_, _, rfl, ⟨A0, c0, rfl, l0, C0⟩, ⟨_, _, rfl, ⟨A1, c1, rfl, l1, C1⟩, ⟨_, _, rfl, ⟨A2, c2, rfl, l2, C2⟩, ⟨_, _, rfl, ⟨A3, c3, rfl, l3, C3⟩, rfl⟩⟩⟩⟩⟩⟩⟩⟩⟩⟩⟩⟩⟩⟩ := h
  obtain rfl := ko47 s1
  exact ⟨A0, c0, A1, c1, A2, c2, A3, c3, rfl, l0, C0, l1, C1, l2, C2, l3, C3⟩
end Go.Proofs.YtepahimiakgieaaDoor.Q
