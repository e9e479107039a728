import Derived.Test.YtnkggincckdoiaaDoorKr1
namespace Go.Proofs.YtnkggincckdoiaaDoorW.PrintWords.Kd
open Go.RowKit
/-- A row of texts that holds something lies in a block that its footprint allows. -/
theorem V_away {e : Nat} {W : World} {base : Nat} {ok : Nat → Prop} {A : Option Addr} {n c g : Nat} {xs : List ByteArray} (h : V Kd.string e W base ok (.slice A n c) xs) (hok : ∀ k, ok k → k ≠ g) (hne : 0 < xs.length := by first | exact of_decide_eq_true (by assumption) | omega) : some g ≠ (Value.slice A n c).ownBlock := by
  intro he
  have h2 := V_step (w1 := { W with heap := W.heap.setIfInBounds g (Obj.cells #[] 0) }) h (fun k hk hlt => by
    have := hok k hk
    simp [Array.getElem?_setIfInBounds, Ne.symm this])
  obtain ⟨hn, _, hC⟩ := V_reads' h2
  obtain ⟨ad, hA, hc⟩ := at_string hC 0 (Int.le_refl 0) (by omega)
  rw [hA] at he
  have hg : g = ad.block := Option.some.inj he
  subst hg
  rw [show (0 : Int).toNat = 0 from rfl, Addr.add_zero'] at hc
  unfold World.cell? at hc
  by_cases hl : ad.block < W.heap.size
  · simp [Array.getElem?_setIfInBounds, hl] at hc
  · simp [Array.getElem?_setIfInBounds, hl] at hc
end Go.Proofs.YtnkggincckdoiaaDoorW.PrintWords.Kd
namespace Go.Proofs.YtnkggincckdoiaaDoor.Q
open Go.RowKit Go.Proofs.YtnkggincckdoiaaDoorW.PrintWords Go.Proofs.YtnkggincckdoiaaDoorW.PrintLast Go.Proofs.YtnkggincckdoiaaDoorW.PrintMore
set_option linter.unusedVariables false
set_option linter.unusedSimpArgs false
theorem info52 : (Tryd.prog.info? 52).map (fun i => (i.zero, i.size, i.bytes)) = some (some (.agg #[(.int .i64 0), (.int .i64 0), (.int .i64 0)]), 3, 24) := by kernel_rfl
structure S52 where
  f0 : Int
  f1 : Int
  f2 : Int
def z52 : S52 := ⟨(0 : Int), (0 : Int), (0 : Int)⟩
def k52 : Kd S52 := Kd.iso (Kd.pair (Kd.int .i64) (Kd.pair (Kd.int .i64) (Kd.int .i64))) (fun x : S52 => (x.f0, x.f1, x.f2))
theorem k52_open {w : World} {x : S52} {cs : List Value} (h : k52.K w x cs) : cs = [.int .i64 x.f0, .int .i64 x.f1, .int .i64 x.f2] := by
  obtain ⟨_, _, rfl, rfl, ⟨_, _, rfl, rfl, rfl⟩⟩ := h
  exact rfl
theorem k52_mkM (w : World) (base : Nat) (ok : Nat → Prop) (x : S52)  : k52.M w base ok x [.int .i64 x.f0, .int .i64 x.f1, .int .i64 x.f2] := ⟨[.int .i64 x.f0], [.int .i64 x.f1, .int .i64 x.f2], rfl, rfl, ⟨[.int .i64 x.f1], [.int .i64 x.f2], rfl, rfl, rfl⟩⟩
def rd_T52 (xs : List S52) (i : Int) : S52 := xs.getD i.toNat z52
theorem at_T52 {w : World} {A : Option Addr} {n : Nat} {xs : List S52} (h : Kd.C k52 w A n xs) (i : Int) (h0 : 0 ≤ i) (h1 : i < n) : ∃ ad , A = some ad ∧ w.cell? (ad.add (i.toNat * 3)) = some (.int .i64 (rd_T52 xs i).f0) ∧ w.cell? ⟨(ad.add (i.toNat * 3)).block, (ad.add (i.toNat * 3)).off + 1, none⟩ = some (.int .i64 (rd_T52 xs i).f1) ∧ w.cell? ⟨(ad.add (i.toNat * 3)).block, (ad.add (i.toNat * 3)).off + 2, none⟩ = some (.int .i64 (rd_T52 xs i).f2) := by
  obtain ⟨ad, c, e, _, hK, hc0⟩ := Kd.C_get h z52 i h0 h1
  have hc : ∀ j u, c[j]? = some u → w.cell? (ad.add (i.toNat * 3 + j)) = some u := hc0
  obtain rfl := k52_open hK
  exact ⟨ad, e, hc 0 _ rfl, by rw [← add_field _ _ 1 (by omega)]; exact hc 1 _ rfl, by rw [← add_field _ _ 2 (by omega)]; exact hc 2 _ rfl⟩
end Go.Proofs.YtnkggincckdoiaaDoor.Q
