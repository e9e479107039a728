import Derived.Test.YtefejkhcbelahaaDoorKa1
import Derived.Great.BuildSlice
namespace Go.Proofs.YtefejkhcbelahaaDoor.Q
open Go.RowKit Go.Proofs.YtefejkhcbelahaaDoorW.PrintWords Go.Proofs.YtefejkhcbelahaaDoorW.PrintLast Go.Proofs.YtefejkhcbelahaaDoorW.PrintMore
set_option linter.unusedVariables false
set_option linter.unusedSimpArgs false
def latinC : Array Value := #[.string ⟨#[48]⟩, .string ⟨#[49]⟩, .string ⟨#[50]⟩, .string ⟨#[51]⟩, .string ⟨#[52]⟩, .string ⟨#[53]⟩, .string ⟨#[54]⟩, .string ⟨#[55]⟩, .string ⟨#[56]⟩, .string ⟨#[57]⟩, .string ⟨#[46]⟩, .string ⟨#[44]⟩, .string ⟨#[45]⟩, .string ⟨#[43]⟩, .string ⟨#[]⟩, .string ⟨#[]⟩, .string ⟨#[69]⟩, .string ⟨#[105, 110, 102]⟩, .string ⟨#[110, 97, 110]⟩, .string ⟨#[]⟩, .string ⟨#[]⟩]
theorem row_below {w W : World} {g : Nat} {cs : Array Value} (h : Below w.heap.size w W) (hg : w.heap.size ≤ g) : Below w.heap.size w (W.setRow g cs) := by
  refine ⟨h.os, h.tape, h.output, ?_, fun k hk => ?_⟩
  · unfold World.setRow; simpa using h.size
  · have hne : g ≠ k := by omega
    have e : (W.setRow g cs).heap[k]? = W.heap[k]? := by unfold World.setRow; simp [Array.getElem?_modify, hne]
    exact e.trans (h.block k hk)
set_option maxHeartbeats 2000000 in
set_option maxRecDepth 100000 in
theorem latin_calls (w : World) : Calls Tryd.prog 14 #[] w fun e w' => e = .returned (.agg latinC) ∧ Below w.heap.size w w' := by
  go_enter Tryd.func14, Tryd.ntmps14
  go_wp2_with (first | ((with_reducible refine gate_dst (N := 0) rfl ?_); refine box_event ?hg (N := 0) ?hd (cs := #[.string (⟨#[]⟩ : ByteArray), .string (⟨#[]⟩ : ByteArray), .string (⟨#[]⟩ : ByteArray), .string (⟨#[]⟩ : ByteArray), .string (⟨#[]⟩ : ByteArray), .string (⟨#[]⟩ : ByteArray), .string (⟨#[]⟩ : ByteArray), .string (⟨#[]⟩ : ByteArray), .string (⟨#[]⟩ : ByteArray), .string (⟨#[]⟩ : ByteArray), .string (⟨#[]⟩ : ByteArray), .string (⟨#[]⟩ : ByteArray), .string (⟨#[]⟩ : ByteArray), .string (⟨#[]⟩ : ByteArray), .string (⟨#[]⟩ : ByteArray), .string (⟨#[]⟩ : ByteArray), .string (⟨#[]⟩ : ByteArray), .string (⟨#[]⟩ : ByteArray), .string (⟨#[]⟩ : ByteArray), .string (⟨#[]⟩ : ByteArray), .string (⟨#[]⟩ : ByteArray)]) (t := 26) ?hr ?_; (case hd => rfl); (case hg => rfl); (case hr => first | (go_simp; done) | (go_simp; rfl)); intro gb hg w1 hbox hb; have HB := Aside0.mk hb; have BK := Aside0.mk hbox; have HGE : Aside0 (w.heap.size ≤ gb) := ⟨by rw [hg]; exact Nat.le_refl _⟩; clear hb hbox hg) | ((with_reducible refine gate_dst (N := 1) rfl ?_); refine wpList_buildTo rfl 24 _ rfl (some 1) rfl #[.string ⟨#[48]⟩, .string ⟨#[49]⟩, .string ⟨#[50]⟩, .string ⟨#[51]⟩, .string ⟨#[52]⟩, .string ⟨#[53]⟩, .string ⟨#[54]⟩, .string ⟨#[55]⟩, .string ⟨#[56]⟩, .string ⟨#[57]⟩] (by kernel_rfl) ?_) | ((with_reducible refine gate_dst (N := 2) rfl ?_); refine wpList_buildTo rfl 26 _ rfl (some 2) rfl latinC (by kernel_rfl) ?_) | ((with_reducible refine gate_store (t := 26) (p := 0) rfl ?_); refine wpList_store_rowTo rfl 26 _ _ rfl rfl gb latinC rfl rfl 26 #[.string (⟨#[]⟩ : ByteArray), .string (⟨#[]⟩ : ByteArray), .string (⟨#[]⟩ : ByteArray), .string (⟨#[]⟩ : ByteArray), .string (⟨#[]⟩ : ByteArray), .string (⟨#[]⟩ : ByteArray), .string (⟨#[]⟩ : ByteArray), .string (⟨#[]⟩ : ByteArray), .string (⟨#[]⟩ : ByteArray), .string (⟨#[]⟩ : ByteArray), .string (⟨#[]⟩ : ByteArray), .string (⟨#[]⟩ : ByteArray), .string (⟨#[]⟩ : ByteArray), .string (⟨#[]⟩ : ByteArray), .string (⟨#[]⟩ : ByteArray), .string (⟨#[]⟩ : ByteArray), .string (⟨#[]⟩ : ByteArray), .string (⟨#[]⟩ : ByteArray), .string (⟨#[]⟩ : ByteArray), .string (⟨#[]⟩ : ByteArray), .string (⟨#[]⟩ : ByteArray)] BK.out (by kernel_rfl) rfl (by kernel_rfl) ?_; have HB2 : Aside0 (Below w.heap.size w (w1.setRow gb latinC)) := ⟨row_below HB.out HGE.out⟩; have BK2 : Aside0 ((w1.setRow gb latinC).heap[gb]? = some (.cells latinC 26 (0, 0))) := ⟨setRow_heap w1 gb _ latinC 26 (0, 0) BK.out⟩; clear HB BK; obtain ⟨w2, hw2⟩ : ∃ w2, w1.setRow gb latinC = w2 := ⟨_, rfl⟩; rw [hw2] at HB2 BK2 ⊢; clear hw2))
  refine bodyPost_ret (results_cell_row rfl _ _ gb 26 latinC (0, 0) _ rfl BK2.out Tryd.underlying26 rfl (by kernel_rfl)) rfl ?_
  exact ⟨rfl, HB2.out⟩
end Go.Proofs.YtefejkhcbelahaaDoor.Q
