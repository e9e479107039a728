import Derived.Test.YtalbhllgdjgbjaaDisk
import Derived.Lib.BufferWrite
import Derived.Laws.CopyOwn
import Derived.RegionTactic
import Derived.BigRegion
import Derived.ChangeAlike
namespace Go.Proofs.Ytalbhllgdjgbjaa.Q
open Go.RowKit Go.Proofs.YtalbhllgdjgbjaaW.PrintWords Go.Proofs.YtalbhllgdjgbjaaW.PrintLast Go.Proofs.YtalbhllgdjgbjaaW.PrintMore
set_option linter.unusedVariables false
set_option linter.unusedSimpArgs false

def flipL (s : ByteArray) (p k : Int) : List Int := (s.data.toList.map fun b => (b.toNat : Int)).set p.toNat (Go.bits .xor .u8 (bt s p) (2 ^ k.toNat % 256))
def flipB (s : ByteArray) (p k : Int) : ByteArray := strOfNums (flipL s p k)
theorem blen (s : ByteArray) : s.data.toList.length = s.size := by rw [Array.length_toList]; rfl
theorem bdata (s : ByteArray) (i : Nat) (h : i < s.size) : s.data.toList[i]? = some s[i] := by
  rw [List.getElem?_eq_getElem (by rw [blen]; exact h)]; rfl
theorem byteCells_get (s : ByteArray) (i : Nat) (h : i < s.size) : (Lib.byteCells s.data.toList)[i]? = some (.int .u8 (bt s (i : Int))) := by
  rw [Lib.byteCells, List.getElem?_map, bdata s i h, bt, dif_pos (by simpa using h)]; rfl
theorem flipL_length (s : ByteArray) (p k : Int) : (flipL s p k).length = s.size := by rw [flipL, List.length_set, List.length_map, blen]
theorem flip_cell (s : ByteArray) (p k : Int) (i : Nat) (hi : i < s.size) :
    ((Lib.byteCells s.data.toList).toArray.setIfInBounds p.toNat (.int .u8 (Go.bits .xor .u8 (bt s p) (2 ^ k.toNat % 256))))[i]? = some (.int .u8 ((flipL s p k).getD i 0)) := by
  rw [List.setIfInBounds_toArray, List.getElem?_toArray, List.getElem?_set, flipL, List.getD_eq_getElem?_getD, List.getElem?_set]
  by_cases h : p.toNat = i
  · have h1 : p.toNat < (Lib.byteCells s.data.toList).length := by rw [Lib.byteCells_length, blen]; omega
    have h2 : p.toNat < (s.data.toList.map fun b => (b.toNat : Int)).length := by rw [List.length_map, blen]; omega
    rw [if_pos h, if_pos h, if_pos h1, if_pos h2]; rfl
  · rw [if_neg h, if_neg h, byteCells_get s i hi, List.getElem?_map, bdata s i hi, bt, dif_pos (by simpa using hi)]; rfl
theorem whole_calls (g : Nat) (f : S40) (s : ByteArray) (w : World) :
    Calls Try.prog 29 #[.pointer (some ⟨g, 0, none⟩), .agg (cells40 f), .string s] w fun e w' => e = .returned (.tuple #[.string s, .int .i64 0]) ∧ Below w.heap.size w w' := by
  go_enter Try.func29, Try.ntmps29
  go_wp2
  go_ret2
  exact ⟨rfl, below_alloc (Below.refl _ _) _⟩
theorem fails_calls (g : Nat) (f : S40) (s : ByteArray) (w : World) :
    Calls Try.prog 30 #[.pointer (some ⟨g, 0, none⟩), .agg (cells40 f), .string s] w fun e w' => e = .returned (.tuple #[.string ⟨#[]⟩, .int .i64 100]) ∧ Below w.heap.size w w' := by
  go_enter Try.func30, Try.ntmps30
  go_wp2
  go_ret2
  exact ⟨rfl, below_alloc (Below.refl _ _) _⟩
theorem short_calls (g : Nat) (f : S40) (s : ByteArray) (w : World) (hs : 0 < s.size) (hs2 : s.size ≤ 64) (hf : 0 ≤ f.f2) :
    Calls Try.prog 31 #[.pointer (some ⟨g, 0, none⟩), .agg (cells40 f), .string s] w fun e w' => e = .returned (.tuple #[.string (s.extract 0 (f.f2 % (s.size : Int)).toNat), .int .i64 0]) ∧ Below w.heap.size w w' := by
  unfold cells40
  have hu40 := Try.underlying40
  have h1 : ¬ ((s.size : Int) = 0) := by omega
  have h2 : 0 ≤ f.f2 % (s.size : Int) := Int.emod_nonneg _ h1
  have h3 : f.f2 % (s.size : Int) < (s.size : Int) := Int.emod_lt_of_pos _ (by omega)
  have h4 : f.f2.tmod (s.size : Int) = f.f2 % (s.size : Int) := Int.tmod_eq_emod_of_nonneg hf
  have h5 : ((s.size : Int) == 0) = false := by simpa using h1
  go_enter Try.func31, Try.ntmps31
  go_wp2
  go_ret2
  exact ⟨rfl, below_alloc (Below.refl _ _) _⟩
set_option maxHeartbeats 1000000 in
theorem flipped_calls (g : Nat) (f : S40) (s : ByteArray) (w : World) (hs : 0 < s.size) (hs2 : s.size ≤ 64) (hf : 0 ≤ f.f2) (hf3 : 0 ≤ f.f3) (hf7 : f.f3 ≤ 7) :
    Calls Try.prog 32 #[.pointer (some ⟨g, 0, none⟩), .agg (cells40 f), .string s] w fun e w' => e = .returned (.tuple #[.string (flipB s (f.f2 % (s.size : Int)) f.f3), .int .i64 0]) ∧ Below w.heap.size w w' := by
  unfold cells40
  have hu40 := Try.underlying40
  have hmk := print_make (P := Try.prog) 52 5 .u8 1 Try.underlying52 (by kernel_rfl) (by decide) s.size (by omega)
  have h1 : ¬ ((s.size : Int) = 0) := by omega
  have h2 : 0 ≤ f.f2 % (s.size : Int) := Int.emod_nonneg _ h1
  have h3 : f.f2 % (s.size : Int) < (s.size : Int) := Int.emod_lt_of_pos _ (by omega)
  have h5 : ((s.size : Int) == 0) = false := by simpa using h1
  generalize hp : f.f2 % (s.size : Int) = p at h2 h3 ⊢
  have h4 : f.f2.tmod (s.size : Int) = p := by rw [Int.tmod_eq_emod_of_nonneg hf, hp]
  clear hp
  have hf0 := Aside0.mk hf
  clear hf
  have hcp : ∀ W : World, (Builtin.copy_ #[52, 9] 3 #[.slice (some ⟨W.heap.size, 0, none⟩) s.size s.size, .string s]).run Try.prog (W.alloc (.cells (madeCells #[.int .u8 0] s.size) 5)) =
      .ok (goInt s.size) ((W.alloc (.cells (madeCells #[.int .u8 0] s.size) 5)).setRow W.heap.size (Lib.byteCells s.data.toList).toArray) := by
    intro W
    have hz : (madeCells #[Value.int .u8 0] s.size).size = s.size := by simp [madeCells]
    have := Lib.run_copy_row_string (P := Try.prog) (W.alloc (.cells (madeCells #[.int .u8 0] s.size) 5)) 52 9 3 5 W.heap.size 0 s.size s.size s (madeCells #[.int .u8 0] s.size) 5 Try.underlying52 (by kernel_rfl) (heap_alloc_new W _) (Nat.le_refl _) (by omega)
    rw [this]
    congr 2
    rw [List.drop_of_length_le (by simp [hz])]; simp
  have hcp1 := hcp (w.alloc (.cells #[.int .i64 f.f0, .int .i64 f.f1, .int .i64 f.f2, .int .i64 f.f3] 40))
  simp only [World.size_alloc] at hcp1
  clear hcp
  obtain ⟨W3, hW3⟩ : ∃ W3, W3 = (((w.alloc (.cells #[.int .i64 f.f0, .int .i64 f.f1, .int .i64 f.f2, .int .i64 f.f3] 40)).alloc (.cells (madeCells #[.int .u8 0] s.size) 5)).setRow (w.heap.size + 1) (Lib.byteCells s.data.toList).toArray) := ⟨_, rfl⟩
  rw [← hW3] at hcp1
  have HH : W3.heap[w.heap.size + 1]? = some (.cells (Lib.byteCells s.data.toList).toArray 5 (0, 0)) := by
    rw [hW3]; refine setRow_heap _ _ (madeCells #[.int .u8 0] s.size) _ _ _ ?_
    simpa using heap_alloc_new (w.alloc (.cells #[.int .i64 f.f0, .int .i64 f.f1, .int .i64 f.f2, .int .i64 f.f3] 40)) (Obj.cells (madeCells #[.int .u8 0] s.size) 5)
  have HB : Below w.heap.size w W3 := by
    rw [hW3]; exact Go.below_setRow (below_alloc (below_alloc (Below.refl _ _) _) _) (by omega) _
  have HX : W3.heap[w.heap.size]? = some (.cells #[.int .i64 f.f0, .int .i64 f.f1, .int .i64 f.f2, .int .i64 f.f3] 40 (0, 0)) := by
    rw [hW3]; unfold World.setRow
    rw [Array.getElem?_modify, if_neg (by omega)]
    exact blk_alloc (blk_new w _) _
  clear hW3
  have c2 : W3.cell? ⟨w.heap.size, 2, none⟩ = some (.int .i64 f.f2) := (blk_cell HX 2).trans rfl
  have c3 : W3.cell? ⟨w.heap.size, 3, none⟩ = some (.int .i64 f.f3) := (blk_cell HX 3).trans rfl
  have cp : W3.cell? ⟨w.heap.size + 1, p.toNat, none⟩ = some (.int .u8 (bt s p)) := by
    rw [blk_cell HH p.toNat, List.getElem?_toArray, byteCells_get s p.toNat (by omega), Int.toNat_of_nonneg h2]
  have fz := blk_frozen HH p.toNat
  have HH' := Aside0.mk HH
  have HX' := Aside0.mk HX
  have HB' := Aside0.mk HB
  clear HH HX HB
  go_enter Try.func32, Try.ntmps32
  go_wp2_with fail
  go_region
  have hcv : (convert 52 9 (.slice (some ⟨w.heap.size + 1, 0, none⟩) s.size s.size)).run Try.prog ((W3.setCell ⟨w.heap.size + 1, p.toNat, none⟩ (.int .u8 (bits .xor .u8 (bt s p) (2 ^ f.f3.toNat % 256)))).drew) =
      .ok (.string (flipB s p f.f3)) ((W3.setCell ⟨w.heap.size + 1, p.toNat, none⟩ (.int .u8 (bits .xor .u8 (bt s p) (2 ^ f.f3.toNat % 256)))).drew) := by
    refine run_convert_bytes_arg _ 52 5 Try.underlying52 Try.underlying5 (w.heap.size + 1) 0 s.size s.size (flipL s p f.f3) (flipL_length s p f.f3) (fun i hi => ?_) 9 Try.underlying9
    have HQ := blk_drew (blk_set HH'.out p.toNat (.int .u8 (bits .xor .u8 (bt s p) (2 ^ f.f3.toNat % 256))))
    rw [Nat.zero_add, blk_cell HQ i]
    exact flip_cell s p f.f3 i hi
  go_wp2
  go_ret2
  exact ⟨rfl, below_drew1 (below_set HB'.out (by omega))⟩
end Go.Proofs.Ytalbhllgdjgbjaa.Q
