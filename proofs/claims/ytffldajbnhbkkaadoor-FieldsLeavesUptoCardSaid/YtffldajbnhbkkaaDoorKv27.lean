import Derived.Test.YtffldajbnhbkkaaDoorKv26
import Derived.Sort.OwnSortedInts
namespace Go.Proofs.YtffldajbnhbkkaaDoor.Q
open Go.RowKit Go.Proofs.YtffldajbnhbkkaaDoorW.PrintWords Go.Proofs.YtffldajbnhbkkaaDoorW.PrintLast Go.Proofs.YtffldajbnhbkkaaDoorW.PrintMore
set_option linter.unusedVariables false
set_option linter.unusedSimpArgs false
def sortI (zs : List Int) : List Int := zs.mergeSort fun x y => decide (x ≤ y)
theorem sortI_len (zs : List Int) : (sortI zs).length = zs.length := List.length_mergeSort zs
/-- A row of whole numbers, as_ its block has it. -/
structure IBlk (W : World) (base g cap : Nat) (cur : Array Value) (l : List Int) : Prop where
  blk : W.heap[g]? = some (.cells cur 3 (0, 0))
  bas : base ≤ g
  len : l.length ≤ cap
  max : Aside0 (cap ≤ maxLen)
  size : cur.size = cap * 1
  take : cur.toList.take l.length = l.map (Value.int .i64)
theorem iblk {W : World} {base g n cap : Nat} {ok : Nat → Prop} {l : List Int} (h : Kd.R (Kd.int .i64) 3 W base ok (.slice (some ⟨g, 0, none⟩) n cap) l) : ∃ cur, IBlk W base g cap cur l ∧ n = l.length := by
  obtain ⟨h1, h2⟩ := Kd.own_of_R h
  rcases h2 with ⟨e, _⟩ | ⟨g', cap', cur, e, hb, hc, hn, hm, hs, ht⟩
  · cases e
  · injection e with e1 e2 e3
    injection e1 with e1; injection e1 with e1
    subst e1 e2 e3
    refine ⟨cur, ⟨hc, hb, hn, ⟨hm⟩, hs, ?_⟩, rfl⟩
    rw [Nat.mul_one] at ht
    exact ht
theorem IBlk.holds {W : World} {base g cap : Nat} {cur : Array Value} {l : List Int} (h : IBlk W base g cap cur l) : Go.Sort.Holds (Value.int .i64) W g 0 l.toArray := holds_of_blockI h.blk h.take
theorem R_ints {W : World} {base : Nat} {v : Value} {l : List Int} (h : W.ownsRow base 3 1 v l.length (l.map (Value.int .i64))) : Kd.R (Kd.int .i64) 3 W base (fun _ => True) v l := Kd.R_of_own (h1 := fun _ => rfl) (ok := fun _ => True) h (fun _ _ => trivial)
theorem sort_c (base g cap : Nat) (zs : List Int) (w : World) (hr : Kd.R (Kd.int .i64) 3 w base (fun _ => True) (.slice (some ⟨g, 0, none⟩) zs.length cap) zs) (hl : zs.length < 1000000000) :
    Calls Tryd.prog 39 #[.slice (some ⟨g, 0, none⟩) zs.length cap] w fun e w' => e = .returned (.tuple #[]) ∧ Kd.R (Kd.int .i64) 3 w' base (fun _ => True) (.slice (some ⟨g, 0, none⟩) zs.length cap) (sortI zs) ∧ w.grownBy w' (some g) := by
  obtain ⟨cur, hb, _⟩ := iblk hr
  refine (Tryd.slices_Sort_int g 0 cap zs w hb.holds (blk_lt hb.blk) (by omega)).mono ?_
  rintro e w' ⟨rfl, n, os, rfl⟩
  refine ⟨rfl, R_ints ?_, grownBy_sortedI _⟩
  have := ownsRow_sortedI (base := base) (n := n) (os := os) (ts := sortI zs) (ss := zs) (sortI_len zs) hb.bas hb.blk hb.len hb.max.out hb.size
  rw [sortI_len]; exact this
theorem compact_le (zs : List Int) : (Lib.compact zs).length ≤ zs.length := by
  unfold Lib.compact Lib.compactUpTo
  rw [List.length_map]
  exact Nat.le_trans (List.length_filter_le _ _) (by rw [List.length_range]; exact Nat.le_refl _)
theorem compact_c (base g cap : Nat) (zs : List Int) (w : World) (hr : Kd.R (Kd.int .i64) 3 w base (fun _ => True) (.slice (some ⟨g, 0, none⟩) zs.length cap) zs) (hl : zs.length < 1000000000) :
    Calls Tryd.prog 40 #[.slice (some ⟨g, 0, none⟩) zs.length cap] w fun e w' => e = .returned (.slice (some ⟨g, 0, none⟩) (Lib.compact zs).length cap) ∧ Kd.R (Kd.int .i64) 3 w' base (fun _ => True) (.slice (some ⟨g, 0, none⟩) (Lib.compact zs).length cap) (Lib.compact zs) ∧ w.grownBy w' (some g) := by
  obtain ⟨cur, hb, _⟩ := iblk hr
  refine (Tryd.slices_Compact_int g 0 cap zs w hb.holds (by omega) hb.len).mono ?_
  rintro e w' ⟨rfl, q, rfl⟩
  have hle := compact_le zs
  have hln : (Lib.compact zs ++ List.replicate (zs.length - (Lib.compact zs).length) 0).length = zs.length := by rw [List.length_append, List.length_replicate]; omega
  have h2 := ownsRow_sortedI (base := base) (n := q) (os := #[]) (ts := Lib.compact zs ++ List.replicate (zs.length - (Lib.compact zs).length) 0) (ss := zs) hln hb.bas hb.blk hb.len hb.max.out hb.size
  have h3 := grownBy_sortedI (w := w) (g := g) (n := q) (os := #[]) (Lib.compact zs ++ List.replicate (zs.length - (Lib.compact zs).length) 0).toArray
  rw [Go.Sort.grow_empty] at h2 h3
  refine ⟨rfl, ?_, h3⟩
  clear h3
  generalize hZ : Lib.compact zs ++ List.replicate (zs.length - (Lib.compact zs).length) 0 = Z at hln h2 ⊢
  rw [← hln] at h2
  have h4 := Kd.R_take (m := (Lib.compact zs).length) (R_ints h2) (by rw [hln]; exact hle)
  rw [← hZ, List.take_left] at h4
  rw [← hZ]
  exact h4
end Go.Proofs.YtffldajbnhbkkaaDoor.Q
