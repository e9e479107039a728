import Derived.Test.YtnkggincckdoiaaDoorKs17
import Derived.Test.YtnkggincckdoiaaDoorKs18
import Derived.Test.YtnkggincckdoiaaDoorKs26
import Derived.Test.YtnkggincckdoiaaDoorKs24
import Derived.Test.YtnkggincckdoiaaDoorKs1
import Derived.Test.YtnkggincckdoiaaDoorKs25
namespace Go.Proofs.YtnkggincckdoiaaDoor.Q
open Go.RowKit Go.Shelf Go.Proofs.YtnkggincckdoiaaDoorW.PrintWords
set_option linter.unusedVariables false
set_option linter.unusedSimpArgs false
theorem tok_mem : ∀ (m : Nat) (l : List UInt8) (ts : List (List UInt8)), l.length ≤ m → tokL l = some ts → ∀ t ∈ ts, ∀ c ∈ t, c ∈ l := by
  intro m
  induction m with
  | zero =>
    intro l ts hm h
    obtain rfl : l = [] := List.eq_nil_of_length_eq_zero (by omega)
    obtain rfl := Option.some.inj h
    intro t ht; cases ht
  | succ m ih =>
    intro l ts hm h
    rw [tokL_eq] at h
    have hs : l.dropWhile bl <:+ l := List.dropWhile_suffix _
    cases hn : tokNL (l.dropWhile bl) with
    | none => rw [hn] at h; cases h
    | some n =>
      rw [hn] at h
      simp only [] at h
      split at h
      · obtain rfl := Option.some.inj h
        intro t ht; cases ht
      · rename_i h0
        obtain ⟨us, hu, rfl⟩ := Option.map_eq_some_iff.1 h
        have hp := tokNL_pos hn h0
        have hl := hs.length_le
        have hlt : 0 < (l.dropWhile bl).length := List.length_pos_iff.2 h0
        intro t ht c hc
        rcases List.mem_cons.1 ht with rfl | ht
        · exact hs.mem (List.mem_of_mem_take hc)
        · exact hs.mem (List.mem_of_mem_drop (ih _ us (by rw [List.length_drop]; omega) hu t ht c hc))
theorem toks_data {s : ByteArray} {ts : List ByteArray} (h : toks (s.size + 1) s = some ts) : ∃ l, tokL s.data.toList = some l ∧ ts = l.map mkS := by
  rw [toks_L] at h
  obtain ⟨l, h1, h2⟩ := Option.map_eq_some_iff.1 h
  exact ⟨l, h1, h2.symm⟩
theorem mkS_inj {a b : List UInt8} (h : mkS a = mkS b) : a = b := by
  have := congrArg (fun s : ByteArray => s.data.toList) h
  simpa [mkS] using this
/-- No part is a sign that does not stand in the text. -/
theorem no_part {l : List UInt8} {ts : List (List UInt8)} {c : UInt8} (h : tokL l = some ts) (hc : c ∉ l) (t : List UInt8) (hct : c ∈ t) : mkS t ∉ ts.map mkS := by
  intro hm
  obtain ⟨u, hu, e⟩ := List.mem_map.1 hm
  obtain rfl := mkS_inj e
  exact hc (tok_mem l.length l ts (Nat.le_refl _) h u hu c hct)
def wOne : ByteArray := ⟨#[111, 110, 101]⟩
theorem cat_one (ts : List ByteArray) : catT (wOne :: ts) = some (1, ts) := by rw [cat_cons, if_pos (by decide)]; rfl
/-- The text "one: " ahead of a condition. -/
theorem toks_one (c : List UInt8) : tokL ([111, 110, 101, 58, 32] ++ c) = (tokL c).map ([[111, 110, 101], [58]] ++ ·) := by
  rw [tok_app _ _ (Or.inr (Or.inl rfl)), show tokL [111, 110, 101, 58, 32] = some [[111, 110, 101], [58]] by kernel_rfl]
  rfl
end Go.Proofs.YtnkggincckdoiaaDoor.Q
