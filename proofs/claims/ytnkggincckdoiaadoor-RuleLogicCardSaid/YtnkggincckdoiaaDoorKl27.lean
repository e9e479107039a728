import Derived.Test.YtnkggincckdoiaaDoorKl17
import Derived.Test.YtnkggincckdoiaaDoorKl18
import Derived.Test.YtnkggincckdoiaaDoorKl25
import Derived.Test.YtnkggincckdoiaaDoorKl23
import Derived.Test.YtnkggincckdoiaaDoorKl1
import Derived.Test.YtnkggincckdoiaaDoorKl24
import Derived.Test.YtnkggincckdoiaaDoorKl26
namespace Go.Proofs.YtnkggincckdoiaaDoor.Q
open Go.RowKit Go.Shelf Go.Proofs.YtnkggincckdoiaaDoorW.PrintWords
set_option linter.unusedVariables false
set_option linter.unusedSimpArgs false
theorem tok_mem : ∀ (m : Nat) (l : List UInt8) (ts : List (List UInt8)), l.length ≤ m → tokL l = some ts → ∀ t ∈ ts, ∀ c ∈ t, c ∈ l := by
  intro m
  induction m with
  | zero =>
    intro l ts hm h
    obtain rfl : l = [] := List.eq_nil_of_length_eq_zero (by omega)
    obtain rfl := Option.some.inj h
    intro t ht; cases ht
  | succ m ih =>
    intro l ts hm h
    rw [tokL_eq] at h
    have hs : l.dropWhile bl <:+ l := List.dropWhile_suffix _
    cases hn : tokNL (l.dropWhile bl) with
    | none => rw [hn] at h; cases h
    | some n =>
      rw [hn] at h
      simp only [] at h
      split at h
      · obtain rfl := Option.some.inj h
        intro t ht; cases ht
      · rename_i h0
        obtain ⟨us, hu, rfl⟩ := Option.map_eq_some_iff.1 h
        have hp := tokNL_pos hn h0
        have hl := hs.length_le
        have hlt : 0 < (l.dropWhile bl).length := List.length_pos_iff.2 h0
        intro t ht c hc
        rcases List.mem_cons.1 ht with rfl | ht
        · exact hs.mem (List.mem_of_mem_take hc)
        · exact hs.mem (List.mem_of_mem_drop (ih _ us (by rw [List.length_drop]; omega) hu t ht c hc))
theorem mkS_inj {a b : List UInt8} (h : mkS a = mkS b) : a = b := by
  have := congrArg (fun s : ByteArray => s.data.toList) h
  simpa [mkS] using this
/-- No part is a sign that does not stand in the text. -/
theorem no_part {l : List UInt8} {ts : List (List UInt8)} {c : UInt8} (h : tokL l = some ts) (hc : c ∉ l) (t : List UInt8) (hct : c ∈ t) : mkS t ∉ ts.map mkS := by
  intro hm
  obtain ⟨u, hu, e⟩ := List.mem_map.1 hm
  obtain rfl := mkS_inj e
  exact hc (tok_mem l.length l ts (Nat.le_refl _) h u hu c hct)
/-- One rule, alone. -/
theorem pick_one {x : Opr} {m : Nat} {a b : Int} {q : List Bool} {w : ByteArray} {c : Int} {tc : List ByteArray} (hw : ∀ ts, catT (w :: ts) = some (c, ts)) (hs : sSem ∉ tc) (h : pickT x (m + 1) a q (w :: sCol :: tc) = some (b, [])) :
    ∃ hh, condT x tc = some (hh, []) ∧ b = if hh = true ∧ a = 5 then c else a := by
  rw [pickT, hw] at h
  simp only [] at h
  rw [show takeT sCol (sCol :: tc) = (true, tc) from if_pos rfl] at h
  simp only [] at h
  split at h
  · cases e2 : condT x tc with
    | none => rw [e2] at h; cases h
    | some hp =>
      obtain ⟨hh, ts2⟩ := hp
      rw [e2] at h
      simp only [] at h
      rw [if_neg (by rw [take_not (fun hm => hs ((cond_suf e2).mem hm))]; decide)] at h
      injection h with h
      injection h with h1 h2
      subst h2
      exact ⟨hh, rfl, h1.symm⟩
  · cases h
def wOne : ByteArray := ⟨#[111, 110, 101]⟩
theorem cat_one (ts : List ByteArray) : catT (wOne :: ts) = some (1, ts) := by rw [cat_cons, if_pos (by decide)]; rfl
/-- The text "one: " ahead of a condition. -/
theorem toks_one (c : List UInt8) : tokL ([111, 110, 101, 58, 32] ++ c) = (tokL c).map ([[111, 110, 101], [58]] ++ ·) := by
  rw [tok_app _ _ (Or.inr (Or.inl rfl)), show tokL [111, 110, 101, 58, 32] = some [[111, 110, 101], [58]] by kernel_rfl]
  rfl
theorem one_toks {c : ByteArray} {ts : List ByteArray} (h : toks (((⟨#[111, 110, 101, 58, 32]⟩ : ByteArray) ++ c).size + 1) ((⟨#[111, 110, 101, 58, 32]⟩ : ByteArray) ++ c) = some ts) :
    ∃ l, tokL c.data.toList = some l ∧ ts = wOne :: sCol :: l.map mkS := by
  rw [toks_L, app_data, toks_one] at h
  obtain ⟨l1, h1, rfl⟩ := Option.map_eq_some_iff.1 h
  obtain ⟨l, h2, rfl⟩ := Option.map_eq_some_iff.1 h1
  exact ⟨l, h2, rfl⟩
end Go.Proofs.YtnkggincckdoiaaDoor.Q
