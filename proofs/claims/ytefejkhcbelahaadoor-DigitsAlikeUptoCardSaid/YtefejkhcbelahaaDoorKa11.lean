import Derived.Test.YtefejkhcbelahaaDoorKa8
import Derived.Test.YtefejkhcbelahaaDoorKa9
import Derived.Test.YtefejkhcbelahaaDoorKa10
namespace Go.Proofs.YtefejkhcbelahaaDoor.Q
open Go.RowKit Go.Proofs.YtefejkhcbelahaaDoorW.PrintWords Go.Proofs.YtefejkhcbelahaaDoorW.PrintLast Go.Proofs.YtefejkhcbelahaaDoorW.PrintMore
set_option linter.unusedVariables false
set_option linter.unusedSimpArgs false
def digits_full.f (l : List S34) : Option (List S34) := some (fullL l)
theorem full_ext {base : Nat} {ok : Nat → Prop} {v : Value} {y r : List S34} {w : World} (HO : Kd.R k34 34 w base ok v y) (h : digits_full.f y = some r) :
    Calls Tryd.prog 24 #[v] w fun e w' => ∃ v', e = .returned v' ∧ Kd.R k34 34 w' base ok v' r ∧ (∀ w0 : World, w0.heap.size = base → Below w0.heap.size w0 w → Below w0.heap.size w0 w') ∧
      (∀ (g : Nat) (cells : Array Value) (t : TypeId), t ≠ 34 → w.heap[g]? = some (.cells cells t (0, 0)) → w'.heap[g]? = some (.cells cells t (0, 0))) := by
  obtain rfl := Option.some.inj h
  have hown := own34 HO
  refine (full_own HO).mono ?_
  rintro e w' ⟨v', rfl, ho, hg, _⟩
  refine ⟨v', rfl, ho, fun w0 e0 hb => ?_, fun g cells t ht hh => ?_⟩
  · refine ⟨hg.os.trans hb.os, hg.tape.trans hb.tape, hg.output.trans hb.output, Nat.le_trans hb.size hg.size, fun k hk => (hg.block k (Nat.lt_of_lt_of_le hk hb.size) (fun e => ?_)).trans (hb.block k hk)⟩
    rcases hown with ⟨rfl, _⟩ | ⟨g, cap, cur, rfl, hbg, _⟩
    · cases e
    · have : k = g := by simpa [Value.ownBlock] using e
      omega
  · refine (hg.block g (blk_lt hh) (fun e => ?_)).trans hh
    rcases hown with ⟨rfl, _⟩ | ⟨g', cap, cur, rfl, _, _, hh', _⟩
    · cases e
    · have e2 : g = g' := by simpa [Value.ownBlock] using e
      subst e2
      rw [hh] at hh'
      injection hh' with h1
      injection h1 with _ h2 _
      exact ht h2
/-- A row of rows that is only read. -/
def GR (w : World) (v : Value) (xs : List (List ByteArray)) : Prop := ∃ (B : Option Addr) (cb : Nat), v = .slice B xs.length cb ∧ xs.length ≤ cb ∧ Kd.C (Kd.slice 9 Kd.string) w B xs.length xs
theorem GR_slice {w : World} {v : Value} {xs : List (List ByteArray)} (h : GR w v xs) : ∃ A c, v = .slice A xs.length c := by
  obtain ⟨B, cb, rfl, _⟩ := h
  exact ⟨B, cb, rfl⟩
theorem GR_reads {w : World} {A : Option Addr} {n c : Nat} {xs : List (List ByteArray)} (h : GR w (.slice A n c) xs) : Kd.C (Kd.slice 9 Kd.string) w A xs.length xs := by
  obtain ⟨B, cb, e, _, h⟩ := h
  injection e with e1 _ _
  rw [e1]; exact h
def inI (n : Int) : Bool := decide (-9223372036854775808 ≤ n) && decide (n ≤ 9223372036854775807)
theorem inI_of {n : Int} (h : inI n = true) : -9223372036854775808 ≤ n ∧ n ≤ 9223372036854775807 := by
  unfold inI at h
  rw [Bool.and_eq_true] at h
  exact ⟨of_decide_eq_true h.1, of_decide_eq_true h.2⟩
def digits_grouped.f (l : List ByteArray) (a1 a2 a3 : Int) : Option (List (List ByteArray)) := if l.length ≤ 1000000 then (if (inI a1 && (inI a2 && inI a3)) = true then some (groupedL l a1 a2 a3) else none) else none
theorem digits_grouped.calls (A0 : Option Addr) (c0 : Nat) (l0 : List ByteArray) (a1 a2 a3 : Int) (r : List (List ByteArray)) (w : World) (hr0 : Kd.string.C w A0 l0.length l0) (hc0 : l0.length ≤ c0) (h : digits_grouped.f l0 a1 a2 a3 = some r) :
    Calls Tryd.prog 30 #[.slice A0 l0.length c0, .int .i64 a1, .int .i64 a2, .int .i64 a3] w fun e w' => ∃ v0_ : Value, e = .returned (v0_) ∧ GR w' v0_ r ∧ Below w.heap.size w w' := by
  unfold digits_grouped.f at h
  by_cases c1 : l0.length ≤ 1000000
  · rw [if_pos c1] at h
    by_cases c2 : (inI a1 && (inI a2 && inI a3)) = true
    · rw [if_pos c2] at h
      obtain rfl := Option.some.inj h
      rw [Bool.and_eq_true, Bool.and_eq_true] at c2
      refine (grouped_walk A0 c0 l0 a1 a2 a3 w hr0 hc0 c1 (inI_of c2.1) (inI_of c2.2.1) (inI_of c2.2.2)).mono ?_
      rintro e w' ⟨B, cb, rfl, h1, h2, h3⟩
      exact ⟨_, rfl, ⟨B, cb, rfl, h1, h2⟩, h3⟩
    · rw [if_neg c2] at h; cases h
  · rw [if_neg c1] at h; cases h
end Go.Proofs.YtefejkhcbelahaaDoor.Q
