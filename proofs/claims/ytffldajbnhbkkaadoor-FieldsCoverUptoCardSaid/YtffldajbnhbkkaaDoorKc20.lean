import Derived.Test.YtffldajbnhbkkaaDoorKc14
namespace Go.Proofs.YtffldajbnhbkkaaDoor.Q
open Go.RowKit Go.Proofs.YtffldajbnhbkkaaDoorW.PrintWords Go.Proofs.YtffldajbnhbkkaaDoorW.PrintLast Go.Proofs.YtffldajbnhbkkaaDoorW.PrintMore
set_option linter.unusedVariables false
set_option linter.unusedSimpArgs false
theorem slenF (s : ByteArray) : s.data.toList.length = s.size := by rw [Array.length_toList]; rfl
theorem nilF (s : ByteArray) : s.toList = ([] : List UInt8) ↔ s.size = 0 := by rw [ByteArray.toList_eq s, ← List.length_eq_zero_iff, slenF]
def flush : Option (Int × Int) → List S31
  | none => []
  | some (a, b) => [⟨2, a, b⟩]
def firstOf (n : Int) : Option (Int × Int) → Int
  | none => n
  | some (a, _) => a
def evs : List S43 → Int → Option (Int × Int) → List S31
  | [], _, st => flush st
  | p :: ps, n, st => if p.f0.size = 0 then evs ps n st
      else if p.f1 = 2 then evs ps (n + p.f0.size) (some (firstOf n st, n + p.f0.size))
      else if p.f1 = 3 then (⟨3, n, n + p.f0.size⟩ : S31) :: evs ps (n + p.f0.size) st
      else flush st ++ ((if p.f1 = 0 then [] else [(⟨p.f1, n, n + p.f0.size⟩ : S31)]) ++ evs ps (n + p.f0.size) none)
def okP (p : S43) : Bool := decide (0 ≤ p.f1) && decide (p.f1 ≤ 17) && Lib.validD p.f0.data.toList
def textP (ps : List S43) : List UInt8 := ps.flatMap (·.f0.data.toList)
def putsL (sp : List S31) (xs : List S31) : List S31 := xs.foldl (HP.putL lt31) sp
def refR (ps : List S43) (T : List UInt8) (sp : List S31) (st : Option (Int × Int)) : ByteArray × List S31 × Int :=
  if ps.all okP = true then (mkS (T ++ textP ps), putsL sp (evs ps T.length st), 0) else (⟨#[]⟩, [], 170)
def bb (l : List UInt8) : List Int := l.map fun b => (b.toNat : Int)
theorem bb_app (l m : List UInt8) : bb (l ++ m) = bb l ++ bb m := List.map_append
theorem bb_len (l : List UInt8) : (bb l).length = l.length := List.length_map ..
theorem bb_bytes (s : ByteArray) : bb s.data.toList = bytesOf s := rfl
theorem bb_back (l : List UInt8) : strOfNums (bb l) = mkS l := by
  unfold strOfNums mkS bb
  rw [List.map_map]
  congr 2
  conv => rhs; rw [← List.map_id l]
  refine List.map_congr_left (fun b _ => ?_)
  simp
theorem put_len (l : List S31) (x : S31) : (HP.putL lt31 l x).length = l.length + 1 := (HP.put_perm lt31 l x).length_eq
theorem valid_f (s : ByteArray) (h : s.size ≤ 9223372036854775807) : utf8_ValidString.f s = some (Lib.validD s.data.toList) := by unfold utf8_ValidString.f; rw [if_pos h]
/-- Whether the whole digits that go on end here. -/
def ends (x6 x9 : Int) : Bool := decide (0 ≤ x6) && (!(x9 == 2) && !(x9 == 3))
theorem textP_cons (p : S43) (ps : List S43) : textP (p :: ps) = p.f0.data.toList ++ textP ps := rfl
theorem puts_cons (sp : List S31) (x : S31) (xs : List S31) : putsL sp (x :: xs) = putsL (HP.putL lt31 sp x) xs := rfl
end Go.Proofs.YtffldajbnhbkkaaDoor.Q

namespace Go.Proofs.YtffldajbnhbkkaaDoor.Q
open Go.RowKit Go.Proofs.YtffldajbnhbkkaaDoorW.PrintWords Go.Proofs.YtffldajbnhbkkaaDoorW.PrintLast Go.Proofs.YtffldajbnhbkkaaDoorW.PrintMore
set_option linter.unusedVariables false
set_option linter.unusedSimpArgs false
theorem one_of {l : List S31} (h : l.Pairwise fun a b => a.f1 ≠ b.f1) : ∀ a b, a ∈ l → b ∈ l → a.f1 = b.f1 → a = b := by
  induction l with
  | nil => intro a b ha; simp at ha
  | cons x xs ih =>
    intro a b ha hb he
    have hx := fun y hy => List.rel_of_pairwise_cons h (a' := y) hy
    rcases List.mem_cons.1 ha with ha1 | ha2
    · rcases List.mem_cons.1 hb with hb1 | hb2
      · rw [ha1, hb1]
      · rw [ha1] at he; exact absurd he (hx b hb2)
    · rcases List.mem_cons.1 hb with hb1 | hb2
      · rw [hb1] at he; exact absurd he.symm (hx a ha2)
      · exact ih (List.Pairwise.of_cons h) a b ha2 hb2 he
theorem flush_mem {st : Option (Int × Int)} {x : S31} (h : x ∈ flush st) : ∃ a b, st = some (a, b) ∧ x = ⟨2, a, b⟩ := by
  cases st with
  | none => simp [flush] at h
  | some p =>
    obtain ⟨a, b⟩ := p
    exact ⟨a, b, rfl, List.mem_singleton.1 h⟩
theorem evs_from : ∀ (ps : List S43) (n : Int) (st : Option (Int × Int)), (∀ a b, st = some (a, b) → a < n) →
    (∀ x ∈ evs ps n st, n ≤ x.f1 ∨ ∃ a b, st = some (a, b) ∧ x.f1 = a) ∧ (evs ps n st).Pairwise fun a b => a.f1 ≠ b.f1
  | [], n, st, hst => by
    have e : evs [] n st = flush st := by unfold evs; rfl
    rw [e]
    refine ⟨fun x hx => ?_, ?_⟩
    · obtain ⟨a, b, h1, rfl⟩ := flush_mem hx
      exact Or.inr ⟨a, b, h1, rfl⟩
    · cases st with
      | none => exact List.Pairwise.nil
      | some p => exact List.Pairwise.cons (fun _ h => by simp at h) List.Pairwise.nil
  | p :: ps, n, st, hst => by
    by_cases c0 : p.f0.size = 0
    · have e : evs (p :: ps) n st = evs ps n st := by conv => lhs; unfold evs
                                                      rw [if_pos c0]
      rw [e]; exact evs_from ps n st hst
    · have hm : n < n + (p.f0.size : Int) := by omega
      by_cases c2 : p.f1 = 2
      · have e : evs (p :: ps) n st = evs ps (n + p.f0.size) (some (firstOf n st, n + p.f0.size)) := by
          conv => lhs; unfold evs
          rw [if_neg c0, if_pos c2]
        have hf : firstOf n st = n ∨ ∃ a b, st = some (a, b) ∧ firstOf n st = a := by
          cases st with
          | none => exact Or.inl rfl
          | some q => exact Or.inr ⟨q.1, q.2, rfl, rfl⟩
        obtain ⟨h1, h2⟩ := evs_from ps (n + p.f0.size) (some (firstOf n st, n + p.f0.size)) (fun a b h => by
          injection h with h; injection h with h h'
          rcases hf with hf | ⟨a', b', q1, q2⟩
          · omega
          · have := hst a' b' q1; omega)
        rw [e]
        refine ⟨fun x hx => ?_, h2⟩
        rcases h1 x hx with h | ⟨a, b, h, h'⟩
        · left; omega
        · injection h with h; injection h with h h''
          rcases hf with hf | ⟨a', b', q1, q2⟩
          · left; omega
          · right; exact ⟨a', b', q1, by omega⟩
      · by_cases c3 : p.f1 = 3
        · have e : evs (p :: ps) n st = (⟨3, n, n + p.f0.size⟩ : S31) :: evs ps (n + p.f0.size) st := by
            conv => lhs; unfold evs
            rw [if_neg c0, if_neg c2, if_pos c3]
          obtain ⟨h1, h2⟩ := evs_from ps (n + p.f0.size) st (fun a b h => by have := hst a b h; omega)
          rw [e]
          refine ⟨fun x hx => ?_, List.Pairwise.cons (fun x hx => ?_) h2⟩
          · rcases List.mem_cons.1 hx with rfl | hx
            · left; exact Int.le_refl _
            · rcases h1 x hx with h | h
              · left; omega
              · exact Or.inr h
          · show n ≠ x.f1
            rcases h1 x hx with h | ⟨a, b, h, h'⟩
            · omega
            · have := hst a b h; omega
        · have e : evs (p :: ps) n st = flush st ++ ((if p.f1 = 0 then [] else [(⟨p.f1, n, n + p.f0.size⟩ : S31)]) ++ evs ps (n + p.f0.size) none) := by
            conv => lhs; unfold evs
            rw [if_neg c0, if_neg c2, if_neg c3]
          obtain ⟨h1, h2⟩ := evs_from ps (n + p.f0.size) none (fun a b h => by cases h)
          have hown : ∀ x ∈ (if p.f1 = 0 then [] else [(⟨p.f1, n, n + p.f0.size⟩ : S31)]), x.f1 = n := by
            intro x hx
            split at hx
            · simp at hx
            · rw [List.mem_singleton.1 hx]
          have hrest : ∀ x ∈ evs ps (n + p.f0.size) none, n + p.f0.size ≤ x.f1 := by
            intro x hx
            rcases h1 x hx with h | ⟨a, b, h, _⟩
            · exact h
            · cases h
          rw [e]
          refine ⟨fun x hx => ?_, ?_⟩
          · rcases List.mem_append.1 hx with hx | hx
            · obtain ⟨a, b, q, rfl⟩ := flush_mem hx
              exact Or.inr ⟨a, b, q, rfl⟩
            · rcases List.mem_append.1 hx with hx | hx
              · left; rw [hown x hx]; exact Int.le_refl _
              · left; have := hrest x hx; omega
          · rw [List.pairwise_append]
            refine ⟨?_, ?_, fun x hx y hy => ?_⟩
            · cases st with
              | none => exact List.Pairwise.nil
              | some q => exact List.Pairwise.cons (fun _ h => by simp at h) List.Pairwise.nil
            · rw [List.pairwise_append]
              refine ⟨?_, h2, fun x hx y hy => ?_⟩
              · split
                · exact List.Pairwise.nil
                · exact List.Pairwise.cons (fun _ h => by simp at h) List.Pairwise.nil
              · have q1 := hown x hx
                have q2 := hrest y hy
                omega
            · obtain ⟨a, b, q, rfl⟩ := flush_mem hx
              have q0 := hst a b q
              show a ≠ y.f1
              rcases List.mem_append.1 hy with hy | hy
              · have := hown y hy; omega
              · have := hrest y hy; omega
open Classical in
/-- What the heap tells of the spans of pieces. -/
theorem heap_evs (l : List S43) : HP.drainL lt31 (HP.pushes lt31 [] (evs l 0 none)).length (HP.pushes lt31 [] (evs l 0 none)) = putsL [] (evs l 0 none) := by
  obtain ⟨_, h2⟩ := evs_from l 0 none (fun a b h => by cases h)
  refine HP.heap_is_put ord31 (evs l 0 none) (evs l 0 none) (List.Perm.refl _) (fun a b ha hb h3 h4 => one_of h2 a b ha hb ?_)
  have e1 := (HP.ltK_no _ _ _ _).1 h3
  have e2 := (HP.ltK_no _ _ _ _).1 h4
  omega
end Go.Proofs.YtffldajbnhbkkaaDoor.Q
