import Derived.Test.YtffldajbnhbkkaaDoorKv13
namespace Go.Proofs.YtffldajbnhbkkaaDoor.Q
open Go.RowKit Go.Proofs.YtffldajbnhbkkaaDoorW.PrintWords Go.Proofs.YtffldajbnhbkkaaDoorW.PrintLast Go.Proofs.YtffldajbnhbkkaaDoorW.PrintMore
set_option linter.unusedVariables false
set_option linter.unusedSimpArgs false
theorem slenF (s : ByteArray) : s.data.toList.length = s.size := by rw [Array.length_toList]; rfl
theorem nilF (s : ByteArray) : s.toList = ([] : List UInt8) ↔ s.size = 0 := by rw [ByteArray.toList_eq s, ← List.length_eq_zero_iff, slenF]
def flush : Option (Int × Int) → List S31
  | none => []
  | some (a, b) => [⟨2, a, b⟩]
def firstOf (n : Int) : Option (Int × Int) → Int
  | none => n
  | some (a, _) => a
def evs : List S43 → Int → Option (Int × Int) → List S31
  | [], _, st => flush st
  | p :: ps, n, st => if p.f0.size = 0 then evs ps n st
      else if p.f1 = 2 then evs ps (n + p.f0.size) (some (firstOf n st, n + p.f0.size))
      else if p.f1 = 3 then (⟨3, n, n + p.f0.size⟩ : S31) :: evs ps (n + p.f0.size) st
      else flush st ++ ((if p.f1 = 0 then [] else [(⟨p.f1, n, n + p.f0.size⟩ : S31)]) ++ evs ps (n + p.f0.size) none)
def okP (p : S43) : Bool := decide (0 ≤ p.f1) && decide (p.f1 ≤ 17) && Lib.validD p.f0.data.toList
def textP (ps : List S43) : List UInt8 := ps.flatMap (·.f0.data.toList)
def bb (l : List UInt8) : List Int := l.map fun b => (b.toNat : Int)
theorem bb_app (l m : List UInt8) : bb (l ++ m) = bb l ++ bb m := List.map_append
theorem bb_len (l : List UInt8) : (bb l).length = l.length := List.length_map ..
theorem bb_bytes (s : ByteArray) : bb s.data.toList = bytesOf s := rfl
theorem bb_back (l : List UInt8) : strOfNums (bb l) = mkS l := by
  unfold strOfNums mkS bb
  rw [List.map_map]
  congr 2
  conv => rhs; rw [← List.map_id l]
  refine List.map_congr_left (fun b _ => ?_)
  simp
theorem valid_f (s : ByteArray) (h : s.size ≤ 9223372036854775807) : utf8_ValidString.f s = some (Lib.validD s.data.toList) := by unfold utf8_ValidString.f; rw [if_pos h]
/-- Whether the whole digits that go on end here. -/
def ends (x6 x9 : Int) : Bool := decide (0 ≤ x6) && (!(x9 == 2) && !(x9 == 3))
theorem textP_cons (p : S43) (ps : List S43) : textP (p :: ps) = p.f0.data.toList ++ textP ps := rfl
end Go.Proofs.YtffldajbnhbkkaaDoor.Q

namespace Go.Proofs.YtffldajbnhbkkaaDoor.Q
open Go.RowKit Go.Proofs.YtffldajbnhbkkaaDoorW.PrintWords Go.Proofs.YtffldajbnhbkkaaDoorW.PrintLast Go.Proofs.YtffldajbnhbkkaaDoorW.PrintMore
set_option linter.unusedVariables false
set_option linter.unusedSimpArgs false
theorem one_of {l : List S31} (h : l.Pairwise fun a b => a.f1 ≠ b.f1) : ∀ a b, a ∈ l → b ∈ l → a.f1 = b.f1 → a = b := by
  induction l with
  | nil => intro a b ha; simp at ha
  | cons x xs ih =>
    intro a b ha hb he
    have hx := fun y hy => List.rel_of_pairwise_cons h (a' := y) hy
    rcases List.mem_cons.1 ha with ha1 | ha2
    · rcases List.mem_cons.1 hb with hb1 | hb2
      · rw [ha1, hb1]
      · rw [ha1] at he; exact absurd he (hx b hb2)
    · rcases List.mem_cons.1 hb with hb1 | hb2
      · rw [hb1] at he; exact absurd he.symm (hx a ha2)
      · exact ih (List.Pairwise.of_cons h) a b ha2 hb2 he
end Go.Proofs.YtffldajbnhbkkaaDoor.Q
