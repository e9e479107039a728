import Derived.Test.YtalbhllgdjgbjaaRload
import Derived.Test.YtalbhllgdjgbjaaFixed
namespace Go.Proofs.Ytalbhllgdjgbjaa.Q
open Go.RowKit Go.Proofs.YtalbhllgdjgbjaaW.PrintWords Go.Proofs.YtalbhllgdjgbjaaW.PrintLast Go.Proofs.YtalbhllgdjgbjaaW.PrintMore
set_option linter.unusedVariables false
set_option linter.unusedSimpArgs false

/-- An Op of the laws: a place and a count. -/
structure S43 where
  f0 : Int
  f1 : Int
def z43 : S43 := ⟨(0 : Int), (0 : Int)⟩
def k43 : Kd S43 := Kd.iso (Kd.pair (Kd.int .i64) (Kd.int .i64)) (fun x : S43 => (x.f0, x.f1))
theorem k43_open {w : World} {x : S43} {cs : List Value} (h : k43.K w x cs) : cs = [.int .i64 x.f0, .int .i64 x.f1] := by
  obtain ⟨_, _, rfl, rfl, rfl⟩ := h
  exact rfl
def rd_T43 (xs : List S43) (i : Int) : S43 := xs.getD i.toNat z43
theorem at_T43 {w : World} {A : Option Addr} {n : Nat} {xs : List S43} (h : Kd.C k43 w A n xs) (i : Int) (h0 : 0 ≤ i) (h1 : i < n) : ∃ ad , A = some ad ∧ w.cell? (ad.add (i.toNat * 2)) = some (.int .i64 (rd_T43 xs i).f0) ∧ w.cell? ⟨(ad.add (i.toNat * 2)).block, (ad.add (i.toNat * 2)).off + 1, none⟩ = some (.int .i64 (rd_T43 xs i).f1) := by
  obtain ⟨ad, c, e, _, hK, hc0⟩ := Kd.C_get h z43 i h0 h1
  have hc : ∀ j u, c[j]? = some u → w.cell? (ad.add (i.toNat * 2 + j)) = some u := hc0
  obtain rfl := k43_open hK
  exact ⟨ad, e, hc 0 _ rfl, by rw [← add_field _ _ 1 (by omega)]; exact hc 1 _ rfl⟩

/-- What a disk must be of to be made. -/
def goodN (img : ByteArray) (fs : List S40) : Prop := img.size ≤ 65552 ∧ fs.length ≤ 64 ∧ okFs fs
def errN (img : ByteArray) : Int := if img.size ≤ 65552 then 103 else 106
def NewAny (T : Nat) (w : World) (img : ByteArray) (fs : List S40) (e : Ending) (w' : World) : Prop :=
  (goodN img fs ∧ (∃ g, e = .returned (.tuple #[.pointer (some ⟨g, 0, none⟩), .int .i64 0]) ∧ Disk T w.heap.size w' g img fs 0) ∧ Below w.heap.size w w') ∨
  (¬ goodN img fs ∧ e = .returned (.tuple #[.pointer none, .int .i64 (errN img)]) ∧ Below w.heap.size w w')
theorem NewPost.any {T : Nat} {w w' : World} {img : ByteArray} {fs : List S40} {e : Ending} (hi : img.size ≤ 65552) (hm : fs.length ≤ 64) (h : NewPost T w img fs e w') : NewAny T w img fs e w' :=
  h.elim (fun h => Or.inl ⟨⟨hi, hm, h.1⟩, h.2⟩) (fun h => Or.inr ⟨fun g => h.1 g.2.2, by rw [errN, if_pos hi]; exact h.2.1, h.2.2⟩)
theorem ret_e {img : ByteArray} {x : Int} (h : errN img = x) : Ending.returned (.tuple #[.pointer none, .int .i64 x]) = .returned (.tuple #[.pointer none, .int .i64 (errN img)]) := by rw [h]
set_option maxRecDepth 100000 in
theorem new_any (img : ByteArray) (A : Option Addr) (c : Nat) (fs : List S40) (w : World) (hi : img.size ≤ 140737488355328) (hm : fs.length ≤ 140737488355328) (hC : Kd.C k40 w A fs.length fs) :
    Calls Try.prog 15 #[.string img, .slice A fs.length c] w (NewAny 59 w img fs) := by
  by_cases h1 : img.size ≤ 65552
  · by_cases h2 : fs.length ≤ 64
    · exact (new_main img A c fs w h1 h2 hC).mono fun e w' h => h.any h1 h2
    · have d1 : decide (65552 < (img.size : Int)) = false := decide_eq_false (by omega)
      have d2 : decide (64 < (fs.length : Int)) = true := decide_eq_true (by omega)
      have d1' : decide (65552 < img.size) = false := decide_eq_false (by omega)
      have d2' : decide (64 < fs.length) = true := decide_eq_true (by omega)
      go_enter Try.func15, Try.ntmps15
      go_wp2
      go_ret2
      exact Or.inr ⟨fun g => h2 g.2.1, ret_e (if_pos h1), Below.refl _ _⟩
  · have d1 : decide (65552 < (img.size : Int)) = true := decide_eq_true (by omega)
    have d1' : decide (65552 < img.size) = true := decide_eq_true (by omega)
    go_enter Try.func15, Try.ntmps15
    go_wp2
    go_ret2
    exact Or.inr ⟨fun g => h1 g.1, ret_e (if_neg h1), Below.refl _ _⟩
set_option maxRecDepth 100000 in
theorem rnew_any (img : ByteArray) (A : Option Addr) (c : Nat) (fs : List S40) (w : World) (hi : img.size ≤ 140737488355328) (hm : fs.length ≤ 140737488355328) (hC : Kd.C k40 w A fs.length fs) :
    Calls Try.prog 16 #[.string img, .slice A fs.length c] w (NewAny 46 w img fs) := by
  by_cases h1 : img.size ≤ 65552
  · by_cases h2 : fs.length ≤ 64
    · exact (rnew_main img A c fs w h1 h2 hC).mono fun e w' h => h.any h1 h2
    · have d1 : decide (65552 < (img.size : Int)) = false := decide_eq_false (by omega)
      have d2 : decide (64 < (fs.length : Int)) = true := decide_eq_true (by omega)
      have d1' : decide (65552 < img.size) = false := decide_eq_false (by omega)
      have d2' : decide (64 < fs.length) = true := decide_eq_true (by omega)
      go_enter Try.func16, Try.ntmps16
      go_wp2
      go_ret2
      exact Or.inr ⟨fun g => h2 g.2.1, ret_e (if_pos h1), Below.refl _ _⟩
  · have d1 : decide (65552 < (img.size : Int)) = true := decide_eq_true (by omega)
    have d1' : decide (65552 < img.size) = true := decide_eq_true (by omega)
    go_enter Try.func16, Try.ntmps16
    go_wp2
    go_ret2
    exact Or.inr ⟨fun g => h1 g.1, ret_e (if_neg h1), Below.refl _ _⟩
end Go.Proofs.Ytalbhllgdjgbjaa.Q
