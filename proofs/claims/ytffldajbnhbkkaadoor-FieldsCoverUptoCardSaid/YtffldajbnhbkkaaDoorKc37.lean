import Derived.Test.YtffldajbnhbkkaaDoorKc30
import Derived.Test.YtffldajbnhbkkaaDoorKc36
namespace Go.Proofs.YtffldajbnhbkkaaDoor.Q
open Go.RowKit Go.Proofs.YtffldajbnhbkkaaDoorW.PrintWords Go.Proofs.YtffldajbnhbkkaaDoorW.PrintLast Go.Proofs.YtffldajbnhbkkaaDoorW.PrintMore
set_option linter.unusedVariables false
set_option linter.unusedSimpArgs false
def fields_Build.f (l0 : List S43) : Option (ByteArray × List S31 × Int) := if l0.length ≤ 400000 ∧ (textP l0).length ≤ 2000000 then some (buildR l0) else none
theorem fields_Build.calls (A0 : Option Addr) (c0 : Nat) (l0 : List (S43)) (r1 : ByteArray) (r2 : List (S31)) (r3 : Int) (w : World) (hG : Gd w) (hr0 : Kd.C k43 w A0 l0.length l0) (hc0 : l0.length ≤ c0) (h : fields_Build.f l0 = some (r1, r2, r3)) :
    Calls Tryd.prog 8 #[.slice A0 l0.length c0] w fun e w' => ∃ v1_ : Value, e = .returned (.tuple #[.agg #[.string r1, v1_], .int .i64 r3]) ∧ Kd.R k31 31 w' w.heap.size (fun _ => True) v1_ r2 ∧ Below w.heap.size w w' := by
  unfold fields_Build.f at h
  by_cases c : l0.length ≤ 400000 ∧ (textP l0).length ≤ 2000000
  · rw [if_pos c] at h
    have e := Option.some.inj h
    have := build_walk A0 c0 l0 w hG hr0 hc0 c.1 c.2
    unfold BuildPost at this
    rw [e] at this
    exact this
  · rw [if_neg c] at h; cases h
def fields_Check.f (a0_0 : ByteArray) (l0_1 : List S31) : Option Int := if a0_0.size < 1000000000 ∧ l0_1.length < 100000000 then some (if chkB a0_0 l0_1 = true then 0 else 170) else none
theorem fields_Check.calls (a0_0 : ByteArray) (A0_1 : Option Addr) (c0_1 : Nat) (l0_1 : List (S31)) (r : Int) (w : World) (hG : Gd w) (hr0_1 : Kd.C k31 w A0_1 l0_1.length l0_1) (hc0_1 : l0_1.length ≤ c0_1) (h : fields_Check.f a0_0 l0_1 = some r) :
    Calls Tryd.prog 15 #[.agg #[.string a0_0, .slice A0_1 l0_1.length c0_1]] w fun e w' => e = .returned (.int .i64 r) ∧ Below w.heap.size w w' := by
  unfold fields_Check.f at h
  by_cases c : a0_0.size < 1000000000 ∧ l0_1.length < 100000000
  · rw [if_pos c] at h
    obtain rfl := Option.some.inj h
    exact check_walk a0_0 A0_1 c0_1 l0_1 w hG (by omega) hr0_1 hc0_1 (by omega)
  · rw [if_neg c] at h; cases h
def fields_Wrap.f (a0_0 : ByteArray) (l0_1 : List S31) (a1 a2 a3 : Int) : Option (ByteArray × List S31 × Int) := if a0_0.size < 1000000000 ∧ l0_1.length < 100000000 then some (wrapR a0_0 l0_1 ⟨a1, a2, a3⟩) else none
theorem fields_Wrap.calls (a0_0 : ByteArray) (A0_1 : Option Addr) (c0_1 : Nat) (l0_1 : List (S31)) (a1 : Int) (a2 : Int) (a3 : Int) (r1 : ByteArray) (r2 : List (S31)) (r3 : Int) (w : World) (hG : Gd w) (hr0_1 : Kd.C k31 w A0_1 l0_1.length l0_1) (hc0_1 : l0_1.length ≤ c0_1) (h : fields_Wrap.f a0_0 l0_1 a1 a2 a3 = some (r1, r2, r3)) :
    Calls Tryd.prog 13 #[.agg #[.string a0_0, .slice A0_1 l0_1.length c0_1], .int .i64 a1, .int .i64 a2, .int .i64 a3] w fun e w' => ∃ v1_ : Value, e = .returned (.tuple #[.agg #[.string r1, v1_], .int .i64 r3]) ∧ Kd.R k31 31 w' w.heap.size (fun _ => True) v1_ r2 ∧ Below w.heap.size w w' := by
  unfold fields_Wrap.f at h
  by_cases c : a0_0.size < 1000000000 ∧ l0_1.length < 100000000
  · rw [if_pos c] at h
    have e := Option.some.inj h
    have := wrap_walk a0_0 A0_1 c0_1 l0_1 ⟨a1, a2, a3⟩ w hG (by omega) hr0_1 hc0_1 (by omega)
    unfold WrapPost at this
    rw [e] at this
    exact this
  · rw [if_neg c] at h; cases h
def fields_Leaves.f (a0_0 : ByteArray) (l0_1 : List S31) : Option (List S43 × Int) := if a0_0.size < 1000000000 ∧ l0_1.length < 100000000 then some (leavesR a0_0 l0_1) else none
theorem fields_Leaves.calls (a0_0 : ByteArray) (A0_1 : Option Addr) (c0_1 : Nat) (l0_1 : List (S31)) (r1 : List (S43)) (r2 : Int) (w : World) (hG : Gd w) (hr0_1 : Kd.C k31 w A0_1 l0_1.length l0_1) (hc0_1 : l0_1.length ≤ c0_1) (h : fields_Leaves.f a0_0 l0_1 = some (r1, r2)) :
    Calls Tryd.prog 18 #[.agg #[.string a0_0, .slice A0_1 l0_1.length c0_1]] w fun e w' => ∃ v0_ : Value, e = .returned (.tuple #[v0_, .int .i64 r2]) ∧ Kd.R k43 43 w' w.heap.size (fun _ => True) v0_ r1 ∧ Below w.heap.size w w' := by
  unfold fields_Leaves.f at h
  by_cases c : a0_0.size < 1000000000 ∧ l0_1.length < 100000000
  · rw [if_pos c] at h
    have e := Option.some.inj h
    have := leaves_walk a0_0 A0_1 c0_1 l0_1 w hG c.1 hr0_1 hc0_1 c.2
    unfold LeafPost at this
    rw [e] at this
    exact this
  · rw [if_neg c] at h; cases h
end Go.Proofs.YtffldajbnhbkkaaDoor.Q

namespace Go.Proofs.YtffldajbnhbkkaaDoor.Q
open Go.RowKit Go.Proofs.YtffldajbnhbkkaaDoorW.PrintWords Go.Proofs.YtffldajbnhbkkaaDoorW.PrintLast Go.Proofs.YtffldajbnhbkkaaDoorW.PrintMore
set_option linter.unusedVariables false
set_option linter.unusedSimpArgs false
set_option maxRecDepth 100000
def L6 : List S43 := [⟨⟨#[45]⟩, 1⟩, ⟨⟨#[49]⟩, 2⟩, ⟨⟨#[44]⟩, 3⟩, ⟨⟨#[50, 51, 52]⟩, 2⟩, ⟨⟨#[46]⟩, 4⟩, ⟨⟨#[53]⟩, 5⟩]
def wantT : ByteArray := ⟨#[45, 49, 44, 50, 51, 52, 46, 53]⟩
def wantS : List S31 := [⟨1, 0, 1⟩, ⟨2, 1, 6⟩, ⟨3, 2, 3⟩, ⟨4, 6, 7⟩, ⟨5, 7, 8⟩]
theorem aw_b6 : buildR L6 = (wantT, wantS, 0) := by kernel_rfl
theorem aw_b1 : buildR [⟨⟨#[]⟩, 18⟩] = (⟨#[]⟩, [], 170) := by kernel_rfl
theorem aw_ck : chkB wantT wantS = true := by kernel_rfl
theorem aw_wr : wrapR wantT wantS ⟨17, 0, 8⟩ = (wantT, ⟨17, 0, 8⟩ :: wantS, 0) := by kernel_rfl
theorem aw_sort : sortI ([0, (wantT.size : Int)] ++ flatL wantS) = [0, 0, 1, 1, 2, 3, 6, 6, 7, 7, 8, 8] := by
  refine List.Perm.eq_of_pairwise (le := fun a b : Int => a ≤ b) (fun a b _ _ h1 h2 => by omega) (sortI_pair _) (by decide) ?_
  refine (List.mergeSort_perm _ _).trans ?_
  show ([0, 8, 0, 1, 1, 6, 2, 3, 6, 7, 7, 8] : List Int).Perm _
  decide
theorem aw_lv : leavesR wantT wantS = (L6, 0) := by
  unfold leavesR
  rw [aw_ck, if_pos rfl]
  unfold edgesL
  rw [aw_sort]
  kernel_rfl
theorem same_l0 (s : ByteArray) (l : List S31) (hl : l.length ≤ 1000000) : ∀ (d i k : Nat), l.length - i = d → i ≤ l.length → d < k → quipuref17_Same.l0 k (i : Int) s l s l = some true
  | 0, i, k, hd, hi, hk => by
    obtain ⟨k, rfl⟩ : ∃ m, k = m + 1 := ⟨k - 1, by omega⟩
    unfold quipuref17_Same.l0
    rw [if_neg (by omega)]
  | d + 1, i, k, hd, hi, hk => by
    obtain ⟨k, rfl⟩ : ∃ m, k = m + 1 := ⟨k - 1, by omega⟩
    unfold quipuref17_Same.l0
    rw [if_pos (by omega), if_pos (by omega), if_pos (by omega), if_neg (by simp), wrapS i 10000000 (by omega) (by omega)]
    exact same_l0 s l hl d (i + 1) k (by omega) (by omega) (by omega)
theorem same_self (s : ByteArray) (l : List S31) (hl : l.length ≤ 1000000) (k : Nat) (hk : l.length + 1 < k) : quipuref17_Same.f k s l s l = some true := by
  obtain ⟨k, rfl⟩ : ∃ m, k = m + 1 := ⟨k - 1, by omega⟩
  unfold quipuref17_Same.f
  rw [if_pos rfl]
  have e : ((l.length : Int) != (l.length : Int)) = false := by simp
  rw [e]
  exact same_l0 s l hl l.length 0 k rfl (Nat.zero_le _) (by omega)
end Go.Proofs.YtffldajbnhbkkaaDoor.Q
