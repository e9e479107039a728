import Derived.Test.YtffldajbnhbkkaaDoorKv29
import Derived.Test.YtffldajbnhbkkaaDoorKv35
namespace Go.Proofs.YtffldajbnhbkkaaDoor.Q
open Go.RowKit Go.Proofs.YtffldajbnhbkkaaDoorW.PrintWords Go.Proofs.YtffldajbnhbkkaaDoorW.PrintLast Go.Proofs.YtffldajbnhbkkaaDoorW.PrintMore
set_option linter.unusedVariables false
set_option linter.unusedSimpArgs false
set_option maxRecDepth 100000
def L6 : List S43 := [⟨⟨#[45]⟩, 1⟩, ⟨⟨#[49]⟩, 2⟩, ⟨⟨#[44]⟩, 3⟩, ⟨⟨#[50, 51, 52]⟩, 2⟩, ⟨⟨#[46]⟩, 4⟩, ⟨⟨#[53]⟩, 5⟩]
def wantT : ByteArray := ⟨#[45, 49, 44, 50, 51, 52, 46, 53]⟩
def wantS : List S31 := [⟨1, 0, 1⟩, ⟨2, 1, 6⟩, ⟨3, 2, 3⟩, ⟨4, 6, 7⟩, ⟨5, 7, 8⟩]
theorem aw_b6 : buildR L6 = (wantT, wantS, 0) := by kernel_rfl
theorem aw_b1 : buildR [⟨⟨#[]⟩, 18⟩] = (⟨#[]⟩, [], 170) := by kernel_rfl
theorem aw_ck : chkB wantT wantS = true := by kernel_rfl
theorem aw_wr : wrapR wantT wantS ⟨17, 0, 8⟩ = (wantT, ⟨17, 0, 8⟩ :: wantS, 0) := by kernel_rfl
theorem aw_sort : sortI ([0, (wantT.size : Int)] ++ flatL wantS) = [0, 0, 1, 1, 2, 3, 6, 6, 7, 7, 8, 8] := by
  refine List.Perm.eq_of_pairwise (le := fun a b : Int => a ≤ b) (fun a b _ _ h1 h2 => by omega) (sortI_pair _) (by decide) ?_
  refine (List.mergeSort_perm _ _).trans ?_
  show ([0, 8, 0, 1, 1, 6, 2, 3, 6, 7, 7, 8] : List Int).Perm _
  decide
theorem aw_lv : leavesR wantT wantS = (L6, 0) := by
  unfold leavesR
  rw [aw_ck, if_pos rfl]
  unfold edgesL
  rw [aw_sort]
  kernel_rfl
theorem same_l0 (s : ByteArray) (l : List S31) (hl : l.length ≤ 1000000) : ∀ (d i k : Nat), l.length - i = d → i ≤ l.length → d < k → quipuref17_Same.l0 k (i : Int) s l s l = some true
  | 0, i, k, hd, hi, hk => by
    obtain ⟨k, rfl⟩ : ∃ m, k = m + 1 := ⟨k - 1, by omega⟩
    unfold quipuref17_Same.l0
    rw [if_neg (by omega)]
  | d + 1, i, k, hd, hi, hk => by
    obtain ⟨k, rfl⟩ : ∃ m, k = m + 1 := ⟨k - 1, by omega⟩
    unfold quipuref17_Same.l0
    rw [if_pos (by omega), if_pos (by omega), if_pos (by omega), if_neg (by simp), wrapS i 10000000 (by omega) (by omega)]
    exact same_l0 s l hl d (i + 1) k (by omega) (by omega) (by omega)
theorem same_self (s : ByteArray) (l : List S31) (hl : l.length ≤ 1000000) (k : Nat) (hk : l.length + 1 < k) : quipuref17_Same.f k s l s l = some true := by
  obtain ⟨k, rfl⟩ : ∃ m, k = m + 1 := ⟨k - 1, by omega⟩
  unfold quipuref17_Same.f
  rw [if_pos rfl]
  have e : ((l.length : Int) != (l.length : Int)) = false := by simp
  rw [e]
  exact same_l0 s l hl l.length 0 k rfl (Nat.zero_le _) (by omega)
end Go.Proofs.YtffldajbnhbkkaaDoor.Q
