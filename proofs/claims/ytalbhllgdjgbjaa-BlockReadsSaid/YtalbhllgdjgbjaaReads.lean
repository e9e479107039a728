import Derived.Test.YtalbhllgdjgbjaaRead0
import Derived.Test.YtalbhllgdjgbjaaRead1
import Derived.Test.YtalbhllgdjgbjaaRead2
import Derived.Test.YtalbhllgdjgbjaaRead3
import Derived.Test.YtalbhllgdjgbjaaRread
import Derived.Test.YtalbhllgdjgbjaaRnew
namespace Go.Proofs.Ytalbhllgdjgbjaa.Q
open Go.RowKit Go.Proofs.YtalbhllgdjgbjaaW.PrintWords Go.Proofs.YtalbhllgdjgbjaaW.PrintLast Go.Proofs.YtalbhllgdjgbjaaW.PrintMore
set_option linter.unusedVariables false
set_option linter.unusedSimpArgs false

def inR (img : ByteArray) (at_ k : Int) : Bool := decide (1 ≤ k) && decide (k ≤ 64) && decide (0 ≤ at_) && decide (at_ ≤ (img.size : Int) - k)
def readP (img : ByteArray) (fs : List S40) (n at_ k : Int) : ByteArray × Int :=
  if inR img at_ k = true then readO (img.extract at_.toNat (at_ + k).toNat) (atF fs n) else (⟨#[]⟩, 102)
def readN (img : ByteArray) (n at_ k : Int) : Int := if inR img at_ k = true then n + 1 else n
theorem inR_yes {img : ByteArray} {at_ k : Int} (h : inR img at_ k = true) : 1 ≤ k ∧ k ≤ 64 ∧ 0 ≤ at_ ∧ at_ ≤ (img.size : Int) - k := by
  unfold inR at h; simp at h; omega
theorem inR_no {img : ByteArray} {at_ k : Int} (h : inR img at_ k ≠ true) : k < 1 ∨ 64 < k ∨ at_ < 0 ∨ (img.size : Int) - k < at_ := by
  unfold inR at h; simp at h; omega
theorem atF_mem {fs : List S40} {n : Int} {f : S40} (h : atF fs n = some f) : ∃ j, j < fs.length ∧ rd_T40 fs (j : Int) = f := by
  have := List.mem_of_find?_eq_some h
  obtain ⟨j, hj, rfl⟩ := List.getElem_of_mem this
  exact ⟨j, hj, by simp [rd_T40, List.getD_eq_getElem?_getD, List.getElem?_eq_getElem hj]⟩
theorem readF_none {s : ByteArray} {f : S40} : readO s none = (s, 0) := rfl
theorem okFs_at {fs : List S40} (hok : okFs fs) {n : Int} {f : S40} (h : atF fs n = some f) : mayB f = true := by
  obtain ⟨j, hj, rfl⟩ := atF_mem h
  exact (hok j hj).1
theorem mayB_yes {f : S40} (h : mayB f = true) : 1 ≤ f.f1 ∧ f.f1 ≤ 3 ∧ 0 ≤ f.f0 ∧ 0 ≤ f.f2 ∧ 0 ≤ f.f3 ∧ f.f3 ≤ 7 := by
  unfold mayB at h; simp at h; omega

/-- What a read leaves. -/
def ReadPost (T B : Nat) (w : World) (g : Nat) (img : ByteArray) (fs : List S40) (n at_ k : Int) (e : Ending) (w' : World) : Prop :=
  e = .returned (.tuple #[.string (readP img fs n at_ k).1, .int .i64 (readP img fs n at_ k).2]) ∧ Disk T B w' g img fs (readN img n at_ k) ∧ Only g (g + 1) w w'
theorem Disk.only {T B g : Nat} {w w' : World} {img : ByteArray} {fs : List S40} {m : Int} {A : Option Addr} {c : Nat}
    (hR : Kd.R k40 40 w B (fun k => k ≠ g) (.slice A fs.length c) fs) (hB : B ≤ g) (ho : Only g (g + 1) w w')
    (hb : w'.heap[g]? = some (.cells #[.string img, .slice A fs.length c, .int .i64 m] T (0, 0))) : Disk T B w' g img fs m :=
  ⟨_, hb, hB, Kd.R_step hR (fun k hk hlt => ho.block k hlt (by omega))⟩

theorem read_any (B g : Nat) (img : ByteArray) (fs : List S40) (n at_ k : Int) (w : World) (hD : Disk 59 B w g img fs n) (hok : okFs fs) (hm : fs.length ≤ 1000) (hi : img.size ≤ 65552)
    (hn0 : 0 ≤ n) (hn : n < 4611686018427387904) (hk : -9223372036854775808 ≤ k) :
    Calls Try.prog 18 #[.pointer (some ⟨g, 0, none⟩), .int .i64 at_, .int .i64 k] w (ReadPost 59 B w g img fs n at_ k) := by
  obtain ⟨v, hb, hB, hR⟩ := hD
  obtain ⟨A, c, rfl, hc, hC⟩ := Kd.R_reads hR
  by_cases hin : inR img at_ k = true
  · obtain ⟨h1, h2, h3, h4⟩ := inR_yes hin
    have hsz : ((img.extract at_.toNat (at_ + k).toNat).size : Int) = k := by rw [ByteArray.size_extract]; omega
    have eP : readP img fs n at_ k = readO (img.extract at_.toNat (at_ + k).toNat) (atF fs n) := if_pos hin
    have eN : readN img n at_ k = n + 1 := if_pos hin
    have fin : ∀ {s : ByteArray} {x : Int}, readO (img.extract at_.toNat (at_ + k).toNat) (atF fs n) = (s, x) → ∀ e w', e = .returned (.tuple #[.string s, .int .i64 x]) ∧
        w'.heap[g]? = some (.cells #[.string img, .slice A fs.length c, .int .i64 (n + 1)] 59 (0, 0)) ∧ Only g (g + 1) w w' → ReadPost 59 B w g img fs n at_ k e w' := by
      rintro s x hr e w' ⟨rfl, hb', ho⟩
      refine ⟨?_, ?_, ho⟩
      · rw [eP]; exact ret_of hr
      · rw [eN]; exact Disk.only hR hB ho hb'
    cases ha : atF fs n with
    | none =>
      exact (read_whole g img A c fs n at_ k w hb hC hm hi hn0 hn h1 h2 h3 h4 0 0 0 (by rw [atV, ha]; rfl)).mono (fin (by rw [ha]; rfl))
    | some f =>
      obtain ⟨m1, m3, _, p2, p3, p7⟩ := mayB_yes (okFs_at hok ha)
      obtain ⟨f0, f1, f2, f3⟩ := f
      simp only at m1 m3 p2 p3 p7
      have hv : atV fs n = ⟨f0, f1, f2, f3⟩ := by rw [atV, ha]; rfl
      by_cases k1 : f1 = 1
      · subst k1
        exact (read_fails g img A c fs n at_ k w hb hC hm hi hn0 hn h1 h2 h3 h4 f0 f2 f3 hv).mono (fin (by rw [ha, readO, readF, if_neg (by simp only; decide), if_pos rfl]))
      by_cases k2 : f1 = 2
      · subst k2
        exact (read_short g img A c fs n at_ k w hb hC hm hi hn0 hn h1 h2 h3 h4 f0 f2 f3 hv p2).mono (fin (by rw [ha, readO, readF, if_neg (by simp only; decide), if_neg (by simp only; decide), if_pos rfl, hsz]))
      obtain rfl : f1 = 3 := by omega
      exact (read_flip g img A c fs n at_ k w hb hC hm hi hn0 hn h1 h2 h3 h4 f0 f2 f3 hv p2 p3 p7).mono (fin (by rw [ha, readO, readF, if_neg (by simp only; decide), if_neg (by simp only; decide), if_neg (by simp only; decide), hsz]))
  · refine (read_bad g img A c fs n at_ k w hb hi hk (inR_no hin)).mono ?_
    rintro e w' ⟨rfl, rfl⟩
    refine ⟨?_, ?_, Only.refl _ _ _⟩
    · rw [show readP img fs n at_ k = (⟨#[]⟩, 102) from if_neg hin]
    · rw [show readN img n at_ k = n from if_neg hin]; exact ⟨_, hb, hB, hR⟩

theorem rread_any (B g : Nat) (img : ByteArray) (fs : List S40) (n at_ k : Int) (w : World) (hD : Disk 46 B w g img fs n) (hok : okFs fs) (hm : fs.length ≤ 1000) (hi : img.size ≤ 65552)
    (hn0 : 0 ≤ n) (hn : n < 4611686018427387904) (hk : -9223372036854775808 ≤ k) :
    Calls Try.prog 19 #[.pointer (some ⟨g, 0, none⟩), .int .i64 at_, .int .i64 k] w (ReadPost 46 B w g img fs n at_ k) := by
  obtain ⟨v, hb, hB, hR⟩ := hD
  obtain ⟨A, c, rfl, hc, hC⟩ := Kd.R_reads hR
  by_cases hin : inR img at_ k = true
  · obtain ⟨h1, h2, h3, h4⟩ := inR_yes hin
    have eP : readP img fs n at_ k = readO (img.extract at_.toNat (at_ + k).toNat) (atF fs n) := if_pos hin
    have eN : readN img n at_ k = n + 1 := if_pos hin
    refine (rread_ok g img A c fs n at_ k w hb hC (fun ad e hp => ?_) hm hi (fun j hj => (hok j hj).1) hn0 hn h1 h2 h3 h4).mono ?_
    · have := hR.1 ad.block (by rw [e]; simp [Value.ownBlock]); exact this
    · rintro e w' ⟨rfl, hb', ho⟩
      refine ⟨?_, ?_, ho⟩
      · rw [eP]
      · rw [eN]; exact Disk.only hR hB ho hb'
  · refine (rread_bad g img A c fs n at_ k w hb hi hk (inR_no hin)).mono ?_
    rintro e w' ⟨rfl, rfl⟩
    refine ⟨?_, ?_, Only.refl _ _ _⟩
    · rw [show readP img fs n at_ k = (⟨#[]⟩, 102) from if_neg hin]
    · rw [show readN img n at_ k = n from if_neg hin]; exact ⟨_, hb, hB, hR⟩

theorem reads_calls (B g : Nat) (img : ByteArray) (fs : List S40) (n : Int) (w : World) (hD : Disk 59 B w g img fs n) :
    Calls Try.prog 20 #[.pointer (some ⟨g, 0, none⟩)] w fun e w' => e = .returned (.int .i64 n) ∧ w = w' := by
  obtain ⟨v, hb, hB, hR⟩ := hD
  have z : w.cell? ⟨g, 2, none⟩ = some (.int .i64 n) := (blk_cell hb 2).trans rfl
  clear hb hR
  go_enter Try.func20, Try.ntmps20
  go_wp2
  go_ret
  exact ⟨rfl, rfl⟩
theorem size_calls (B g : Nat) (img : ByteArray) (fs : List S40) (n : Int) (w : World) (hD : Disk 59 B w g img fs n) :
    Calls Try.prog 21 #[.pointer (some ⟨g, 0, none⟩)] w fun e w' => e = .returned (.int .i64 (img.size : Int)) ∧ w = w' := by
  obtain ⟨v, hb, hB, hR⟩ := hD
  have z : w.cell? ⟨g, 0, none⟩ = some (.string img) := (blk_cell hb 0).trans rfl
  clear hb hR
  go_enter Try.func21, Try.ntmps21
  go_wp2
  go_ret
  exact ⟨rfl, rfl⟩
end Go.Proofs.Ytalbhllgdjgbjaa.Q
