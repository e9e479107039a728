import Derived.Test.YtalbhllgdjgbjaaReads
namespace Go.Proofs.Ytalbhllgdjgbjaa.Q
open Go.RowKit Go.Proofs.YtalbhllgdjgbjaaW.PrintWords Go.Proofs.YtalbhllgdjgbjaaW.PrintLast Go.Proofs.YtalbhllgdjgbjaaW.PrintMore
set_option linter.unusedVariables false
set_option linter.unusedSimpArgs false

theorem read_v (B g : Nat) (img : ByteArray) (fs : List S40) (n at_ k : Int) (w : World) (v : Value) (hb : w.heap[g]? = some (.cells #[.string img, v, .int .i64 n] 59 (0, 0))) (hR : Kd.R k40 40 w B (fun k => k ≠ g) v fs) (hok : okFs fs) (hm : fs.length ≤ 1000) (hi : img.size ≤ 65552)
    (hn0 : 0 ≤ n) (hn : n < 4611686018427387904) (hk : -9223372036854775808 ≤ k) :
    Calls Try.prog 18 #[.pointer (some ⟨g, 0, none⟩), .int .i64 at_, .int .i64 k] w (fun e w' => e = .returned (.tuple #[.string (readP img fs n at_ k).1, .int .i64 (readP img fs n at_ k).2]) ∧ w'.heap[g]? = some (.cells #[.string img, v, .int .i64 (readN img n at_ k)] 59 (0, 0)) ∧ Only g (g + 1) w w') := by
  obtain ⟨A, c, rfl, hc, hC⟩ := Kd.R_reads hR
  by_cases hin : inR img at_ k = true
  · obtain ⟨h1, h2, h3, h4⟩ := inR_yes hin
    have hsz : ((img.extract at_.toNat (at_ + k).toNat).size : Int) = k := by rw [ByteArray.size_extract]; omega
    have eP : readP img fs n at_ k = readO (img.extract at_.toNat (at_ + k).toNat) (atF fs n) := if_pos hin
    have eN : readN img n at_ k = n + 1 := if_pos hin
    have fin : ∀ {s : ByteArray} {x : Int}, readO (img.extract at_.toNat (at_ + k).toNat) (atF fs n) = (s, x) → ∀ (e : Ending) (w' : World), e = .returned (.tuple #[.string s, .int .i64 x]) ∧
        w'.heap[g]? = some (.cells #[.string img, .slice A fs.length c, .int .i64 (n + 1)] 59 (0, 0)) ∧ Only g (g + 1) w w' → (e = .returned (.tuple #[.string (readP img fs n at_ k).1, .int .i64 (readP img fs n at_ k).2]) ∧ w'.heap[g]? = some (.cells #[.string img, .slice A fs.length c, .int .i64 (readN img n at_ k)] 59 (0, 0)) ∧ Only g (g + 1) w w') := by
      rintro s x hr e w' ⟨rfl, hb', ho⟩
      refine ⟨?_, ?_, ho⟩
      · rw [eP]; exact ret_of hr
      · rw [eN]; exact hb'
    cases ha : atF fs n with
    | none =>
      exact (read_whole g img A c fs n at_ k w hb hC hm hi hn0 hn h1 h2 h3 h4 0 0 0 (by rw [atV, ha]; rfl)).mono (fin (by rw [ha]; rfl))
    | some f =>
      obtain ⟨m1, m3, _, p2, p3, p7⟩ := mayB_yes (okFs_at hok ha)
      obtain ⟨f0, f1, f2, f3⟩ := f
      simp only at m1 m3 p2 p3 p7
      have hv : atV fs n = ⟨f0, f1, f2, f3⟩ := by rw [atV, ha]; rfl
      by_cases k1 : f1 = 1
      · subst k1
        exact (read_fails g img A c fs n at_ k w hb hC hm hi hn0 hn h1 h2 h3 h4 f0 f2 f3 hv).mono (fin (by rw [ha, readO, readF, if_neg (by simp only; decide), if_pos rfl]))
      by_cases k2 : f1 = 2
      · subst k2
        exact (read_short g img A c fs n at_ k w hb hC hm hi hn0 hn h1 h2 h3 h4 f0 f2 f3 hv p2).mono (fin (by rw [ha, readO, readF, if_neg (by simp only; decide), if_neg (by simp only; decide), if_pos rfl, hsz]))
      obtain rfl : f1 = 3 := by omega
      exact (read_flip g img A c fs n at_ k w hb hC hm hi hn0 hn h1 h2 h3 h4 f0 f2 f3 hv p2 p3 p7).mono (fin (by rw [ha, readO, readF, if_neg (by simp only; decide), if_neg (by simp only; decide), if_neg (by simp only; decide), hsz]))
  · refine (read_bad g img A c fs n at_ k w hb hi hk (inR_no hin)).mono ?_
    rintro e w' ⟨rfl, rfl⟩
    refine ⟨?_, ?_, Only.refl _ _ _⟩
    · rw [show readP img fs n at_ k = (⟨#[]⟩, 102) from if_neg hin]
    · rw [show readN img n at_ k = n from if_neg hin]; exact hb

theorem rread_v (B g : Nat) (img : ByteArray) (fs : List S40) (n at_ k : Int) (w : World) (v : Value) (hb : w.heap[g]? = some (.cells #[.string img, v, .int .i64 n] 46 (0, 0))) (hR : Kd.R k40 40 w B (fun k => k ≠ g) v fs) (hok : okFs fs) (hm : fs.length ≤ 1000) (hi : img.size ≤ 65552)
    (hn0 : 0 ≤ n) (hn : n < 4611686018427387904) (hk : -9223372036854775808 ≤ k) :
    Calls Try.prog 19 #[.pointer (some ⟨g, 0, none⟩), .int .i64 at_, .int .i64 k] w (fun e w' => e = .returned (.tuple #[.string (readP img fs n at_ k).1, .int .i64 (readP img fs n at_ k).2]) ∧ w'.heap[g]? = some (.cells #[.string img, v, .int .i64 (readN img n at_ k)] 46 (0, 0)) ∧ Only g (g + 1) w w') := by
  obtain ⟨A, c, rfl, hc, hC⟩ := Kd.R_reads hR
  by_cases hin : inR img at_ k = true
  · obtain ⟨h1, h2, h3, h4⟩ := inR_yes hin
    have eP : readP img fs n at_ k = readO (img.extract at_.toNat (at_ + k).toNat) (atF fs n) := if_pos hin
    have eN : readN img n at_ k = n + 1 := if_pos hin
    refine (rread_ok g img A c fs n at_ k w hb hC (fun ad e hp => ?_) hm hi (fun j hj => (hok j hj).1) hn0 hn h1 h2 h3 h4).mono ?_
    · have := hR.1 ad.block (by rw [e]; simp [Value.ownBlock]); exact this
    · rintro e w' ⟨rfl, hb', ho⟩
      refine ⟨?_, ?_, ho⟩
      · rw [eP]
      · rw [eN]; exact hb'
  · refine (rread_bad g img A c fs n at_ k w hb hi hk (inR_no hin)).mono ?_
    rintro e w' ⟨rfl, rfl⟩
    refine ⟨?_, ?_, Only.refl _ _ _⟩
    · rw [show readP img fs n at_ k = (⟨#[]⟩, 102) from if_neg hin]
    · rw [show readN img n at_ k = n from if_neg hin]; exact hb

end Go.Proofs.Ytalbhllgdjgbjaa.Q
