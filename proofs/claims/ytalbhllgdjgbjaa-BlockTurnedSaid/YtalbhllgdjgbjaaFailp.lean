import Derived.Test.YtalbhllgdjgbjaaSealp
namespace Go.Proofs.Ytalbhllgdjgbjaa.Q
open Go.RowKit Go.Proofs.YtalbhllgdjgbjaaW.PrintWords Go.Proofs.YtalbhllgdjgbjaaW.PrintLast Go.Proofs.YtalbhllgdjgbjaaW.PrintMore
set_option linter.unusedVariables false
set_option linter.unusedSimpArgs false

theorem okFs_one {f : S40} (h : mayB f = true) : okFs [f] := fun k hk => by
  obtain rfl : k = 0 := by simpa using hk
  exact ⟨h, rfl⟩
theorem okFs_one' {f : S40} (h : ¬ mayB f = true) : ¬ okFs [f] := fun hk => h (hk 0 (by simp)).1
theorem atF_one (f : S40) (n : Int) : atF [f] n = if f.f0 = n then some f else none := by
  unfold atF
  by_cases h : f.f0 = n
  · simp [List.find?, h]
  · have h2 : (f.f0 == n) = false := by simpa using h
    simp [List.find?, h, h2]
theorem sealB_img (b : ByteArray) : img b ⟨#[]⟩ = sealB b := by unfold img; apply ByteArray.ext; simp
/-- The fault stands behind what is read. -/
theorem loadP_far (b : ByteArray) (f : S40) (h : b.size ≤ 65536) (hf : (((sealB b).size + 63) / 64 : Nat) ≤ f.f0) :
    loadP (sealB b) [f] 0 = (b, 0, (((b.size + 16 + 63) / 64 : Nat) : Int)) := by
  have hh := loadP_back b ⟨#[]⟩ [f] h (fun i hi => by
    rw [sealB_img] at hi
    rw [atF_one, if_neg (by omega)])
  rwa [sealB_img] at hh
theorem read_one (b : ByteArray) (f : S40) (a : Nat) (ha : f.f0 = a) (hs : 64 * a < (sealB b).size) :
    readP (sealB b) [f] (a : Int) (((got (sealB b) a).size : Nat) : Int) (nextK (sealB b) (got (sealB b) a)) =
      readF ((sealB b).extract (64 * a) (64 * a + min 64 ((sealB b).size - 64 * a))) f := by
  rw [nextK_got _ _ _ rfl hs, got_size]
  have e0 : min (64 * a) (sealB b).size = 64 * a := by omega
  rw [e0]
  unfold readP
  have hr : inR (sealB b) ((64 * a : Nat) : Int) ((min 64 ((sealB b).size - 64 * a) : Nat) : Int) = true := by unfold inR; simp; omega
  rw [if_pos hr, atF_one, if_pos ha]
  have e1 : ((64 * a : Nat) : Int).toNat = 64 * a := by omega
  have e2 : (((64 * a : Nat) : Int) + ((min 64 ((sealB b).size - 64 * a) : Nat) : Int)).toNat = 64 * a + min 64 ((sealB b).size - 64 * a) := by omega
  rw [e1, e2]; rfl
theorem next_fail (b : ByteArray) (f : S40) (a : Nat) (ha : f.f0 = a) (hs : 64 * a < (sealB b).size) (h1 : f.f1 = 1) : (nextP (sealB b) [f] (a : Int) (got (sealB b) a)).2 = 100 := by
  have h := read_one b f a ha hs
  rw [nextP_err (h.trans (show readF _ f = (⟨#[]⟩, 100) by unfold readF; rw [if_neg (by omega), if_pos h1])) (by decide)]
theorem next_short (b : ByteArray) (f : S40) (a : Nat) (ha : f.f0 = a) (hs : 64 * a < (sealB b).size) (h1 : f.f1 = 2) (h2 : 0 ≤ f.f2) : (nextP (sealB b) [f] (a : Int) (got (sealB b) a)).2 = 101 := by
  have h := read_one b f a ha hs
  obtain ⟨B, hB⟩ : ∃ B, B = (sealB b).extract (64 * a) (64 * a + min 64 ((sealB b).size - 64 * a)) := ⟨_, rfl⟩
  have hBs : B.size = min 64 ((sealB b).size - 64 * a) := by rw [hB, ByteArray.size_extract]; omega
  rw [← hB] at h
  have hm1 := Int.emod_nonneg f.f2 (b := (B.size : Int)) (by omega)
  have hm2 := Int.emod_lt_of_pos f.f2 (b := (B.size : Int)) (by omega)
  rw [nextP_short (h.trans (show readF B f = (B.extract 0 (f.f2 % (B.size : Int)).toNat, 0) by unfold readF; rw [if_neg (by omega), if_neg (by omega), if_pos h1])) (by rw [nextK_got _ _ _ rfl hs, ByteArray.size_extract]; omega)]
theorem loadP_one (b : ByteArray) (f : S40) (h : b.size ≤ 65536) (e : Int) (he : e ≠ 0) (h0 : 0 ≤ f.f0) (hf : f.f0 < (((sealB b).size + 63) / 64 : Nat))
    (hB : ∀ a : Nat, f.f0 = a → 64 * a < (sealB b).size → (nextP (sealB b) [f] (a : Int) (got (sealB b) a)).2 = e) :
    loadP (sealB b) [f] 0 = (⟨#[]⟩, e, f.f0 + 1) := by
  obtain ⟨a, ha⟩ := Int.eq_ofNat_of_zero_le h0
  have hs : 64 * a < (sealB b).size := by omega
  have hz := sealB_size b
  have hh := img_head b ⟨#[]⟩
  have hn := img_n b ⟨#[]⟩ h
  rw [sealB_img] at hh hn
  rw [loadP_bad (sealB b) (sealB b) [f] rfl (by omega) a e he (fun i hi => readsWell_none _ _ i (by omega) (by rw [atF_one, if_neg (by omega)])) hs (hB a ha hs) hh (by omega) (by omega)]
  rw [ha]; rfl
end Go.Proofs.Ytalbhllgdjgbjaa.Q
