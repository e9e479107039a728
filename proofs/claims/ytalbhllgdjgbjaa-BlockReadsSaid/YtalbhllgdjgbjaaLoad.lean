import Derived.Test.YtalbhllgdjgbjaaLoadp
namespace Go.Proofs.Ytalbhllgdjgbjaa.Q
open Go.RowKit Go.Proofs.YtalbhllgdjgbjaaW.PrintWords Go.Proofs.YtalbhllgdjgbjaaW.PrintLast Go.Proofs.YtalbhllgdjgbjaaW.PrintMore
set_option linter.unusedVariables false
set_option linter.unusedSimpArgs false




theorem nextN_le (img : ByteArray) (n : Int) (hs : ByteArray) : n ≤ nextN img n hs ∧ nextN img n hs ≤ n + 1 := by
  unfold nextN readN; split <;> omega
/-- What a next leaves, if it goes well. -/
theorem nextP_size {img : ByteArray} {fs : List S40} {n : Int} {hs : ByteArray} (h : (nextP img fs n hs).2 = 0) :
    (hs.size : Int) + nextK img hs ≤ ((nextP img fs n hs).1.size : Int) ∧ (nextP img fs n hs).1.size ≤ hs.size + 64 ∧ ∃ s1, (nextP img fs n hs).1 = hs ++ s1 := by
  obtain ⟨s1, e1, hP⟩ : ∃ s1 e1, readP img fs n (hs.size : Int) (nextK img hs) = (s1, e1) := ⟨_, _, rfl⟩
  have hsz := readP_size img fs n (hs.size : Int) (nextK img hs)
  rw [hP] at hsz
  by_cases he : e1 = 0
  · subst he
    by_cases hk : (s1.size : Int) < nextK img hs
    · rw [nextP_short hP hk] at h; exact absurd h (by decide)
    · rw [nextP_ok hP (by omega)]
      simp only
      rw [ByteArray.size_append]
      refine ⟨by omega, by simp only at hsz; omega, _, rfl⟩
  · rw [nextP_err hP he] at h; exact absurd h he
theorem ext_app (a b : ByteArray) (i j : Nat) (h : j ≤ a.size) : (a ++ b).extract i j = a.extract i j := by
  apply ByteArray.ext
  apply Array.ext'
  rw [Lib.extract_data, Lib.extract_data, ByteArray.data_append, Array.toList_append]
  have hl : a.data.toList.length = a.size := blen a
  by_cases hi : i ≤ a.size
  · rw [List.drop_append_of_le_length (by omega), List.take_append_of_le_length (by rw [List.length_drop]; omega)]
  · have : j - i = 0 := by omega
    rw [this]; simp
theorem bytes_take (hs : ByteArray) (a b : Nat) : strOfNums (((bytesOf hs).drop a).take (b - a)) = hs.extract a b := by
  apply ByteArray.ext
  apply Array.ext'
  rw [Lib.extract_data, strOfNums_data, bytesOf, List.map_take, List.map_drop]
  have := ofNat_toNat_map hs.data.toList
  rw [this]
/-- A piece of a row of bytes of the call's own, as a string. -/
theorem conv_piece {W : World} {Bh gb c : Nat} {hs : ByteArray} (ho : W.ownsRow Bh 5 1 (.slice (some ⟨gb, 0, none⟩) hs.size c) hs.size (nums .u8 (bytesOf hs))) (a b cap : Nat) (hab : a ≤ b) (hb : b ≤ hs.size) :
    (convert 52 9 (.slice (some ⟨gb, a, none⟩) (b - a) cap)).run Try.prog W = .ok (.string (hs.extract a b)) W := by
  have h := run_convert_bytes_arg (P := Try.prog) W 52 5 Try.underlying52 Try.underlying5 gb a (b - a) cap (((bytesOf hs).drop a).take (b - a)) (by
    rw [List.length_take, List.length_drop, bytesOf_length]; omega) (fun i hi => ?_) 9 Try.underlying9
  · rw [h, bytes_take]
  · have hc := ho.cells (g := gb) rfl (a + i) (.int .u8 ((bytesOf hs).getD (a + i) 0)) (by
      rw [nums, List.getElem?_map, List.getElem?_eq_getElem (by rw [bytesOf_length]; omega), List.getD_eq_getElem?_getD, List.getElem?_eq_getElem (by rw [bytesOf_length]; omega)]; rfl)
    rw [add_plain] at hc
    rw [hc, List.getD_eq_getElem?_getD, List.getD_eq_getElem?_getD, List.getElem?_take, if_pos hi, List.getElem?_drop]
theorem str_beq_true {a b : ByteArray} (h : a = b) : (a.toList == b.toList) = true := by rw [h]; simp
theorem str_beq_false {a b : ByteArray} (h : ¬ a = b) : (a.toList == b.toList) = false := by
  have : ¬ a.toList = b.toList := fun he => h (by
    have h2 : a.data.toList = b.data.toList := by rw [← Lib.toList_data, ← Lib.toList_data]; exact he
    exact ByteArray.ext (Array.ext' h2))
  simp [this]
theorem qpu_list : QPU.toList = [81, 80, 85, 49] := by rw [Lib.toList_data]; rfl
theorem of_quiet (s : ByteArray) (w : World) (n : Nat) (h : 4 ≤ s.size) : Calls Try.prog 34 #[.string s] (w.drewN n) fun e w' => e = .returned (.int .u32 (valueB s : Int)) ∧ ∃ m, w' = w.drewN m :=
  Calls.quiet_of ((of_calls s _ h).mono fun e w' ⟨he, ⟨hd⟩⟩ => ⟨he, hd⟩)
theorem value_quiet (s : ByteArray) (w : World) (n : Nat) (h : 4 ≤ s.size) : Calls Try.prog 35 #[.string s] (w.drewN n) fun e w' => e = .returned (.int .i64 (valueB s : Int)) ∧ ∃ m, w' = w.drewN m :=
  Calls.quiet_of ((value_calls s _ h).mono fun e w' ⟨he, ⟨hd⟩⟩ => ⟨he, hd⟩)
theorem sum_quiet (s : ByteArray) (w : World) (n : Nat) (h : s.size < 4611686018427387904) : Calls Try.prog 11 #[.string s] (w.drewN n) fun e w' => e = .returned (.int .u32 (crc s : Int)) ∧ ∃ m, w' = w.drewN m :=
  Calls.quiet_of ((sum_calls s _ h).mono fun e w' ⟨he, ⟨hd⟩⟩ => ⟨he, hd⟩)
theorem rsum_quiet (s : ByteArray) (w : World) (n : Nat) (h : s.size < 4611686018427387904) : Calls Try.prog 12 #[.string s] (w.drewN n) fun e w' => e = .returned (.int .u32 (crc s : Int)) ∧ ∃ m, w' = w.drewN m :=
  Calls.quiet_of ((rsum_calls s _ h).mono fun e w' ⟨he, ⟨hd⟩⟩ => ⟨he, hd⟩)
theorem Only.drewN {B E : Nat} {w w' : World} (h : Only B E w w') (n : Nat) : Only B E w (w'.drewN n) := ⟨h.os, h.tape, h.output, h.size, h.block⟩
theorem OnlyT.drewN {g Bh : Nat} {w w' : World} (h : OnlyT g Bh w w') (n : Nat) : OnlyT g Bh w (w'.drewN n) := ⟨h.os, h.tape, h.output, h.size, h.block⟩
theorem DiskE.drewN {T B E g : Nat} {w : World} {img : ByteArray} {fs : List S40} {n : Int} (h : DiskE T B E w g img fs n) (m : Nat) : DiskE T B E (w.drewN m) g img fs n :=
  h.keep (fun _ _ _ => rfl)
def lenV : Value → Nat
  | .slice _ n _ => n
  | _ => 0
theorem str_neq (a b : ByteArray) : (!(a.toList == b.toList)) = !(decide (a = b)) := by
  by_cases h : a = b
  · subst h; simp
  · have : ¬ a.toList = b.toList := fun he => h (by
      have h2 : a.data.toList = b.data.toList := by rw [← Lib.toList_data, ← Lib.toList_data]; exact he
      exact ByteArray.ext (Array.ext' h2))
    simp [h, this]

set_option maxHeartbeats 4000000 in
set_option maxRecDepth 100000 in
theorem load_calls (B E g : Nat) (img : ByteArray) (fs : List S40) (n : Int) (w : World) (hD : DiskE 59 B E w g img fs n) (hE : E ≤ w.heap.size) (hok : okFs fs) (hm : fs.length ≤ 1000) (hi : img.size ≤ 65552)
    (hn0 : 0 ≤ n) (hn : n < 2305843009213693952) :
    Calls Try.prog 22 #[.pointer (some ⟨g, 0, none⟩)] w fun e w' =>
      e = .returned (.tuple #[.string (loadP img fs n).1, .int .i64 (loadP img fs n).2.1]) ∧ DiskE 59 B E w' g img fs (loadP img fs n).2.2 ∧ Only g (g + 1) w w' := by
  obtain ⟨v, hb, hB, hEg, hR⟩ := id hD
  have hz0 : w.cell? ⟨g, 0, none⟩ = some (.string img) := (blk_cell hb 0).trans rfl
  clear hb hB hR
  have HG := Aside0.mk hEg
  have HD := Aside0.mk hD
  have HE := Aside0.mk hE
  have HOK := Aside0.mk hok
  clear hD hE hok hEg
  by_cases hsm : img.size < 16
  · have d0 : decide ((img.size : Int) < 16) = true := decide_eq_true (by omega)
    have d0' : decide (img.size < 16) = true := decide_eq_true hsm
    have HL : Aside0 (loadP img fs n = (⟨#[]⟩, 105, n)) := ⟨if_pos hsm⟩
    clear hsm
    go_enter Try.func22, Try.ntmps22
    go_wp2
    go_ret2
    rw [HL.out]
    exact ⟨rfl, HD.out, Only.refl _ _ _⟩
  have HSM := Aside0.mk hsm
  have d0 : decide ((img.size : Int) < 16) = false := decide_eq_false (by omega)
  have d0' : decide (img.size < 16) = false := decide_eq_false hsm
  clear hsm
  have hnil : w.ownsRow w.heap.size 5 1 (.slice none (⟨#[]⟩ : ByteArray).size 0) (⟨#[]⟩ : ByteArray).size (nums .u8 (bytesOf ⟨#[]⟩)) := own_nil w w.heap.size 5 1
  go_enter Try.func22, Try.ntmps22
  go_wp2_with fail
  refine (next_calls B E w.heap.size g img fs n w none 0 ⟨#[]⟩ HD.out HE.out (Nat.le_refl _) HOK.out hm hi hn0 (by omega) hnil (by decide)).mono ?_
  rintro e w1 ⟨⟨v1, rfl, hv1⟩, hd1, ho1⟩
  obtain ⟨hs1, e1, hP⟩ : ∃ s1 e1, nextP img fs n ⟨#[]⟩ = (s1, e1) := ⟨_, _, rfl⟩
  rw [hP] at hv1 ⊢
  dsimp only at hv1 ⊢
  have HP := Aside0.mk hP
  have hns := nextP_size (img := img) (fs := fs) (n := n) (hs := ⟨#[]⟩)
  rw [hP] at hns
  dsimp only at hns
  clear hP hnil
  have HD1 := Aside0.mk hd1
  have HO1 := Aside0.mk ho1
  clear hd1 ho1
  by_cases he : e1 = 0
  · subst he
    have hw1 := hv1 rfl
    obtain ⟨hk1, hk2, _⟩ := hns rfl
    have hk : nextK img ⟨#[]⟩ = min 64 (img.size : Int) := by unfold nextK; rfl
    have h0s : ((⟨#[]⟩ : ByteArray).size : Int) = 0 := rfl
    have h16 : 16 ≤ hs1.size := by have := HSM.out; omega
    have h80 : hs1.size ≤ 64 := by have : (⟨#[]⟩ : ByteArray).size = 0 := rfl; omega
    rw [bytesOf_length] at hw1
    obtain ⟨gb, c1, rfl, hgb, _⟩ := hw1.form (by omega)
    clear hv1 hns hk hk1 hk2 h0s
    have HW1 := Aside0.mk hw1
    have hc16 := conv_piece hw1 0 16 c1 (by omega) h16
    have hcap := own_cap hw1
    have hcap16 : 16 ≤ c1 := by omega
    have hcap16i : (16 : Int) ≤ (c1 : Int) := by omega
    clear hw1
    have hhz : (hs1.extract 0 16).size = 16 := by rw [ByteArray.size_extract]; omega
    have HHD : ∀ a b, b ≤ 16 → hs1.extract a b = (hs1.extract 0 16).extract a b := fun a b hb => by
      apply ByteArray.ext; apply Array.ext'
      rw [Lib.extract_data, Lib.extract_data, Lib.extract_data, List.drop_zero, Nat.sub_zero, List.drop_take, List.take_take]
      congr 1; omega
    have HH := Aside0.mk HHD
    clear HHD
    obtain ⟨hdr, hh⟩ : ∃ hdr, hdr = hs1.extract 0 16 := ⟨_, rfl⟩
    rw [← hh] at hc16 hhz HH
    have HHH := Aside0.mk hh
    clear hh
    have LP : loadP img fs n = (if ¬ headOk hdr then (⟨#[]⟩, 105, nextN img n ⟨#[]⟩)
      else if 65536 < bodyN hdr ∨ img.size < bodyN hdr + 16 then (⟨#[]⟩, 106, nextN img n ⟨#[]⟩)
      else
        let N := bodyN hdr
        let q := loadLoop img fs (16 + N) (16 + N + 1) (nextN img n ⟨#[]⟩) hs1
        if q.2.1 ≠ 0 then (⟨#[]⟩, q.2.1, q.2.2)
        else if crc (q.1.extract 16 (16 + N)) ≠ valueB (hs1.extract 8 16) then (⟨#[]⟩, 104, q.2.2)
        else (q.1.extract 16 (16 + N), 0, q.2.2)) := by
      unfold loadP
      rw [if_neg HSM.out, HP.out]
      dsimp only
      rw [if_neg (by decide), ← HHH.out]
    have HLP := Aside0.mk LP
    clear LP
    have z12 : (hdr.extract 12 16).size = 4 := by rw [ByteArray.size_extract]; omega
    have z012 : (hdr.extract 0 12).size = 12 := by rw [ByteArray.size_extract]; omega
    have Z12 := Aside0.mk z12
    have Z012 := Aside0.mk z012
    clear z12 z012
    by_cases hq : hdr.extract 0 4 = QPU
    · have g1 : ((hdr.extract 0 4).toList == [81, 80, 85, 49]) = true := by rw [← qpu_list]; exact str_beq_true hq
      have HQ := Aside0.mk hq
      clear hq
      by_cases hc : valueB (hdr.extract 12 16) = crc (hdr.extract 0 12)
      · have hok : Aside0 (headOk hdr) := ⟨⟨HQ.out, hc⟩⟩
        have g2 : ((valueB (hdr.extract 12 16) : Int) == (crc (hdr.extract 0 12) : Int)) = true := by rw [hc]; simp
        have g3 : ((valueB (hdr.extract 12 16) : Int) != (crc (hdr.extract 0 12) : Int)) = false := by rw [hc]; simp
        clear hc
        go_wp2_with fail
        go_quiet ((first | (go_at_call 34; exact of_quiet _ _ _ (by rw [Z12.out]; exact Nat.le_refl _)) | (go_at_call 11; exact sum_quiet _ _ _ (by rw [Z012.out]; omega))))
        obtain ⟨v1, hb1, _, _, _⟩ := HD1.out
        have hz1 : w1.cell? ⟨g, 0, none⟩ = some (.string img) := (blk_cell hb1 0).trans rfl
        clear hb1
        go_wp2_with fail
        have z416 : (hdr.extract 4 16).size = 12 := by rw [ByteArray.size_extract]; omega
        have Z416 := Aside0.mk z416
        clear z416
        refine (of_calls (hdr.extract 4 16) _ (by rw [Z416.out]; omega)).mono ?_
        rintro e w2 ⟨rfl, ⟨nd, rfl⟩⟩
        obtain ⟨N, hN⟩ : ∃ N, N = valueB (hdr.extract 4 16) := ⟨_, rfl⟩
        have hNlt : N < 4294967296 := by rw [hN]; exact valueB_lt _
        rw [← hN]
        have HN : Aside0 (bodyN hdr = N) := ⟨hN.symm⟩
        clear hN
        have LP := HLP.out
        rw [if_neg (fun hh => hh hok.out), HN.out] at LP
        have HLP2 := Aside0.mk LP
        clear LP HLP
        by_cases big : 65536 < (N : Int)
        · have d3 : decide (65536 < (N : Int)) = true := decide_eq_true big
          have d3' : decide (65536 < N) = true := decide_eq_true (by omega)
          have HL : Aside0 (loadP img fs n = (⟨#[]⟩, 106, nextN img n ⟨#[]⟩)) := ⟨by rw [HLP2.out, if_pos (Or.inl (by omega))]⟩
          clear big
          go_wp2
          go_ret2
          rw [HL.out]
          exact ⟨rfl, HD1.out.drewN _, (HO1.out.drewN _).only⟩
        have d3 : decide (65536 < (N : Int)) = false := decide_eq_false big
        have d3' : decide (65536 < N) = false := decide_eq_false (by omega)
        by_cases big2 : (img.size : Int) - 16 < (N : Int)
        · have d4 : decide ((img.size : Int) - 16 < (N : Int)) = true := decide_eq_true big2
          have HL : Aside0 (loadP img fs n = (⟨#[]⟩, 106, nextN img n ⟨#[]⟩)) := ⟨by rw [HLP2.out, if_pos (Or.inr (by omega))]⟩
          clear big2
          go_wp2
          go_ret2
          rw [HL.out]
          exact ⟨rfl, HD1.out.drewN _, (HO1.out.drewN _).only⟩
        have d4 : decide ((img.size : Int) - 16 < (N : Int)) = false := decide_eq_false big2
        have LP := HLP2.out
        rw [if_neg (by omega)] at LP
        (try dsimp only at LP)
        have HLP := Aside0.mk LP
        clear LP HLP2
        have hN16 : N ≤ 65536 := by omega
        have hNi : N + 16 ≤ img.size := by omega
        have HNI := Aside0.mk hNi
        clear big big2 hNi hc16 g1 g2 g3
        go_wp2
        go_loopw [4] (fun v wr => ∃ (hs : ByteArray) (gb' c' : Nat) (n' : Int) (k : Nat), v = .slice (some ⟨gb', 0, none⟩) hs.size c' ∧
          Aside0 (wr.ownsRow w.heap.size 5 1 (.slice (some ⟨gb', 0, none⟩) hs.size c') hs.size (nums .u8 (bytesOf hs))) ∧ Aside0 (DiskE 59 B E wr g img fs n') ∧ Aside0 (OnlyT g w.heap.size w wr) ∧
          Aside0 (0 ≤ n' ∧ n' ≤ n + 1 + (hs.size : Int)) ∧ Aside0 (16 ≤ hs.size ∧ hs.size ≤ 16 + N + 64) ∧
          Aside0 (loadLoop img fs (16 + N) k n' hs = loadLoop img fs (16 + N) (16 + N + 1) (nextN img n ⟨#[]⟩) hs1) ∧ Aside0 (16 + N < k + hs.size ∧ 0 < k) ∧ Aside0 (∃ s, hs = hs1 ++ s)) (fun v _ => 16 + N + 64 - lenV v)
        case atStart =>
          refine ⟨hs1, gb, c1, _, _, rfl, ⟨HW1.out.kept (row := none) ⟨rfl, rfl, rfl, Nat.le_refl _, fun _ _ _ => rfl⟩ (Or.inr (by simp [Value.ownBlock]))⟩, ⟨HD1.out.drewN _⟩, ⟨HO1.out.drewN _⟩, ⟨?_⟩, ⟨by omega⟩, ⟨rfl⟩, ⟨by omega⟩, ⟨⟨#[]⟩, by apply ByteArray.ext; simp⟩⟩
          have := nextN_le img n ⟨#[]⟩
          omega
        case round =>
          clear hz1 hcap hcap16 hcap16i d3 d3' d4
          obtain ⟨hs, gb', c', n', k, rfl, HW, HDr, HOr, HNB, HSB, HLL, HK, HPX⟩ := hrel
          have hcap := own_cap HW.out
          obtain ⟨hn0', hnb⟩ := HNB.out
          obtain ⟨hs16, hs80⟩ := HSB.out
          obtain ⟨hk1, hk0⟩ := HK.out
          obtain ⟨k', rfl⟩ : ∃ k', k = k' + 1 := ⟨k - 1, by omega⟩
          have hbig : w.heap.size ≤ wr.heap.size := HOr.out.size
          by_cases hlt : hs.size < 16 + N
          · have c0 : decide ((hs.size : Int) < 16 + (N : Int)) = true := decide_eq_true (by omega)
            have HLT := Aside0.mk hlt
            have LLe : loadLoop img fs (16 + N) (k' + 1) n' hs = (if (nextP img fs n' hs).2 ≠ 0 then (⟨#[]⟩, (nextP img fs n' hs).2, nextN img n' hs) else loadLoop img fs (16 + N) k' (nextN img n' hs) (nextP img fs n' hs).1) := by
              rw [loadLoop, if_pos hlt]
            have HLE := Aside0.mk LLe
            clear LLe hlt
            go_wp2_with fail
            refine (next_calls B E w.heap.size g img fs n' wr (some ⟨gb', 0, none⟩) c' hs HDr.out HE.out hbig HOK.out hm hi hn0' (by omega) HW.out (by omega)).mono ?_
            rintro e w3 ⟨⟨v3, rfl, hv3⟩, hd3, ho3⟩
            obtain ⟨s3, e3, hP3⟩ : ∃ s3 e3, nextP img fs n' hs = (s3, e3) := ⟨_, _, rfl⟩
            have hns := nextP_size (img := img) (fs := fs) (n := n') (hs := hs)
            have hLE := HLE.out
            rw [hP3] at hv3 hns hLE ⊢
            dsimp only at hv3 hns hLE ⊢
            have HD3 := Aside0.mk hd3
            have HO3 := Aside0.mk (HOr.out.trans ho3)
            have HLE2 := Aside0.mk hLE
            clear hP3 hd3 ho3 hLE HLE
            by_cases he : e3 = 0
            · subst he
              have hw3 := hv3 rfl
              obtain ⟨q1, q2, sx, q3⟩ := hns rfl
              have hk : nextK img hs = min 64 ((img.size : Int) - (hs.size : Int)) := rfl
              have := HNI.out
              have := HLT.out
              rw [bytesOf_length] at hw3
              obtain ⟨gb3, c3, rfl, _, _⟩ := hw3.form (by omega)
              have HQ1 : Aside0 (hs.size < s3.size ∧ s3.size ≤ 16 + N + 64) := ⟨by omega⟩
              have HQ3 := Aside0.mk q3
              have HW3 := Aside0.mk hw3
              have LL := HLE2.out
              rw [if_neg (by decide)] at LL
              have HLL3 := Aside0.mk (LL.symm.trans HLL.out)
              clear hv3 hns q1 q2 q3 hk hw3 LL HLE2
              go_wp2
              go_roundw
              case rel =>
                have hl := nextN_le img n' hs
                have := HQ1.out
                obtain ⟨s0, hs0⟩ := HPX.out
                exact ⟨s3, gb3, c3, _, k', rfl, HW3, HD3, HO3, ⟨by omega⟩, ⟨by omega⟩, HLL3, ⟨by have := HK.out; have := HLT.out; omega⟩, ⟨s0 ++ sx, by rw [HQ3.out, hs0, ByteArray.append_assoc]⟩⟩
              case measure => have := HQ1.out; have := HSB.out; simp only [lenV]; omega
            · have d1 : (e3 != 0) = true := by simpa using he
              have HEr := Aside0.mk he
              have LL := HLE2.out
              rw [if_pos he] at LL
              have HL : Aside0 (loadP img fs n = (⟨#[]⟩, e3, nextN img n' hs)) := ⟨by rw [HLP.out, ← HLL.out, LL]; dsimp only; rw [if_pos he]⟩
              clear he hv3 hns LL HLE2
              go_wp2
              go_ret2
              rw [HL.out]
              exact ⟨rfl, HD3.out, HO3.out.only⟩
          · have c0 : decide ((hs.size : Int) < 16 + (N : Int)) = false := decide_eq_false (by omega)
            have LLe : loadLoop img fs (16 + N) (k' + 1) n' hs = (hs, 0, n') := by rw [loadLoop, if_neg hlt]
            have LP := HLP.out
            rw [← HLL.out, LLe] at LP
            dsimp only at LP
            rw [if_neg (by decide)] at LP
            have HLPf := Aside0.mk LP
            clear LP LLe
            obtain ⟨bd, hbd⟩ : ∃ bd, bd = hs.extract 16 (16 + N) := ⟨_, rfl⟩
            have LP := HLPf.out
            rw [HH.out 8 16 (Nat.le_refl _), ← hbd] at LP
            have HLP2 := Aside0.mk LP
            have z816 : (hdr.extract 8 16).size = 8 := by rw [ByteArray.size_extract]; omega
            have Z816 := Aside0.mk z816
            have ZBD : Aside0 (bd.size ≤ 65536) := ⟨by rw [hbd, ByteArray.size_extract]; omega⟩
            clear LP HLPf z816
            have hcA := conv_piece HW.out 16 (16 + N) (c' - 16) (by omega) (by omega)
            have hcB : c' = 16 → (convert 52 9 (.slice (some ⟨gb', 0, none⟩) N 0)).run Try.prog wr = .ok (.string bd) wr := fun hc => by
              have hN0 : N = 0 := by omega
              have := conv_piece HW.out 0 0 0 (Nat.le_refl _) (Nat.zero_le _)
              rw [hN0, hbd, hN0]
              rw [show hs.extract 16 (16 + 0) = hs.extract 0 0 from by apply ByteArray.ext; simp]
              exact this
            rw [← hbd, show 16 + N - 16 = N from by omega] at hcA
            have HCB := Aside0.mk hcB
            clear hbd hcB
            have b1 : (16 : Int) ≤ 16 + (N : Int) := by omega
            have b2 : 16 + (N : Int) ≤ (c' : Int) := by omega
            have b3 : (16 + (N : Int)).toNat = 16 + N := by omega
            by_cases hc16 : c' = 16
            · have hcB2 := HCB.out hc16
              subst hc16
              clear hcA
              by_cases hcr : crc bd = valueB (hdr.extract 8 16)
              · have k1 : ((crc bd : Int) == (valueB (hdr.extract 8 16) : Int)) = true := by rw [hcr]; simp
                have k2 : ((crc bd : Int) != (valueB (hdr.extract 8 16) : Int)) = false := by rw [hcr]; simp
                have HL : Aside0 (loadP img fs n = (bd, 0, n')) := ⟨by rw [HLP2.out, if_neg (fun hh => hh hcr)]⟩
                clear hcr
                go_wp2_with fail
                go_quiet ((first | (go_at_call 34; exact of_quiet _ _ _ (by rw [Z816.out]; omega)) | (go_at_call 11; exact sum_quiet _ _ _ (by have := ZBD.out; omega))))
                go_wp2
                go_ret2
                rw [HL.out]
                exact ⟨rfl, HDr.out.drewN _, (HOr.out.drewN _).only⟩
              · have k1 : ((crc bd : Int) == (valueB (hdr.extract 8 16) : Int)) = false := by simp; omega
                have k2 : ((crc bd : Int) != (valueB (hdr.extract 8 16) : Int)) = true := by simp; omega
                have HL : Aside0 (loadP img fs n = (⟨#[]⟩, 104, n')) := ⟨by rw [HLP2.out, if_pos hcr]⟩
                clear hcr
                go_wp2_with fail
                go_quiet ((first | (go_at_call 34; exact of_quiet _ _ _ (by rw [Z816.out]; omega)) | (go_at_call 11; exact sum_quiet _ _ _ (by have := ZBD.out; omega))))
                go_wp2
                go_ret2
                rw [HL.out]
                exact ⟨rfl, HDr.out.drewN _, (HOr.out.drewN _).only⟩
            · clear HCB
              by_cases hcr : crc bd = valueB (hdr.extract 8 16)
              · have k1 : ((crc bd : Int) == (valueB (hdr.extract 8 16) : Int)) = true := by rw [hcr]; simp
                have k2 : ((crc bd : Int) != (valueB (hdr.extract 8 16) : Int)) = false := by rw [hcr]; simp
                have HL : Aside0 (loadP img fs n = (bd, 0, n')) := ⟨by rw [HLP2.out, if_neg (fun hh => hh hcr)]⟩
                clear hcr
                go_wp2_with fail
                go_quiet ((first | (go_at_call 34; exact of_quiet _ _ _ (by rw [Z816.out]; omega)) | (go_at_call 11; exact sum_quiet _ _ _ (by have := ZBD.out; omega))))
                go_wp2
                go_ret2
                rw [HL.out]
                exact ⟨rfl, HDr.out.drewN _, (HOr.out.drewN _).only⟩
              · have k1 : ((crc bd : Int) == (valueB (hdr.extract 8 16) : Int)) = false := by simp; omega
                have k2 : ((crc bd : Int) != (valueB (hdr.extract 8 16) : Int)) = true := by simp; omega
                have HL : Aside0 (loadP img fs n = (⟨#[]⟩, 104, n')) := ⟨by rw [HLP2.out, if_pos hcr]⟩
                clear hcr
                go_wp2_with fail
                go_quiet ((first | (go_at_call 34; exact of_quiet _ _ _ (by rw [Z816.out]; omega)) | (go_at_call 11; exact sum_quiet _ _ _ (by have := ZBD.out; omega))))
                go_wp2
                go_ret2
                rw [HL.out]
                exact ⟨rfl, HDr.out.drewN _, (HOr.out.drewN _).only⟩
      · have hok : Aside0 (¬ headOk hdr) := ⟨fun hh => hc hh.2⟩
        have g2 : ((valueB (hdr.extract 12 16) : Int) == (crc (hdr.extract 0 12) : Int)) = false := by simp; omega
        have g3 : ((valueB (hdr.extract 12 16) : Int) != (crc (hdr.extract 0 12) : Int)) = true := by simp; omega
        have HL : Aside0 (loadP img fs n = (⟨#[]⟩, 105, nextN img n ⟨#[]⟩)) := ⟨by rw [HLP.out, if_pos hok.out]⟩
        clear hc
        go_wp2_with fail
        go_quiet ((first | (go_at_call 34; exact of_quiet _ _ _ (by rw [Z12.out]; exact Nat.le_refl _)) | (go_at_call 11; exact sum_quiet _ _ _ (by rw [Z012.out]; omega))))
        go_wp2
        go_ret2
        rw [HL.out]
        exact ⟨rfl, HD1.out.drewN _, (HO1.out.drewN _).only⟩
    · have g1 : ((hdr.extract 0 4).toList == [81, 80, 85, 49]) = false := by rw [← qpu_list]; exact str_beq_false hq
      have HL : Aside0 (loadP img fs n = (⟨#[]⟩, 105, nextN img n ⟨#[]⟩)) := ⟨by rw [HLP.out, if_pos (fun hh => hq hh.1)]⟩
      clear hq
      go_wp2_with fail
      go_quiet (fail)
      go_wp2
      go_ret2
      rw [HL.out]
      exact ⟨rfl, HD1.out.drewN _, (HO1.out.drewN _).only⟩
  · have d1 : (e1 != 0) = true := by simpa using he
    have HEr := Aside0.mk he
    have HL : Aside0 (loadP img fs n = (⟨#[]⟩, e1, nextN img n ⟨#[]⟩)) := ⟨by
      unfold loadP; rw [if_neg HSM.out, HP.out, if_pos he]⟩
    clear he hv1 hns
    go_wp2
    go_ret2
    rw [HL.out]
    exact ⟨rfl, HD1.out, HO1.out.only⟩
end Go.Proofs.Ytalbhllgdjgbjaa.Q
