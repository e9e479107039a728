import Derived.Test.YtalbhllgdjgbjaaSealp
import Derived.Test.YtalbhllgdjgbjaaFailp
import Derived.Test.YtalbhllgdjgbjaaQ28
namespace Go.Proofs.Ytalbhllgdjgbjaa.Q
open Go.RowKit Go.Proofs.YtalbhllgdjgbjaaW.PrintWords Go.Proofs.YtalbhllgdjgbjaaW.PrintLast Go.Proofs.YtalbhllgdjgbjaaW.PrintMore
set_option linter.unusedVariables false
set_option linter.unusedSimpArgs false

/-! ### The sum tells every single byte -/
theorem xor_cancel_right {a b c : Nat} (h : a ^^^ c = b ^^^ c) : a = b := by
  have h2 : (a ^^^ c) ^^^ c = (b ^^^ c) ^^^ c := by rw [h]
  rwa [Nat.xor_assoc, Nat.xor_assoc, Nat.xor_self, Nat.xor_zero, Nat.xor_zero] at h2
theorem top_poly {x : Nat} (h : x < 2147483648) : 2147483648 ≤ x ^^^ 3988292384 := by
  have e : (x ^^^ 3988292384) / 2147483648 = 1 := by
    have h2 := Nat.shiftRight_xor_distrib (a := x) (b := 3988292384) (i := 31)
    rw [Nat.shiftRight_eq_div_pow, Nat.shiftRight_eq_div_pow, Nat.shiftRight_eq_div_pow, show (2 : Nat) ^ 31 = 2147483648 from by decide] at h2
    rw [h2, show 3988292384 / 2147483648 = 1 from by decide, Nat.div_eq_of_lt h]; decide
  omega
theorem stepB_inj {a b : Nat} (ha : a < 4294967296) (hb : b < 4294967296) (h : stepB a = stepB b) : a = b := by
  unfold stepB at h
  by_cases h1 : a % 2 = 1 <;> by_cases h2 : b % 2 = 1
  · rw [if_pos h1, if_pos h2] at h
    have := xor_cancel_right h
    omega
  · rw [if_pos h1, if_neg h2] at h
    have := top_poly (x := a / 2) (by omega)
    omega
  · rw [if_neg h1, if_pos h2] at h
    have := top_poly (x := b / 2) (by omega)
    omega
  · rw [if_neg h1, if_neg h2] at h
    omega
theorem steps_inj : ∀ (n : Nat) {a b : Nat}, a < 4294967296 → b < 4294967296 → steps n a = steps n b → a = b
  | 0, _, _, _, _, h => h
  | n + 1, _, _, ha, hb, h => stepB_inj ha hb (steps_inj n (stepB_lt ha) (stepB_lt hb) h)
theorem crcS_inj : ∀ (l : List UInt8) {a b : Nat}, a < 4294967296 → b < 4294967296 → crcS l a = crcS l b → a = b
  | [], _, _, _, _, h => h
  | c :: l, a, b, ha, hb, h => by
    have hc : c.toNat < 4294967296 := by have := c.toNat_lt; omega
    have h1 := crcS_inj l (steps_lt 8 (xor_lt ha hc)) (steps_lt 8 (xor_lt hb hc)) h
    exact xor_cancel_right (steps_inj 8 (xor_lt ha hc) (xor_lt hb hc) h1)
theorem crcS_append (l m : List UInt8) (r : Nat) : crcS (l ++ m) r = crcS m (crcS l r) := by simp [crcS]
theorem crc_one {s t : ByteArray} (l m : List UInt8) (x y : UInt8) (hs : s.data.toList = l ++ x :: m) (ht : t.data.toList = l ++ y :: m) (h : crc s = crc t) : x = y := by
  unfold crc at h
  have h0 : crcS s.data.toList 4294967295 = crcS t.data.toList 4294967295 := by
    rw [Nat.xor_comm, Nat.xor_comm 4294967295] at h; exact xor_cancel_right h
  rw [hs, ht, crcS_append, crcS_append] at h0
  have hr := crcS_lt l (r := 4294967295) (by omega)
  generalize crcS l 4294967295 = r at h0 hr
  have hx : x.toNat < 4294967296 := by have := x.toNat_lt; omega
  have hy : y.toNat < 4294967296 := by have := y.toNat_lt; omega
  have h1 : steps 8 (r ^^^ x.toNat) = steps 8 (r ^^^ y.toNat) := crcS_inj m (steps_lt 8 (xor_lt hr hx)) (steps_lt 8 (xor_lt hr hy)) h0
  have h2 := steps_inj 8 (xor_lt hr hx) (xor_lt hr hy) h1
  rw [Nat.xor_comm, Nat.xor_comm r] at h2
  exact UInt8.toNat_inj.1 (xor_cancel_right h2)

theorem sealB_img' (b : ByteArray) : img b ⟨#[]⟩ = sealB b := by unfold img; apply ByteArray.ext; simp
/-- One byte written anew. -/
def setB (s : ByteArray) (p : Nat) (v : UInt8) : ByteArray := ⟨(s.data.toList.set p v).toArray⟩
theorem setB_data (s : ByteArray) (p : Nat) (v : UInt8) : (setB s p v).data.toList = s.data.toList.set p v := rfl
theorem setB_size (s : ByteArray) (p : Nat) (v : UInt8) : (setB s p v).size = s.size := by
  show (setB s p v).data.size = s.data.size
  rw [← Array.length_toList, setB_data, List.length_set, Array.length_toList]
theorem setB_ext_out (s : ByteArray) (p a b : Nat) (v : UInt8) (h : p < a ∨ b ≤ p) : (setB s p v).extract a b = s.extract a b := by
  apply ByteArray.ext; apply Array.ext'
  rw [Lib.extract_data, Lib.extract_data, setB_data, List.drop_set]
  split
  · rfl
  · rw [List.take_set_of_le (by omega)]
theorem setB_ext_in (s : ByteArray) (p a b : Nat) (v : UInt8) (h : a ≤ p) : (setB s p v).extract a b = setB (s.extract a b) (p - a) v := by
  apply ByteArray.ext; apply Array.ext'
  rw [Lib.extract_data, setB_data, setB_data, Lib.extract_data, List.drop_set, if_neg (by omega), List.take_set]
theorem crc_set (s : ByteArray) (p : Nat) (v : UInt8) (hp : p < s.size) (hv : s[p] ≠ v) : crc (setB s p v) ≠ crc s := by
  intro h
  have hl : p < s.data.toList.length := by rw [Array.length_toList]; exact hp
  have e1 : s.data.toList = s.data.toList.take p ++ s[p] :: s.data.toList.drop (p + 1) := by
    have := List.take_append_drop p s.data.toList
    rw [List.drop_eq_getElem_cons hl] at this
    exact this.symm
  have e2 : (setB s p v).data.toList = s.data.toList.take p ++ v :: s.data.toList.drop (p + 1) := by
    rw [setB_data, List.set_eq_take_append_cons_drop, if_pos hl]
  exact hv (crc_one _ _ _ _ e1 e2 h.symm)
theorem bt_set (s : ByteArray) (p j : Nat) (v : UInt8) (hj : j < s.size) : bt (setB s p v) (j : Int) = if j = p then (v.toNat : Int) else bt s (j : Int) := by
  rw [bt_nat _ j (by rw [setB_size]; exact hj), bt_nat s j hj]
  have h : (setB s p v).data.toList[j]'(by rw [Array.length_toList]; show j < (setB s p v).size; rw [setB_size]; exact hj) = if p = j then v else s.data.toList[j]'(by rw [Array.length_toList]; exact hj) := by
    simp only [setB_data, List.getElem_set]
  rw [h]
  by_cases e : j = p
  · rw [if_pos e, if_pos e.symm]
  · rw [if_neg e, if_neg (fun h => e h.symm)]
theorem valueB_set (s : ByteArray) (p : Nat) (v : UInt8) (hs : s.size = 4) (hp : p < s.size) (hv : s[p] ≠ v) : valueB (setB s p v) ≠ valueB s := by
  have hb : bt s (p : Int) ≠ (v.toNat : Int) := by
    rw [bt_nat s p hp]
    intro h
    exact hv (UInt8.toNat_inj.1 (Int.ofNat_inj.1 h))
  have e0 : bt (setB s p v) 0 = _ := bt_set s p 0 v (by omega)
  have e1 : bt (setB s p v) 1 = _ := bt_set s p 1 v (by omega)
  have e2 : bt (setB s p v) 2 = _ := bt_set s p 2 v (by omega)
  have e3 : bt (setB s p v) 3 = _ := bt_set s p 3 v (by omega)
  have r0 := bt_range s 0
  have r1 := bt_range s 1
  have r2 := bt_range s 2
  have r3 := bt_range s 3
  have hv2 := v.toNat_lt
  unfold valueB
  rw [e0, e1, e2, e3]
  have hp4 : p = 0 ∨ p = 1 ∨ p = 2 ∨ p = 3 := by omega
  rcases hp4 with rfl | rfl | rfl | rfl
  · have hb' : bt s 0 ≠ (v.toNat : Int) := hb
    simp; omega
  · have hb' : bt s 1 ≠ (v.toNat : Int) := hb
    simp; omega
  · have hb' : bt s 2 ≠ (v.toNat : Int) := hb
    simp; omega
  · have hb' : bt s 3 ≠ (v.toNat : Int) := hb
    simp; omega
theorem setB_ne (s : ByteArray) (p : Nat) (v : UInt8) (hp : p < s.size) (hv : s[p] ≠ v) : setB s p v ≠ s := by
  intro h
  have hb := bt_set s p p v hp
  rw [h, if_pos rfl, bt_nat s p hp] at hb
  exact hv (UInt8.toNat_inj.1 (Int.ofNat_inj.1 hb))
theorem ext_get (s : ByteArray) (a b p : Nat) (v : UInt8) (ha : a ≤ p) (hb : p < b) (hs : b ≤ s.size) (hv : s[p]'(by omega) ≠ v) : ∃ h : p - a < (s.extract a b).size, (s.extract a b)[p - a]'h ≠ v := by
  have h : p - a < (s.extract a b).size := by rw [ByteArray.size_extract]; omega
  refine ⟨h, ?_⟩
  rw [ByteArray.getElem_extract]
  have e : a + (p - a) = p := by omega
  simp only [e]; exact hv
theorem load_turned (b : ByteArray) (hl : b.size ≤ 65536) (p : Nat) (v : UInt8) (hp : p < (sealB b).size) (hv : (sealB b)[p] ≠ v) (im : ByteArray) (fs : List S40) (hsz : im.size = (sealB b).size)
    (G : ∀ i, 64 * i < im.size → readsWell im (setB (sealB b) p v) fs i) : (loadP im fs 0).1 = ⟨#[]⟩ ∧ (loadP im fs 0).2.1 = if p < 16 then 105 else 104 := by
  have hz := sealB_size b
  have x04 := img_04 b ⟨#[]⟩
  have x012 := img_012 b ⟨#[]⟩
  have x1216 := img_1216 b ⟨#[]⟩
  have xh := img_head b ⟨#[]⟩
  have xn := img_n b ⟨#[]⟩ hl
  have xs := img_sum b ⟨#[]⟩
  have x16 := img_16 b ⟨#[]⟩
  rw [sealB_img'] at x04 x012 x1216 xh xn xs x16
  rw [loadP_well im (setB (sealB b) p v) fs (by rw [setB_size, hsz]) (by omega) G]
  by_cases hp16 : p < 16
  · rw [if_pos hp16]
    have hn : ¬ headOk ((setB (sealB b) p v).extract 0 16) := by
      rw [headOk_iff]
      rintro ⟨h1, h2⟩
      by_cases c1 : p < 4
      · obtain ⟨h, hne⟩ := ext_get (sealB b) 0 4 p v (by omega) c1 (by omega) hv
        rw [setB_ext_in _ _ _ _ _ (by omega)] at h1
        exact setB_ne _ _ _ h hne (h1.trans x04.symm)
      · by_cases c2 : p < 12
        · obtain ⟨h, hne⟩ := ext_get (sealB b) 0 12 p v (by omega) c2 (by omega) hv
          rw [setB_ext_out _ _ 12 16 _ (by omega), setB_ext_in _ _ 0 12 _ (by omega), x1216, valueB_four' _ (crc_lt _), ← x012] at h2
          exact crc_set _ _ _ h hne h2.symm
        · obtain ⟨h, hne⟩ := ext_get (sealB b) 12 16 p v (by omega) hp16 (by omega) hv
          rw [setB_ext_out _ _ 0 12 _ (by omega), setB_ext_in _ _ 12 16 _ (by omega), x012] at h2
          refine valueB_set _ _ _ (by rw [ByteArray.size_extract]; omega) h hne ?_
          rw [h2, x1216, valueB_four' _ (crc_lt _)]
    rw [if_pos hn]; exact ⟨rfl, rfl⟩
  · rw [if_neg hp16]
    have y16 : (setB (sealB b) p v).extract 0 16 = (sealB b).extract 0 16 := setB_ext_out _ _ _ _ _ (by omega)
    have y8 : (setB (sealB b) p v).extract 8 16 = (sealB b).extract 8 16 := setB_ext_out _ _ _ _ _ (by omega)
    rw [y16, y8, xn, xs, if_neg (fun h => h xh), if_neg (by omega)]
    obtain ⟨h, hne⟩ := ext_get (sealB b) 16 (16 + b.size) p v (by omega) (by omega) (by omega) hv
    have hc := crc_set _ _ _ h hne
    rw [x16] at hc
    rw [setB_ext_in _ _ _ _ _ (by omega), x16, if_pos hc]
    exact ⟨rfl, rfl⟩
end Go.Proofs.Ytalbhllgdjgbjaa.Q
namespace Go.Proofs.Ytalbhllgdjgbjaa.Q
open Go.RowKit Go.Proofs.YtalbhllgdjgbjaaW.PrintWords Go.Proofs.YtalbhllgdjgbjaaW.PrintLast Go.Proofs.YtalbhllgdjgbjaaW.PrintMore
set_option linter.unusedVariables false
set_option linter.unusedSimpArgs false

/-- The byte that a turned bit makes. -/
def turnV (s : ByteArray) (p k : Int) : UInt8 := UInt8.ofNat (Go.bits .xor .u8 (bt s p) (2 ^ k.toNat % 256)).toNat
theorem flipB_set (s : ByteArray) (p k : Int) : flipB s p k = setB s p.toNat (turnV s p k) := by
  unfold flipB flipL setB strOfNums turnV
  rw [List.map_set, List.map_map]
  congr 3
  rw [show ((fun n : Int => UInt8.ofNat n.toNat) ∘ fun b : UInt8 => (b.toNat : Int)) = id from by funext b; simp]
  simp
theorem readF_flip (s : ByteArray) (a q k : Int) : readF s ⟨a, 3, q, k⟩ = (flipB s (q % (s.size : Int)) k, 0) := by
  unfold readF
  simp only
  rw [if_neg (by decide), if_neg (by decide), if_neg (by decide)]
theorem bt_extq (s : ByteArray) (a b : Nat) (i : Nat) (h : a + i < b) (hb : b ≤ s.size) : bt (s.extract a b) (i : Int) = bt s ((a + i : Nat) : Int) := by
  have h1 : i < (s.extract a b).size := by rw [ByteArray.size_extract]; omega
  rw [bt_nat _ i h1, bt_nat s (a + i) (by omega)]
  congr 2
  have := Lib.extract_data s a b
  simp only [this, List.getElem_take, List.getElem_drop]
theorem bt_ext2 (s : ByteArray) (a b p : Nat) (ha : a ≤ p) (hb : p < b) (hs : b ≤ s.size) : bt (s.extract a b) ((p - a : Nat) : Int) = bt s (p : Int) := by
  rw [bt_extq s a b (p - a) (by omega) hs]
  congr 2; omega
/-- A disk with one flip at place p tells the turned image. -/
theorem readsWell_flip (s : ByteArray) (p : Nat) (k : Int) (hp : p < s.size) (i : Nat) (hi : 64 * i < s.size) :
    readsWell s (setB s p (turnV s (p : Int) k)) [⟨((p / 64 : Nat) : Int), 3, ((p % 64 : Nat) : Int), k⟩] i := by
  unfold readsWell readP
  have hr : inR s ((64 * i : Nat) : Int) ((min 64 (s.size - 64 * i) : Nat) : Int) = true := by unfold inR; simp; omega
  have e1 : ((64 * i : Nat) : Int).toNat = 64 * i := by omega
  have e2 : (((64 * i : Nat) : Int) + ((min 64 (s.size - 64 * i) : Nat) : Int)).toNat = 64 * i + min 64 (s.size - 64 * i) := by omega
  rw [if_pos hr, atF_one, e1, e2]
  by_cases h : p / 64 = i
  · rw [if_pos (by simp only; omega)]
    show readF _ _ = _
    rw [readF_flip]
    have hsz : (s.extract (64 * i) (64 * i + min 64 (s.size - 64 * i))).size = min 64 (s.size - 64 * i) := by rw [ByteArray.size_extract]; omega
    have hm : (((p % 64 : Nat) : Int) % ((s.extract (64 * i) (64 * i + min 64 (s.size - 64 * i))).size : Int)) = ((p - 64 * i : Nat) : Int) := by
      rw [hsz, Int.emod_eq_of_lt (by omega) (by omega)]; omega
    rw [hm, flipB_set, setB_ext_in _ _ _ _ _ (by omega)]
    unfold turnV
    rw [bt_ext2 s _ _ p (by omega) (by omega) (by omega)]
    rfl
  · rw [if_neg (by simp only; omega), setB_ext_out _ _ _ _ _ (by omega)]
    rfl
end Go.Proofs.Ytalbhllgdjgbjaa.Q
namespace Go.Proofs.Ytalbhllgdjgbjaa.Q
open Go.RowKit Go.Proofs.YtalbhllgdjgbjaaW.PrintWords Go.Proofs.YtalbhllgdjgbjaaW.PrintLast Go.Proofs.YtalbhllgdjgbjaaW.PrintMore
set_option linter.unusedVariables false
set_option linter.unusedSimpArgs false

def placeP (n many : Int) : Int := if Int.tmod n many < 0 then Int.tmod n many + many else Int.tmod n many
theorem placeP_lt (n many : Int) (h : 0 < many) : 0 ≤ placeP n many ∧ placeP n many < many := by
  have h1 := Int.tmod_lt_of_pos n h
  have h2 : -many < Int.tmod n many := by
    have := Int.tmod_lt_of_pos (-n) h
    rw [Int.neg_tmod] at this; omega
  unfold placeP; split <;> omega
theorem place_calls (n many : Int) (h : 0 < many) (h2 : many < 4611686018427387904) (w : World) :
    Calls Try.prog 24 #[.int .i64 n, .int .i64 many] w fun e w' => e = .returned (.int .i64 (placeP n many)) ∧ Drawn0 w w' :=
  quipulaw10_place.calls n many _ w (by
    have h1 := Int.tmod_lt_of_pos n h
    have h3 : -many < Int.tmod n many := by
      have := Int.tmod_lt_of_pos (-n) h
      rw [Int.neg_tmod] at this; omega
    unfold quipulaw10_place.f placeP
    rw [if_neg (by omega)]
    split
    · rw [show wrap64 (Int.tmod n many + many) = Int.tmod n many + many from by unfold wrap64; omega]
    · rfl)
/-- The text that the law builds. -/
theorem turned_text (s : ByteArray) (p : Nat) (x : Int) (hp : p < s.size) : s.extract 0 p ++ strOfNums [x] ++ s.extract (p + 1) s.size = setB s p (UInt8.ofNat x.toNat) := by
  have hl : p < s.data.toList.length := by rw [Array.length_toList]; exact hp
  apply ByteArray.ext; apply Array.ext'
  rw [setB_data, List.set_eq_take_append_cons_drop, if_pos hl]
  simp only [ByteArray.data_append, Array.toList_append, Lib.extract_data, List.drop_zero, Nat.sub_zero]
  rw [List.take_of_length_le (l := List.drop (p + 1) s.data.toList) (by rw [List.length_drop, Array.length_toList]; exact Nat.le_refl _)]
  simp [strOfNums]
theorem xor_u8 : ∀ b : Fin 256, ∀ k : Fin 8, (UInt8.ofNat (Go.bits .xor .u8 (b.val : Int) (2 ^ k.val % 256)).toNat).toNat ≠ b.val := by decide +kernel
theorem turnV_ne (s : ByteArray) (p : Nat) (k : Int) (hp : p < s.size) (h0 : 0 ≤ k) (h8 : k < 8) : s[p] ≠ turnV s (p : Int) k := by
  obtain ⟨j, rfl⟩ := Int.eq_ofNat_of_zero_le h0
  have h := xor_u8 ⟨s[p].toNat, s[p].toNat_lt⟩ ⟨j, by omega⟩
  intro e
  refine h ?_
  have hb : bt s (p : Int) = ((s[p].toNat : Nat) : Int) := by rw [bt_nat s p hp]; rfl
  have e2 := congrArg UInt8.toNat e
  unfold turnV at e2
  rw [hb] at e2
  simpa using e2.symm
end Go.Proofs.Ytalbhllgdjgbjaa.Q
