import Derived.Test.YtalbhllgdjgbjaaLoadq
import Derived.Test.YtalbhllgdjgbjaaSeal
namespace Go.Proofs.Ytalbhllgdjgbjaa.Q
open Go.RowKit Go.Proofs.YtalbhllgdjgbjaaW.PrintWords Go.Proofs.YtalbhllgdjgbjaaW.PrintLast Go.Proofs.YtalbhllgdjgbjaaW.PrintMore
set_option linter.unusedVariables false
set_option linter.unusedSimpArgs false

theorem ext_front (m b : ByteArray) (k : Nat) (h : m.size = k) : (m ++ b).extract 0 k = m := by
  subst h
  apply ByteArray.ext; apply Array.ext'
  rw [Lib.extract_data]; simp [ByteArray.data_append]
theorem ext_at (a m b : ByteArray) (i k : Nat) (ha : a.size = i) (hk : i + m.size = k) : (a ++ (m ++ b)).extract i k = m := by
  subst ha; subst hk
  apply ByteArray.ext; apply Array.ext'
  rw [Lib.extract_data]; simp only [ByteArray.data_append, Array.toList_append, List.drop_zero]
  rw [List.drop_left' (by rw [Array.length_toList]; rfl), Nat.add_sub_cancel_left, List.take_left' (by rw [Array.length_toList]; rfl)]
theorem ext_tail (a m : ByteArray) (i k : Nat) (ha : a.size = i) (hk : i + m.size = k) : (a ++ m).extract i k = m := by
  have h := ext_at a m ⟨#[]⟩ i k ha hk
  have e : m ++ ⟨#[]⟩ = m := by apply ByteArray.ext; simp
  rwa [e] at h
theorem bt_app (a b : ByteArray) (i : Nat) (h : i < a.size) : bt (a ++ b) (i : Int) = bt a (i : Int) := by
  have h2 : i < (a ++ b).size := by rw [ByteArray.size_append]; omega
  rw [bt_nat _ i h2, bt_nat a i h]
  congr 2
  simp only [ByteArray.data_append, Array.toList_append]
  rw [List.getElem_append_left]
theorem bt_four (n : Nat) (i : Nat) (h : i < 4) : bt (four n) (i : Int) = ((n / 256 ^ (3 - i) % 256 : Nat) : Int) := by
  rw [bt_nat _ i (by rw [four_size]; exact h)]
  congr 1
  unfold four strOfNums
  rcases i with _ | _ | _ | _ | i
  · simp [UInt8.toNat_ofNat']; omega
  · simp [UInt8.toNat_ofNat']; omega
  · simp [UInt8.toNat_ofNat']; omega
  · simp [UInt8.toNat_ofNat']; omega
  · omega
theorem valueB_four (n : Nat) (hn : n < 4294967296) (t : ByteArray) : valueB (four n ++ t) = n := by
  unfold valueB
  have e0 : bt (four n ++ t) 0 = _ := (bt_app (four n) t 0 (by rw [four_size]; omega)).trans (bt_four n 0 (by omega))
  have e1 : bt (four n ++ t) 1 = _ := (bt_app (four n) t 1 (by rw [four_size]; omega)).trans (bt_four n 1 (by omega))
  have e2 : bt (four n ++ t) 2 = _ := (bt_app (four n) t 2 (by rw [four_size]; omega)).trans (bt_four n 2 (by omega))
  have e3 : bt (four n ++ t) 3 = _ := (bt_app (four n) t 3 (by rw [four_size]; omega)).trans (bt_four n 3 (by omega))
  rw [e0, e1, e2, e3]
  simp only [Int.toNat_natCast]
  rw [show 256 ^ (3 - 0) = 16777216 from rfl, show 256 ^ (3 - 1) = 65536 from rfl, show 256 ^ (3 - 2) = 256 from rfl, show 256 ^ (3 - 3) = 1 from rfl]
  omega
theorem valueB_four' (n : Nat) (hn : n < 4294967296) : valueB (four n) = n := by
  have h := valueB_four n hn ⟨#[]⟩
  have e : four n ++ ⟨#[]⟩ = four n := by apply ByteArray.ext; simp
  rwa [e] at h

/-! ### The head, in the image's own places -/
theorem headOk_iff (J : ByteArray) : headOk (J.extract 0 16) ↔ (J.extract 0 4 = QPU ∧ valueB (J.extract 12 16) = crc (J.extract 0 12)) := by
  unfold headOk
  rw [ByteArray.extract_extract, ByteArray.extract_extract, ByteArray.extract_extract]
  exact Iff.rfl
theorem bodyN_eq (J : ByteArray) : bodyN (J.extract 0 16) = valueB (J.extract 4 16) := by
  unfold bodyN; rw [ByteArray.extract_extract]; rfl

def img (b t : ByteArray) : ByteArray := sealB b ++ t
theorem img_form (b t : ByteArray) : img b t = QPU ++ (four b.size ++ (four (crc b) ++ (four (crc (headB b)) ++ (b ++ t)))) := by
  unfold img sealB headB QPU
  simp only [ByteArray.append_assoc]
theorem QPU_size : QPU.size = 4 := rfl
theorem img_04 (b t : ByteArray) : (img b t).extract 0 4 = QPU := by rw [img_form]; exact ext_front _ _ 4 rfl
theorem img_012 (b t : ByteArray) : (img b t).extract 0 12 = headB b := by
  unfold img sealB; rw [ByteArray.append_assoc, ByteArray.append_assoc]; exact ext_front _ _ 12 (headB_size b)
theorem img_1216 (b t : ByteArray) : (img b t).extract 12 16 = four (crc (headB b)) := by
  unfold img sealB; rw [ByteArray.append_assoc, ByteArray.append_assoc]; exact ext_at _ _ _ 12 16 (headB_size b) (by rw [four_size])
theorem img_816 (b t : ByteArray) : (img b t).extract 8 16 = four (crc b) ++ four (crc (headB b)) := by
  have e : img b t = (QPU ++ four b.size) ++ ((four (crc b) ++ four (crc (headB b))) ++ (b ++ t)) := by rw [img_form]; simp only [ByteArray.append_assoc]
  rw [e]; exact ext_at _ _ _ 8 16 (by rw [ByteArray.size_append, four_size, QPU_size]) (by rw [ByteArray.size_append, four_size, four_size])
theorem img_416 (b t : ByteArray) : (img b t).extract 4 16 = four b.size ++ (four (crc b) ++ four (crc (headB b))) := by
  have e : img b t = QPU ++ ((four b.size ++ (four (crc b) ++ four (crc (headB b)))) ++ (b ++ t)) := by rw [img_form]; simp only [ByteArray.append_assoc]
  rw [e]; exact ext_at _ _ _ 4 16 QPU_size (by rw [ByteArray.size_append, ByteArray.size_append, four_size, four_size, four_size])
theorem img_16 (b t : ByteArray) : (img b t).extract 16 (16 + b.size) = b := by
  unfold img sealB; rw [ByteArray.append_assoc]
  exact ext_at _ _ _ 16 _ (by rw [ByteArray.size_append, headB_size, four_size]) rfl
theorem img_size (b t : ByteArray) : (img b t).size = b.size + 16 + t.size := by unfold img; rw [ByteArray.size_append, sealB_size]
theorem img_head (b t : ByteArray) : headOk ((img b t).extract 0 16) := by
  rw [headOk_iff, img_04, img_1216, img_012, valueB_four' _ (crc_lt _)]; exact ⟨rfl, rfl⟩
theorem img_n (b t : ByteArray) (h : b.size ≤ 65536) : bodyN ((img b t).extract 0 16) = b.size := by
  rw [bodyN_eq, img_416, valueB_four _ (by omega)]
theorem img_sum (b t : ByteArray) : valueB ((img b t).extract 8 16) = crc b := by
  rw [img_816, valueB_four _ (crc_lt _)]
/-- A sealed body is loaded as it was, whatever stands behind it. -/
theorem loadP_back (b t : ByteArray) (fs : List S40) (h : b.size ≤ 65536) (G : ∀ i : Nat, 64 * i < (img b t).size → atF fs (i : Int) = none) :
    loadP (img b t) fs 0 = (b, 0, (((b.size + 16 + 63) / 64 : Nat) : Int)) := by
  rw [loadP_well (img b t) (img b t) fs rfl (by rw [img_size]; omega) (fun i hi => readsWell_none _ _ i hi (G i hi))]
  rw [if_neg (fun hh => hh (img_head b t)), img_n b t h, if_neg (by rw [img_size]; omega), img_16, img_sum, if_neg (fun hh => hh rfl), Nat.add_comm 16 b.size]
end Go.Proofs.Ytalbhllgdjgbjaa.Q
