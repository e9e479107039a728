import Derived.Test.YtnkggincckdoiaaDoorKs29
namespace Go.Proofs.YtnkggincckdoiaaDoor.Q
open Go.RowKit Go.Shelf Go.Proofs.YtnkggincckdoiaaDoorW.PrintWords
set_option linter.unusedVariables false
set_option linter.unusedSimpArgs false
def dv (b : UInt8) : Int := ((b.toNat : Int) - 48) % 256
def VL : List UInt8 → Int
  | [] => 0
  | b :: l => dv b * 10 ^ l.length + VL l
theorem emod_step (a m p v : Int) : ((a % m) * p + v) % m = (a * p + v) % m := by
  have h : a = a % m + m * (a / m) := (Int.emod_add_mul_ediv a m).symm
  have e : a * p + v = ((a % m) * p + v) + m * ((a / m) * p) := by
    conv => lhs; rw [h]
    rw [Int.add_mul, Int.mul_assoc]
    omega
  rw [e, Int.add_mul_emod_self_left]
theorem restL_val (m : Int) (h0 : 0 < m) (h1 : m ≤ 1000000000) : ∀ (l : List UInt8) (n : Int), 0 ≤ n → n < m → restL m l n = (n * 10 ^ l.length + VL l) % m
  | [], n, a, b => by
    show n = (n * 10 ^ 0 + 0) % m
    rw [Int.pow_zero, Int.mul_one, Int.add_zero, Int.emod_eq_of_lt a b]
  | c :: l, n, a, b => by
    have hs : stepR m n c = (10 * n + dv c) % m := by
      unfold stepR
      rw [if_pos h0]
      have h2 : (10 * n + dv c) % m < m := Int.emod_lt_of_pos _ h0
      have h3 : 0 ≤ (10 * n + dv c) % m := Int.emod_nonneg _ (by omega)
      show mn ((10 * n + dv c) % m) 1000000000 = _
      unfold mn
      split <;> omega
    rw [restL, hs, restL_val m h0 h1 l _ (Int.emod_nonneg _ (by omega)) (Int.emod_lt_of_pos _ h0), emod_step]
    congr 1
    rw [VL, List.length_cons, Int.pow_succ, Int.add_mul]
    have : 10 * n * 10 ^ l.length = n * (10 ^ l.length * 10) := by
      rw [Int.mul_comm (10 ^ l.length) 10, ← Int.mul_assoc, Int.mul_comm 10 n]
    rw [this]
    omega
theorem VL_app : ∀ (u v : List UInt8), VL (u ++ v) = VL u * 10 ^ v.length + VL v
  | [], v => by simp [VL]
  | b :: u, v => by
    rw [List.cons_append, VL, VL_app u v, VL, List.length_append, Int.pow_add, Int.add_mul, Int.mul_assoc]
    omega
theorem VL_zeros : ∀ n : Nat, VL (List.replicate n 48) = 0
  | 0 => rfl
  | n + 1 => by rw [List.replicate_succ, VL, VL_zeros n, show dv 48 = 0 from rfl]; simp
theorem rest_same {m : Int} {k : Nat} (hm : m = 10 ^ k) (hk : k ≤ 8) (more X I : List UInt8) (p : Nat) (hX : VL X = VL I) (hw : k ≤ p + X.length) : restL m (more ++ (List.replicate p 48 ++ X)) 0 = restL m I 0 := by
  have h0 : 0 < m := by rw [hm]; exact Int.pow_pos (by decide)
  have h1 : m ≤ 1000000000 := by
    rw [hm]
    rcases (by omega : k = 0 ∨ k = 1 ∨ k = 2 ∨ k = 3 ∨ k = 4 ∨ k = 5 ∨ k = 6 ∨ k = 7 ∨ k = 8) with h | h | h | h | h | h | h | h | h <;> (subst h; decide)
  rw [restL_val m h0 h1 _ 0 (Int.le_refl 0) h0, restL_val m h0 h1 _ 0 (Int.le_refl 0) h0, VL_app, VL_app, VL_zeros, hX]
  have hd : (10 : Int) ^ (List.replicate p (48 : UInt8) ++ X).length = m * 10 ^ (p + X.length - k) := by
    rw [hm, ← Int.pow_add, List.length_append, List.length_replicate]
    congr 1
    omega
  rw [hd, Int.zero_mul, Int.zero_mul, Int.zero_mul, Int.zero_add, Int.zero_add]
  have e : VL more * (m * 10 ^ (p + X.length - k)) + VL I = VL I + m * (VL more * 10 ^ (p + X.length - k)) := by
    rw [Int.mul_comm (VL more), Int.mul_assoc, Int.mul_comm (10 ^ _) (VL more)]
    omega
  rw [e, Int.add_mul_emod_self_left]
def cI : ByteArray := ⟨#[105]⟩
def cN : ByteArray := ⟨#[110]⟩
def modS (k : Nat) : ByteArray := mkS (49 :: List.replicate k 48)
theorem num_mod (k : Nat) (h1 : 1 ≤ k) (h8 : k ≤ 8) (ts : List ByteArray) : numT (modS k :: ts) = some (10 ^ k, ts) := by
  rcases (by omega : k = 1 ∨ k = 2 ∨ k = 3 ∨ k = 4 ∨ k = 5 ∨ k = 6 ∨ k = 7 ∨ k = 8) with h | h | h | h | h | h | h | h <;> subst h <;> rw [num_cons]
  · rw [show Lib.atoiAll (modS 1).data.toList = .ok 10 by kernel_rfl]; rfl
  · rw [show Lib.atoiAll (modS 2).data.toList = .ok 100 by kernel_rfl]; rfl
  · rw [show Lib.atoiAll (modS 3).data.toList = .ok 1000 by kernel_rfl]; rfl
  · rw [show Lib.atoiAll (modS 4).data.toList = .ok 10000 by kernel_rfl]; rfl
  · rw [show Lib.atoiAll (modS 5).data.toList = .ok 100000 by kernel_rfl]; rfl
  · rw [show Lib.atoiAll (modS 6).data.toList = .ok 1000000 by kernel_rfl]; rfl
  · rw [show Lib.atoiAll (modS 7).data.toList = .ok 10000000 by kernel_rfl]; rfl
  · rw [show Lib.atoiAll (modS 8).data.toList = .ok 100000000 by kernel_rfl]; rfl
theorem mod_mod (k : Nat) (h1 : 1 ≤ k) (h8 : k ≤ 8) (ts : List ByteArray) : modT (sPct :: modS k :: ts) = some (10 ^ k, ts) := by
  unfold modT
  rw [take_hd, if_pos rfl]
  simp only []
  rw [num_mod k h1 h8]
  simp only []
  rw [if_pos (Int.pow_pos (by decide))]
theorem val_c {x y : Opr} (ht : x.t = y.t) {c : ByteArray} (hc : c = cI ∨ c = cN) : ∃ br, valT x c = some (x.i, br) ∧ valT y c = some (y.i, br) := by
  rcases hc with rfl | rfl
  · exact ⟨false, by cases x; kernel_rfl, by cases y; kernel_rfl⟩
  · refine ⟨x.t.toList != [48], ?_, ?_⟩
    · cases x; kernel_rfl
    · rw [ht]; cases y; kernel_rfl
theorem rel_same {x y : Opr} (ht : x.t = y.t) {c : ByteArray} (hc : c = cI ∨ c = cN) (k : Nat) (h1 : 1 ≤ k) (h8 : k ≤ 8) (hr : restB x.i (10 ^ k) = restB y.i (10 ^ k)) (tl : List ByteArray) :
    relT x (c :: sPct :: modS k :: tl) = relT y (c :: sPct :: modS k :: tl) := by
  obtain ⟨br, v1, v2⟩ := val_c ht hc
  rw [rel_cons, rel_cons, v1, v2, mod_mod k h1 h8]
  simp only []
  rw [hr]
theorem cond_plain {y : Opr} {ts : List ByteArray} (ha : sAnd ∉ ts) (ho : sOr ∉ ts) : condT y ts = relT y ts := by
  unfold condT
  rw [orT, andT]
  cases e2 : relT y ts with
  | none => rfl
  | some p2 =>
    obtain ⟨h2, ts2⟩ := p2
    simp only []
    rw [if_neg (by rw [take_not (fun hm => ha ((rel_suf e2).mem hm))]; decide)]
    simp only []
    rw [if_neg (by rw [take_not (fun hm => ho ((rel_suf e2).mem hm))]; decide)]
    simp
def wFew : ByteArray := ⟨#[102, 101, 119]⟩
theorem cat_few (ts : List ByteArray) : catT (wFew :: ts) = some (3, ts) := by rw [cat_cons, if_pos (by decide)]; rfl
theorem pickL_same {x y : Opr} {us : List ByteArray} (h : condT x us = condT y us) (hs : sSem ∉ us) : pickL x (wFew :: sCol :: us) = pickL y (wFew :: sCol :: us) := by
  rw [pickL, pickL, if_neg (by simp), if_neg (by simp), pickT, pickT, cat_few]
  simp only []
  rw [show takeT sCol (sCol :: us) = (true, us) from if_pos rfl]
  simp only []
  have hc3 : ((3 : Int) ≠ 5 ∧ noneB.getD (Int.toNat 3) false = false ∧ True) := ⟨by decide, rfl, trivial⟩
  rw [if_pos hc3, if_pos hc3, h]
  cases e2 : condT y us with
  | none => rfl
  | some hp =>
    obtain ⟨hh, ts2⟩ := hp
    simp only []
    have hn : ¬ (takeT sSem ts2).1 = true := by rw [take_not (fun hm => hs ((cond_suf e2).mem hm))]; decide
    rw [if_neg hn, if_neg hn]
/-- The text of a relation with a divisor. -/
def headR (c : UInt8) (k : Nat) : List UInt8 := [102, 101, 119, 58, 32] ++ [c] ++ [32, 37, 32] ++ (49 :: List.replicate k 48) ++ [32, 61, 32]
theorem tok_head {c : UInt8} (hc : c = 105 ∨ c = 110) (k : Nat) (h1 : 1 ≤ k) (h8 : k ≤ 8) : tokL (headR c k) = some [[102, 101, 119], [58], [c], [37], 49 :: List.replicate k 48, [61]] := by
  rcases hc with rfl | rfl <;> rcases (by omega : k = 1 ∨ k = 2 ∨ k = 3 ∨ k = 4 ∨ k = 5 ∨ k = 6 ∨ k = 7 ∨ k = 8) with h | h | h | h | h | h | h | h <;> subst h <;> kernel_rfl
theorem text_same {x y : Opr} (ht : x.t = y.t) {c : UInt8} (hc : c = 105 ∨ c = 110) (k : Nat) (h1 : 1 ≤ k) (h8 : k ≤ 8) (hr : restB x.i (10 ^ k) = restB y.i (10 ^ k)) (T : ByteArray) (L : List UInt8) (hT : T.data.toList = headR c k ++ L) (hL : (59 : UInt8) ∉ L ∧ (97 : UInt8) ∉ L ∧ (111 : UInt8) ∉ L) : pickR T x = pickR T y := by
  unfold pickR
  split
  · rfl
  · cases e : toks (T.size + 1) T with
    | none => rfl
    | some ts =>
      obtain ⟨l, hl, rfl⟩ := toks_data e
      rw [hT, tok_app _ _ (Or.inr (Or.inl (by unfold headR; rw [List.getLast?_append]; rfl))), tok_head hc k h1 h8] at hl
      obtain ⟨tl, h2, rfl⟩ := Option.map_eq_some_iff.1 hl
      have em : (([[102, 101, 119], [58], [c], [37], 49 :: List.replicate k 48, [61]] ++ tl).map mkS) = wFew :: sCol :: mkS [c] :: sPct :: modS k :: sEq :: tl.map mkS := rfl
      rw [em]
      have hcc : mkS [c] = cI ∨ mkS [c] = cN := by rcases hc with rfl | rfl; exact Or.inl rfl; exact Or.inr rfl
      have hm0 : (modS k).data.toList = 49 :: List.replicate k 48 := by simp [modS, mkS]
      have hne : ∀ w : ByteArray, w = sSem ∨ w = sAnd ∨ w = sOr → w ≠ mkS [c] ∧ w ≠ sPct ∧ w ≠ modS k ∧ w ≠ sEq := fun w hw => by
        have hm1 : w ≠ modS k := fun h => by
          have h3 := congrArg (fun s : ByteArray => s.data.toList) h
          simp only [hm0] at h3
          rcases hw with rfl | rfl | rfl <;> simp [sSem, sAnd, sOr] at h3
        refine ⟨?_, ?_, hm1, ?_⟩
        · rcases hcc with h | h <;> rw [h] <;> rcases hw with rfl | rfl | rfl <;> simp [sSem, sAnd, sOr, cI, cN]
        · rcases hw with rfl | rfl | rfl <;> simp [sSem, sAnd, sOr, sPct]
        · rcases hw with rfl | rfl | rfl <;> simp [sSem, sAnd, sOr, sEq]
      have hno : ∀ w : ByteArray, w = sSem ∨ w = sAnd ∨ w = sOr → w ∉ tl.map mkS → w ∉ mkS [c] :: sPct :: modS k :: sEq :: tl.map mkS := fun w hw hn hm => by
        obtain ⟨n1, n2, n3, n4⟩ := hne w hw
        simp only [List.mem_cons] at hm
        rcases hm with h | h | h | h | h
        · exact n1 h
        · exact n2 h
        · exact n3 h
        · exact n4 h
        · exact hn h
      have i1 := hno sSem (Or.inl rfl) (no_part h2 hL.1 [59] (by simp))
      have i2 := hno sAnd (Or.inr (Or.inl rfl)) (no_part h2 hL.2.1 [97, 110, 100] (by simp))
      have i3 := hno sOr (Or.inr (Or.inr rfl)) (no_part h2 hL.2.2 [111, 114] (by simp))
      simp only []
      rw [pickL_same (x := x) (y := y) (by rw [cond_plain i2 i3, cond_plain i2 i3]; exact rel_same ht hcc k h1 h8 hr _) i1]
theorem face_same {x y : Opr} {T : ByteArray} (hx : mayO x.i x.v x.w x.f x.t x.e = true) (hy : mayO y.i y.v y.w y.f y.t y.e = true) (h : pickR T x = pickR T y) : pickF T x = pickF T y := by
  unfold pickF
  rw [if_pos hx, if_pos hy, h]
end Go.Proofs.YtnkggincckdoiaaDoor.Q
