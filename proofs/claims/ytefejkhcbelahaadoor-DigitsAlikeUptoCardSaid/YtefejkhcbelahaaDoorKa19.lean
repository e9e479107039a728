import Derived.Test.YtefejkhcbelahaaDoorKa17
import Derived.Test.YtefejkhcbelahaaDoorKa5
import Derived.Test.YtefejkhcbelahaaDoorKa1
import Derived.Test.YtefejkhcbelahaaDoorKa18
import Derived.Test.YtefejkhcbelahaaDoorKa6
import Derived.Test.YtefejkhcbelahaaDoorKa11
namespace Go.Proofs.YtefejkhcbelahaaDoor.Q
open Go.RowKit Go.Proofs.YtefejkhcbelahaaDoorW.PrintWords Go.Proofs.YtefejkhcbelahaaDoorW.PrintLast Go.Proofs.YtefejkhcbelahaaDoorW.PrintMore
set_option linter.unusedVariables false
set_option linter.unusedSimpArgs false
theorem dec_len : ∀ (m u : Nat), u < 10 ^ (m + 1) → (Lib.decDigits u).length ≤ m + 1 := by
  intro m
  induction m with
  | zero => intro u hu; rw [Lib.decDigits_one (by omega)]; simp
  | succ m ih =>
    intro u hu
    by_cases c : u < 10
    · rw [Lib.decDigits_one c]; simp
    · rw [Lib.decDigits, dif_neg c, List.length_append]
      have := ih (u / 10) (by rw [Nat.pow_succ] at hu; omega)
      simp; omega
theorem dig1 (u : Nat) (h : u < 10) : (UInt8.ofNat (48 + u)).toNat = 48 + u := by
  rw [UInt8.toNat_ofNat', Nat.mod_eq_of_lt (by omega)]
theorem digB_app (l m : List UInt8) : digB (l ++ m) = (digB l && digB m) := by unfold digB; rw [List.all_append]
theorem dec_dig (u : Nat) : digB (Lib.decDigits u) = true := by
  induction u using Nat.strongRecOn with
  | _ u ih =>
    by_cases c : u < 10
    · rw [Lib.decDigits_one c]
      have := dig1 u c
      simp only [digB, List.all_cons, List.all_nil, this, Bool.and_true, Bool.and_eq_true, decide_eq_true_eq]; omega
    · rw [Lib.decDigits, dif_neg c, digB_app, ih _ (by omega)]
      have := dig1 (u % 10) (by omega)
      simp only [digB, List.all_cons, List.all_nil, this, Bool.and_true, Bool.true_and, Bool.and_eq_true, decide_eq_true_eq]; omega
theorem dec_ne (u : Nat) : Lib.decDigits u ≠ [] := by
  rw [Lib.decDigits]
  split <;> simp
theorem digB_rep (n : Nat) : digB (List.replicate n 48) = true := by
  unfold digB
  rw [List.all_eq_true]
  intro x hx
  rw [List.eq_of_mem_replicate hx]; rfl
theorem mkS_app (a b : List UInt8) : mkS a ++ mkS b = mkS (a ++ b) := by
  apply ByteArray.ext
  rw [ByteArray.data_append]
  simp [mkS]
def padN (least : Int) (len : Nat) : Nat := (mn 99 ((if least < 0 then 0 else least) - (len : Int))).toNat
def tE (x least : Int) : List UInt8 := List.replicate (padN least (Lib.decDigits x.natAbs).length) 48 ++ Lib.decDigits x.natAbs
def signE (mi pl : ByteArray) (x : Int) (plu : Bool) : ByteArray := if x < 0 then mi else if plu = true then pl else ⟨#[]⟩
def expL (D : List ByteArray) (mi pl E : ByteArray) (x least : Int) (plu : Bool) : List S34 :=
  fullL [(⟨E, 6⟩ : S34), ⟨signE mi pl x plu, 7⟩, ⟨flatS (writtenL D (tE x least)), 8⟩]
theorem written_all (s0 s1 s2 s3 s4 s5 s6 s7 s8 s9 s10 s11 s12 s13 s14 s15 s16 s17 s18 s19 s20 : ByteArray) (t : ByteArray) (hd : digB t.data.toList = true) (hs : t.size ≤ 5000) : digits_written.f t s0 s1 s2 s3 s4 s5 s6 s7 s8 s9 s10 s11 s12 s13 s14 s15 s16 s17 s18 s19 s20 = some (writtenL (symsOf s0 s1 s2 s3 s4 s5 s6 s7 s8 s9) t.data.toList) := by
  unfold digits_written.f
  rw [if_pos hd, if_pos (by omega)]
set_option maxRecDepth 20000 in
theorem exp_j0 (s0 s1 s2 s3 s4 s5 s6 s7 s8 s9 s10 s11 s12 s13 s14 s15 s16 s17 s18 s19 s20 : ByteArray) (hD : Small (symsOf s0 s1 s2 s3 s4 s5 s6 s7 s8 s9)) (least : Int) (sg : ByteArray) (u : List UInt8) (hu : u.length ≤ 20) (hud : digB u = true) (h1 : inI least = true) (k : Nat) :
    digits_Exponent.j0 (k + 1) least sg (mkS u) s0 s1 s2 s3 s4 s5 s6 s7 s8 s9 s10 s11 s12 s13 s14 s15 s16 s17 s18 s19 s20 = some (fullL [(⟨s16, 6⟩ : S34), ⟨sg, 7⟩, ⟨flatS (writtenL (symsOf s0 s1 s2 s3 s4 s5 s6 s7 s8 s9) (List.replicate (padN least u.length) 48 ++ u)), 8⟩]) := by
  have h1' := inI_of h1
  have w : wrap64 (mx least 0 - ((mkS u).size : Int)) = (if least < 0 then 0 else least) - (u.length : Int) := by
    rw [mx_of, mkS_size]
    split <;> (unfold wrap64; omega)
  have hmn := mn_of 99 ((if least < 0 then 0 else least) - (u.length : Int))
  simp only [digits_Exponent.j0]
  rw [w]
  by_cases h0 : mn 99 ((if least < 0 then 0 else least) - (u.length : Int)) > 0
  · obtain ⟨m, hm⟩ := Int.eq_ofNat_of_zero_le (show 0 ≤ mn 99 ((if least < 0 then 0 else least) - (u.length : Int)) from by omega)
    have hm99 : m ≤ 99 := by rw [hm] at hmn; split at hmn <;> omega
    have hp : padN least u.length = m := by unfold padN; rw [hm, Int.toNat_natCast]
    have hz48 : (⟨#[48]⟩ : ByteArray).size = 1 := rfl
    have er : Lib.repeatL (⟨#[48]⟩ : ByteArray).data.toList m = List.replicate m 48 := repeatL_48 _
    rw [if_pos h0, hm, strings_Repeat.f, if_pos (by omega), if_pos (by omega), if_pos (by rw [hz48]; omega), Int.toNat_natCast, er]
    simp only [Option.bind_some]
    rw [if_pos (by rw [mkS_size, mkS_size, List.length_replicate]; omega), mkS_app, written_all s0 s1 s2 s3 s4 s5 s6 s7 s8 s9 s10 s11 s12 s13 s14 s15 s16 s17 s18 s19 s20 _ (by rw [mkS_data, digB_app, digB_rep, hud]; rfl) (by rw [mkS_size, List.length_append, List.length_replicate]; omega), mkS_data]
    simp only [Option.bind_some]
    rw [join_flat (written_small hD _) (by unfold writtenL; rw [List.length_map, List.length_append, List.length_replicate]; omega)]
    simp only [Option.bind_some]
    rw [hp]; rfl
  · have hp : padN least u.length = 0 := by unfold padN; omega
    rw [if_neg h0, written_all s0 s1 s2 s3 s4 s5 s6 s7 s8 s9 s10 s11 s12 s13 s14 s15 s16 s17 s18 s19 s20 _ (by rw [mkS_data]; exact hud) (by rw [mkS_size]; omega), mkS_data]
    simp only [Option.bind_some]
    rw [join_flat (written_small hD _) (by unfold writtenL; rw [List.length_map]; omega)]
    simp only [Option.bind_some]
    rw [hp]; rfl
theorem pre_no (l : List UInt8) (h : digB l = true) (hne : l ≠ []) : Lib.hasPrefix l [45] = false ∧ Lib.trimPrefix l [45] = l := by
  cases l with
  | nil => exact absurd rfl hne
  | cons x xs =>
    have hx : x ≠ 45 := by
      intro e
      subst e
      rw [digB_cons] at h
      simp at h
    have : Lib.hasPrefix (x :: xs) [45] = false := by
      simp [Lib.hasPrefix, List.isPrefixOf, hx]
      try exact fun e => hx e.symm
    refine ⟨this, ?_⟩
    unfold Lib.trimPrefix
    rw [this]; simp
theorem pre_yes (l : List UInt8) : Lib.hasPrefix (45 :: l) [45] = true ∧ Lib.trimPrefix (45 :: l) [45] = l := by
  have : Lib.hasPrefix (45 :: l) [45] = true := by simp [Lib.hasPrefix, List.isPrefixOf]
  refine ⟨this, ?_⟩
  unfold Lib.trimPrefix
  rw [this]; simp
set_option maxRecDepth 20000 in
theorem exp_f (s0 s1 s2 s3 s4 s5 s6 s7 s8 s9 s10 s11 s12 s13 s14 s15 s16 s17 s18 s19 s20 : ByteArray) (hD : Small (symsOf s0 s1 s2 s3 s4 s5 s6 s7 s8 s9)) (x least : Int) (plu : Bool) (h1 : inI x = true) (h2 : inI least = true) (k : Nat) :
    digits_Exponent.f (k + 1) x least plu s0 s1 s2 s3 s4 s5 s6 s7 s8 s9 s10 s11 s12 s13 s14 s15 s16 s17 s18 s19 s20 = some (expL (symsOf s0 s1 s2 s3 s4 s5 s6 s7 s8 s9) s12 s13 s16 x least plu) := by
  have h1' := inI_of h1
  have hlen := dec_len 19 x.natAbs (by omega)
  have hdig := dec_dig x.natAbs
  have hi : strconv_Itoa.f x = some (mkS (Lib.itoa x)) := by unfold strconv_Itoa.f; rw [if_pos h1'.1, if_pos h1'.2]
  unfold digits_Exponent.f expL signE
  rw [hi]
  simp only [Option.bind_some]
  unfold strings_CutPrefix.f
  rw [mkS_data]
  have e45 : (⟨#[45]⟩ : ByteArray).data.toList = [45] := rfl
  rw [e45]
  simp only [Option.bind_some]
  by_cases h0 : x < 0
  · have hit : Lib.itoa x = 45 :: Lib.decDigits x.natAbs := by unfold Lib.itoa; rw [if_pos h0]
    obtain ⟨q1, q2⟩ := pre_yes (Lib.decDigits x.natAbs)
    rw [hit, q1, q2, if_pos rfl, if_pos h0, exp_j0 s0 s1 s2 s3 s4 s5 s6 s7 s8 s9 s10 s11 s12 s13 s14 s15 s16 s17 s18 s19 s20 hD least s12 _ (by omega) hdig h2 k]
    rfl
  · have hit : Lib.itoa x = Lib.decDigits x.natAbs := by unfold Lib.itoa; rw [if_neg h0]; congr 1; omega
    obtain ⟨q1, q2⟩ := pre_no (Lib.decDigits x.natAbs) hdig (dec_ne _)
    rw [hit, q1, q2, if_neg (by simp), if_neg h0]
    cases plu with
    | true => rw [if_pos rfl, if_pos rfl, exp_j0 s0 s1 s2 s3 s4 s5 s6 s7 s8 s9 s10 s11 s12 s13 s14 s15 s16 s17 s18 s19 s20 hD least s13 _ (by omega) hdig h2 k]; rfl
    | false => rw [if_neg (by simp), if_neg (by simp), exp_j0 s0 s1 s2 s3 s4 s5 s6 s7 s8 s9 s10 s11 s12 s13 s14 s15 s16 s17 s18 s19 s20 hD least _ _ (by omega) hdig h2 k]; rfl
end Go.Proofs.YtefejkhcbelahaaDoor.Q
