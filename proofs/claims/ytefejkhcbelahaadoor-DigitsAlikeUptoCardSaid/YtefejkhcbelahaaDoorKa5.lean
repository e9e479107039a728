import Derived.Test.YtefejkhcbelahaaDoorKa4
import Derived.Test.YtefejkhcbelahaaDoorKa1
namespace Go.Proofs.YtefejkhcbelahaaDoor.Q
open Go.RowKit Go.Proofs.YtefejkhcbelahaaDoorW.PrintWords Go.Proofs.YtefejkhcbelahaaDoorW.PrintLast Go.Proofs.YtefejkhcbelahaaDoorW.PrintMore
set_option linter.unusedVariables false
set_option linter.unusedSimpArgs false
theorem digB_cons (b : UInt8) (l : List UInt8) : digB (b :: l) = (decide (48 ≤ b.toNat) && decide (b.toNat ≤ 57) && digB l) := by simp [digB]
theorem wrapS (i n : Nat) (h : i < n) (hn : n ≤ 140737488355328) : wrap64 ((i : Int) + 1) = ((i + 1 : Nat) : Int) := by unfold wrap64; omega
/-- A row of digits, of at most 4096. -/
def rowB (s : ByteArray) : Bool := digB s.data.toList && decide (s.size ≤ 4096)
/-- May a Shown be? -/
def mayR (c : Int) (n : Bool) (a b : ByteArray) (e : Int) : Bool :=
  decide (-2001 ≤ e) && decide (e ≤ 2001) && (if c = 0 then rowB a && rowB b && !(a.size + b.size == 0) else (a.size + b.size == 0) && (c == 1 || (c == 2 && !n)))
theorem nil_size (s : ByteArray) : s.toList = ([] : List UInt8) ↔ s.size = 0 := by rw [toList_data, ← List.length_eq_zero_iff, slen]
def bareL (l : List UInt8) : List UInt8 := (l.reverse.dropWhile (· == 48)).reverse
theorem mem_dropWhile {p : UInt8 → Bool} : ∀ (l : List UInt8) (b : UInt8), b ∈ l → p b = false → b ∈ l.dropWhile p
  | [], b, h, _ => by simp at h
  | a :: l, b, h, hb => by
    simp only [List.dropWhile]
    cases ha : p a with
    | false => exact h
    | true =>
      rcases List.mem_cons.1 h with rfl | h2
      · rw [ha] at hb; cases hb
      · exact mem_dropWhile l b h2 hb
theorem dropWhile_all {p : UInt8 → Bool} : ∀ (l : List UInt8), (∀ b ∈ l, p b = true) → l.dropWhile p = []
  | [], _ => rfl
  | a :: l, h => by
    simp only [List.dropWhile, h a (by simp)]
    exact dropWhile_all l (fun b hb => h b (by simp [hb]))
theorem mem_of_dropWhile {p : UInt8 → Bool} (l : List UInt8) (b : UInt8) (h : b ∈ l.dropWhile p) : b ∈ l := (List.dropWhile_suffix p).subset h
theorem trimS_nil (l : List UInt8) (cs : List UInt8) : Lib.trimS l cs = [] ↔ ∀ b ∈ l, cs.contains b = true := by
  unfold Lib.trimS Lib.trimLeftS Lib.trimRightS
  constructor
  · intro h b hb
    cases hc : cs.contains b with
    | true => rfl
    | false =>
      have h1 := mem_dropWhile (p := (cs.contains ·)) l.reverse b (List.mem_reverse.2 hb) hc
      have h2 := mem_dropWhile (p := (cs.contains ·)) _ b (List.mem_reverse.2 h1) hc
      rw [h] at h2
      simp at h2
  · intro h
    exact dropWhile_all _ (fun b hb => h b (List.mem_reverse.1 (mem_of_dropWhile _ _ (List.mem_reverse.1 hb))))
abbrev digs10 : List UInt8 := [48, 49, 50, 51, 52, 53, 54, 55, 56, 57]
theorem digs10_iff (b : UInt8) : digs10.contains b = (decide (48 ≤ b.toNat) && decide (b.toNat ≤ 57)) := by
  have h : ∀ n : Fin 256, digs10.contains (UInt8.ofNat n.val) = (decide (48 ≤ (UInt8.ofNat n.val).toNat) && decide ((UInt8.ofNat n.val).toNat ≤ 57)) := by decide +kernel
  have := h ⟨b.toNat, b.toNat_lt⟩
  simpa using this
theorem trim_digs (l : List UInt8) : (Lib.trimS l digs10 = []) ↔ digB l = true := by
  rw [trimS_nil]
  unfold digB
  rw [List.all_eq_true]
  constructor <;> intro h b hb <;> have := h b hb <;> rw [digs10_iff] at * <;> exact this
theorem row_p (s : ByteArray) (hs : s.size ≤ 140737488355328) : width_row.f s = some (rowB s) := by
  unfold width_row.f rowB strings_Trim.f
  by_cases h : s.size ≤ 4096
  · rw [if_pos (by omega), if_pos (by decide +kernel), if_pos (by omega), decide_eq_true h, Bool.and_true]
    simp only [Option.bind_some]
    congr 1
    rw [toList_data]
    show (Lib.trimS s.data.toList digs10 == []) = digB s.data.toList
    cases hd : digB s.data.toList with
    | true => rw [(trim_digs _).2 hd]; rfl
    | false =>
      rw [beq_eq_false_iff_ne]
      intro h2
      rw [(trim_digs _).1 h2] at hd
      cases hd
  · rw [if_neg (by omega), decide_eq_false h, Bool.and_false]
def decMayB (c : Int) (n : Bool) (d : ByteArray) (e : Int) : Bool :=
  if d.size = 0 then decide (e = 0) && (c == 0 || c == 1 || (c == 2 && !n))
  else c == 0 && decide (d.size ≤ 1000) && decide (-2000 - (d.size : Int) ≤ e) && decide (e ≤ 2000 - (d.size : Int)) && digB d.data.toList && !(bt d 0 == 48) && !(bt d ((d.size : Int) - 1) == 48)
theorem dec_May_p (c : Int) (n : Bool) (d : ByteArray) (e : Int) (hd : d.size ≤ 281474976710656) : dec_May.f c n d e = some (decMayB c n d e) := by
  unfold dec_May.f decMayB
  by_cases h0 : d.size = 0
  · rw [if_pos (by omega), if_pos h0]
    by_cases h1 : e = 0
    · rw [if_pos h1, decide_eq_true h1]
      by_cases h2 : c = 0
      · rw [if_pos h2]; subst h2; rfl
      · rw [if_neg h2, beq_eq_false_iff_ne.2 h2]
        by_cases h3 : c = 1
        · rw [if_pos h3]; subst h3; rfl
        · rw [if_neg h3, beq_eq_false_iff_ne.2 h3]
          by_cases h4 : c = 2
          · rw [if_pos h4]; subst h4; rfl
          · rw [if_neg h4, beq_eq_false_iff_ne.2 h4]; rfl
    · rw [if_neg h1, decide_eq_false h1]; rfl
  · rw [if_neg (by omega), if_neg h0]
    have w1 : wrap64 ((-2000) - (d.size : Int)) = -2000 - (d.size : Int) := by unfold wrap64; omega
    have w2 : wrap64 (2000 - (d.size : Int)) = 2000 - (d.size : Int) := by unfold wrap64; omega
    have w3 : wrap64 ((d.size : Int) - 1) = (d.size : Int) - 1 := by unfold wrap64; omega
    rw [w1, w2, w3]
    by_cases h1 : c = 0
    · rw [if_pos h1, beq_iff_eq.2 h1]
      by_cases h2 : d.size ≤ 1000
      · rw [if_neg (by omega), decide_eq_true h2]
        by_cases h3 : -2000 - (d.size : Int) ≤ e
        · rw [if_neg (by omega), decide_eq_true h3]
          by_cases h4 : e ≤ 2000 - (d.size : Int)
          · rw [if_neg (by omega), decide_eq_true h4, strings_Trim.f, if_pos (by decide +kernel), if_pos (by omega)]
            simp only [Option.bind_some]
            rw [toList_data]
            by_cases h5 : digB d.data.toList = true
            · rw [if_pos (show (mkS (Lib.trimS d.data.toList digs10)).data.toList = [] from (trim_digs _).2 h5), if_pos (by omega), h5]
              by_cases h6 : bt d 0 = 48
              · rw [if_pos h6, beq_iff_eq.2 h6]; rfl
              · rw [if_neg h6, beq_eq_false_iff_ne.2 h6, if_pos (by omega), if_pos (by omega)]; rfl
            · rw [if_neg (show ¬ (mkS (Lib.trimS d.data.toList digs10)).data.toList = [] from fun h => h5 ((trim_digs _).1 h))]
              have : digB d.data.toList = false := by simpa using h5
              rw [this]; rfl
          · rw [if_pos (by omega), decide_eq_false h4]; simp
        · rw [if_pos (by omega), decide_eq_false h3]; simp
      · rw [if_pos (by omega), decide_eq_false h2]; simp
    · rw [if_neg h1, beq_eq_false_iff_ne.2 h1]; simp
abbrev Val := Int × Bool × ByteArray × Int × Int
def leadL (l : List UInt8) : List UInt8 := l.dropWhile (· == 48)
def valP (c : Int) (n : Bool) (a b : ByteArray) (e : Int) : Val :=
  if mayR c n a b e = false then (0, false, ⟨#[]⟩, 0, 71)
  else if c = 0 then
    let t1 := leadL (a.data.toList ++ b.data.toList)
    let x : Int := if bareL t1 = [] then 0 else e - b.size + t1.length - (bareL t1).length
    if decMayB 0 n (mkS (bareL t1)) x = true then (0, n, mkS (bareL t1), x, 0) else (0, false, ⟨#[]⟩, 0, 51)
  else (c, n, ⟨#[]⟩, 0, 0)
theorem contains1 (b : UInt8) : ([48] : List UInt8).contains b = (b == 48) := Lib.contains_one 48 b
theorem trimLeft_48 (l : List UInt8) : Lib.trimLeftS l [48] = leadL l := by unfold Lib.trimLeftS leadL; congr 1; funext b; exact contains1 b
theorem trimRight_48 (l : List UInt8) : Lib.trimRightS l [48] = bareL l := by unfold Lib.trimRightS bareL; congr 2; funext b; exact contains1 b
theorem leadL_le (l : List UInt8) : (leadL l).length ≤ l.length := (List.dropWhile_suffix _).length_le
theorem bareL_le (l : List UInt8) : (bareL l).length ≤ l.length := by
  unfold bareL
  rw [List.length_reverse]
  have := (List.dropWhile_suffix (p := (· == (48 : UInt8))) (l := l.reverse)).length_le
  rw [List.length_reverse] at this
  exact this
theorem mkS_size (l : List UInt8) : (mkS l).size = l.length := by simp [mkS, ByteArray.size]
theorem mkS_data (l : List UInt8) : (mkS l).data.toList = l := by simp [mkS]
theorem app_data (a b : ByteArray) : (a ++ b).data.toList = a.data.toList ++ b.data.toList := by simp [ByteArray.data_append]
theorem mkS_nil (l : List UInt8) : (mkS l).toList = ([] : List UInt8) ↔ l = [] := by rw [toList_data, mkS_data]
theorem decMay_c (c : Int) (n : Bool) (h : c ≠ 0) : decMayB c n ⟨#[]⟩ 0 = (c == 1 || (c == 2 && !n)) := by
  unfold decMayB
  rw [if_pos (by rfl), beq_eq_false_iff_ne.2 h]; rfl
theorem bare_size_le {a b : ByteArray} : (bareL (leadL (a.data.toList ++ b.data.toList))).length ≤ a.size + b.size := by
  refine Nat.le_trans (bareL_le _) (Nat.le_trans (leadL_le _) ?_)
  rw [List.length_append, slen, slen]; exact Nat.le_refl _
theorem Value_p (c : Int) (n : Bool) (a b : ByteArray) (e : Int) (p : Bool) (ha : a.size ≤ 140737488355328) (hb : b.size ≤ 140737488355328) (he : -9223372036854775808 ≤ e ∧ e ≤ 9223372036854775807) (k : Nat) (hk : 0 < k) :
    width_Value.f k c n a b e p = some (valP c n a b e) := by
  obtain ⟨k, rfl⟩ : ∃ m, k = m + 1 := ⟨k - 1, by omega⟩
  unfold width_Value.f valP mayR
  by_cases hc : c = 0
  · subst hc
    simp only [if_true]
    have hJt : width_Value.j0 (k + 1) true 0 n a b e p 0 n ⟨#[]⟩ 0 = some (0, false, ⟨#[]⟩, 0, 71) := by simp only [width_Value.j0]; rfl
    rw [row_p a ha]
    simp only [Option.bind_some]
    cases hra : rowB a with
    | false => rw [if_neg (by simp), hJt]; simp
    | true =>
      rw [if_pos rfl, row_p b hb]
      simp only [Option.bind_some]
      cases hrb : rowB b with
      | false => rw [if_neg (by simp), hJt]; simp
      | true =>
        rw [if_pos rfl, if_pos (by omega)]
        by_cases hz : a.size + b.size = 0
        · rw [if_pos ((nil_size _).2 (by rw [ByteArray.size_append]; exact hz)), hJt, hz]; simp
        · rw [if_neg (fun h => hz (by rw [← ByteArray.size_append]; exact (nil_size _).1 h)), beq_eq_false_iff_ne.2 hz]
          by_cases h1 : e < -2001
          · rw [if_pos h1, hJt, decide_eq_false (by omega)]; simp
          · rw [if_neg h1, decide_eq_true (show -2001 ≤ e from by omega)]
            by_cases h2 : e > 2001
            · rw [decide_eq_true h2, hJt, decide_eq_false (show ¬ e ≤ 2001 from by omega)]; simp
            · rw [decide_eq_false h2, decide_eq_true (show e ≤ 2001 from by omega)]
              have hsz : (bareL (leadL (a.data.toList ++ b.data.toList))).length ≤ a.size + b.size := bare_size_le
              have hs1 : (leadL (a.data.toList ++ b.data.toList)).length ≤ a.size + b.size := by
                refine Nat.le_trans (leadL_le _) ?_
                rw [List.length_append, slen, slen]; exact Nat.le_refl _
              simp only [width_Value.j0, strings_TrimLeft.f, strings_TrimRight.f]
              rw [if_neg (by simp), if_pos (by omega), if_pos (by decide +kernel)]
              simp only [Option.bind_some]
              have e1 : Lib.trimLeftS (a ++ b).data.toList (⟨#[48]⟩ : ByteArray).data.toList = leadL (a.data.toList ++ b.data.toList) := by rw [app_data]; exact trimLeft_48 _
              rw [e1, if_pos (by decide +kernel), if_pos (by rw [mkS_size]; omega)]
              simp only [Option.bind_some]
              have e2 : Lib.trimRightS (mkS (leadL (a.data.toList ++ b.data.toList))).data.toList (⟨#[48]⟩ : ByteArray).data.toList = bareL (leadL (a.data.toList ++ b.data.toList)) := by rw [mkS_data]; exact trimRight_48 _
              rw [e2]
              generalize leadL (a.data.toList ++ b.data.toList) = t1 at *
              simp only [mkS_size, mkS_nil]
              by_cases h3 : bareL t1 = []
              · rw [if_pos h3, dec_May_p _ _ _ _ (by rw [mkS_size]; omega), if_pos h3]
                simp
                split <;> rfl
              · have w1 : wrap64 ((wrap64 ((wrap64 (e - (b.size : Int))) + (t1.length : Int))) - ((bareL t1).length : Int)) = e - b.size + t1.length - (bareL t1).length := by unfold wrap64; omega
                rw [if_neg h3, w1, dec_May_p _ _ _ _ (by rw [mkS_size]; omega), if_neg h3]
                simp
                split <;> rfl
  · rw [if_neg hc, dec_May_p _ _ _ _ (by decide), decMay_c c n hc]
    simp only [Option.bind_some]
    rw [if_neg hc, if_neg hc]
    cases hm : (c == 1 || (c == 2 && !n)) with
    | false => rw [if_neg (by simp)]; simp
    | true =>
      rw [if_pos rfl, if_pos (by omega)]
      by_cases hz : a.size + b.size = 0
      · rw [if_pos ((nil_size _).2 (by rw [ByteArray.size_append]; exact hz)), hz]
        by_cases h1 : e < -2001
        · rw [if_pos h1, decide_eq_false (show ¬ -2001 ≤ e from by omega)]; simp
        · rw [if_neg h1, decide_eq_true (show -2001 ≤ e from by omega)]
          by_cases h2 : e > 2001
          · rw [if_pos h2, decide_eq_false (show ¬ e ≤ 2001 from by omega)]; simp
          · rw [if_neg h2, decide_eq_true (show e ≤ 2001 from by omega)]; simp
      · rw [if_neg (fun h => hz (by rw [← ByteArray.size_append]; exact (nil_size _).1 h)), beq_eq_false_iff_ne.2 hz]; simp
theorem valP_71 (c : Int) (n : Bool) (a b : ByteArray) (e : Int) : (valP c n a b e).2.2.2.2 = 71 ↔ mayR c n a b e = false := by
  unfold valP
  cases mayR c n a b e with
  | false => simp
  | true =>
    simp only [Bool.true_eq_false, if_false, iff_false]
    by_cases hc : c = 0
    · rw [if_pos hc]
      intro h
      revert h
      split <;> split <;> simp
    · rw [if_neg hc]; simp
theorem repeatL_48 (n : Nat) : Lib.repeatL [48] n = List.replicate n 48 := by
  induction n with
  | zero => rfl
  | succ n ih => rw [Lib.repeatL, ih]; rfl
theorem may_size {n : Bool} {a b : ByteArray} {e : Int} (h : mayR 0 n a b e = true) : a.size ≤ 4096 ∧ b.size ≤ 4096 ∧ -2001 ≤ e ∧ e ≤ 2001 ∧ digB a.data.toList = true ∧ digB b.data.toList = true ∧ a.size + b.size ≠ 0 := by
  unfold mayR rowB at h
  simp only [if_true, Bool.and_eq_true, decide_eq_true_eq, Bool.not_eq_true', beq_eq_false_iff_ne] at h
  obtain ⟨⟨h1, h2⟩, ⟨⟨h3, h4⟩, h5, h6⟩, h7⟩ := h
  exact ⟨h4, h6, h1, h2, h3, h5, h7⟩
theorem mn_of (a b : Int) : mn a b = if a ≤ b then a else b := by unfold mn; split <;> split <;> omega
/-- From some number of rounds on. -/
def Ev {α : Type} (g : Nat → Option α) (r : α) : Prop := ∃ K, ∀ k, K ≤ k → g k = some r
theorem Ev.step {α : Type} {g h : Nat → Option α} {r : α} (H : Ev h r) (d : Nat) (e : ∀ k, g (k + d) = h k) : Ev g r := by
  obtain ⟨K, hK⟩ := H
  refine ⟨K + d, fun k hk => ?_⟩
  obtain ⟨m, rfl⟩ : ∃ m, k = m + d := ⟨k - d, by omega⟩
  rw [e, hK m (by omega)]
theorem Ev.bind {α β : Type} {g : Nat → Option α} {x : α} {f : Nat → α → Option β} {r : β} (H : Ev g x) (H2 : Ev (fun k => f k x) r) : Ev (fun k => (g k).bind (f k)) r := by
  obtain ⟨K, hK⟩ := H
  obtain ⟨K2, hK2⟩ := H2
  refine ⟨K + K2, fun k hk => ?_⟩
  show (g k).bind (f k) = some r
  rw [hK k (by omega), Option.bind_some]
  exact hK2 k (by omega)
theorem Ev.now {α : Type} {g : Nat → Option α} {r : α} (d : Nat) (h : ∀ k, g (k + d) = some r) : Ev g r := by
  refine ⟨d, fun k hk => ?_⟩
  obtain ⟨m, rfl⟩ : ∃ m, k = m + d := ⟨k - d, by omega⟩
  exact h m
end Go.Proofs.YtefejkhcbelahaaDoor.Q
