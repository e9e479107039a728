import Derived.Test.YtnkggincckdoiaaDoorKs30
import Derived.Test.YtnkggincckdoiaaDoorKs33
namespace Go.Proofs.YtnkggincckdoiaaDoor.Q
open Go.RowKit Go.Shelf Go.Proofs.YtnkggincckdoiaaDoorW.PrintWords
set_option linter.unusedVariables false
set_option linter.unusedSimpArgs false
def textR (c mod list : ByteArray) : ByteArray := ((((((⟨#[102, 101, 119, 58, 32]⟩ : ByteArray) ++ c) ++ (⟨#[32, 37, 32]⟩ : ByteArray)) ++ mod) ++ (⟨#[32, 61, 32]⟩ : ByteArray)) ++ list)
theorem enc105 : Utf8.encode 105 = cI := by kernel_rfl
theorem enc110 : Utf8.encode 110 = cN := by kernel_rfl
theorem in0 : bt (⟨#[105, 110]⟩ : ByteArray) 0 = 105 := by kernel_rfl
theorem in1 : bt (⟨#[105, 110]⟩ : ByteArray) 1 = 110 := by kernel_rfl
theorem l4_true {list mod : ByteArray} {x y : Opr} (hx : OIn x) (hy : OIn y) (hl : list.size ≤ 140737488351232) (hm : mod.size ≤ 9) (h : ∀ c, c = cI ∨ c = cN → pickF (textR c mod list) x = pickF (textR c mod list) y) (k : Nat) :
    quipulaw09_RuleRests.l4 (k + 3) list mod 0 x.i x.v x.w x.f x.t x.e y.i y.v y.w y.f y.t y.e = some true := by
  have hP : ∀ s', rule_Pick.f s' x.i x.v x.w x.f x.t x.e = some (pickF s' x) := fun s' => if_pos hx
  have hQ : ∀ s', rule_Pick.f s' y.i y.v y.w y.f y.t y.e = some (pickF s' y) := fun s' => if_pos hy
  have z1 : cI.size = 1 := rfl
  have z2 : cN.size = 1 := rfl
  have z3 : (⟨#[102, 101, 119, 58, 32]⟩ : ByteArray).size = 5 := rfl
  have z4 : (⟨#[32, 37, 32]⟩ : ByteArray).size = 3 := rfl
  have z5 : (⟨#[32, 61, 32]⟩ : ByteArray).size = 3 := rfl
  have hI := h cI (Or.inl rfl)
  have hN := h cN (Or.inr rfl)
  unfold textR at hI hN
  rw [quipulaw09_RuleRests.l4, if_pos (by decide), if_pos (by decide), in0, enc105,
    if_pos (by rw [z1]; decide), if_pos (by rw [ByteArray.size_append, z1, z3]; decide), if_pos (by simp only [ByteArray.size_append, z1, z3, z4]; omega), if_pos (by simp only [ByteArray.size_append, z1, z3, z4]; omega), if_pos (by simp only [ByteArray.size_append, z1, z3, z4, z5]; omega), hP, hQ, hI]
  simp only [Option.bind_some, if_true]
  rw [show wrap64 ((0 : Int) + 1) = 1 by unfold wrap64; omega]
  rw [quipulaw09_RuleRests.l4, if_pos (by decide), if_pos (by decide), in1, enc110,
    if_pos (by rw [z2]; decide), if_pos (by rw [ByteArray.size_append, z2, z3]; decide), if_pos (by simp only [ByteArray.size_append, z2, z3, z4]; omega), if_pos (by simp only [ByteArray.size_append, z2, z3, z4]; omega), if_pos (by simp only [ByteArray.size_append, z2, z3, z4, z5]; omega), hP, hQ, hN]
  simp only [Option.bind_some, if_true]
  rw [show wrap64 ((1 : Int) + 1) = 2 by unfold wrap64; omega]
  rw [quipulaw09_RuleRests.l4, if_neg (by decide)]
theorem mk_cons (p : Nat) (X : List UInt8) : (⟨#[48]⟩ : ByteArray) ++ mkS (List.replicate p 48 ++ X) = mkS (List.replicate (p + 1) 48 ++ X) := by
  apply ByteArray.ext
  apply Array.toList_inj.1
  rw [app_data]
  simp [mkS, List.replicate_succ]
theorem mk_snoc (i : Nat) : mkS (49 :: List.replicate i 48) ++ (⟨#[48]⟩ : ByteArray) = mkS (49 :: List.replicate (i + 1) 48) := by
  apply ByteArray.ext
  apply Array.toList_inj.1
  rw [app_data]
  simp [mkS, List.replicate_succ']
theorem mk_size (l : List UInt8) : (mkS l).size = l.length := by simp [mkS, ByteArray.size]
/-- What the operands are behind their noughts. -/
def padY (x : Opr) (more : ByteArray) (p : Nat) (X : List UInt8) : Opr := { x with i := more ++ mkS (List.replicate p 48 ++ X) }
section
variable {list more : ByteArray} {x : Opr} {n : Nat} {X : List UInt8}
theorem l3_true (hn : n ≤ 8) (hmore : more.size ≤ 4000) (hX : X.length ≤ 4000) (H : ∀ p k, p ≤ n → n ≤ p + X.length → quipulaw09_RuleRests.l4 (k + 3) list (modS n) 0 x.i x.v x.w x.f x.t x.e (padY x more p X).i x.v x.w x.f x.t x.e = some true) :
    ∀ (d p k : Nat), n - p = d → p ≤ n → quipulaw09_RuleRests.l3 (k + d + 4) list more (n : Int) (modS n) x.i x.v x.w x.f x.t x.e (mkS (List.replicate p 48 ++ X)) x.v x.w x.f x.t x.e = some true := by
  intro d
  induction d with
  | zero =>
    intro p k hd hp
    have e : (mkS (List.replicate p 48 ++ X)).size = p + X.length := by rw [mk_size]; simp
    rw [quipulaw09_RuleRests.l3, if_neg (by omega), if_pos (by omega)]
    exact H p k hp (by omega)
  | succ d ih =>
    intro p k hd hp
    have e : (mkS (List.replicate p 48 ++ X)).size = p + X.length := by rw [mk_size]; simp
    rw [show k + (d + 1) + 4 = (k + d + 4) + 1 by omega, quipulaw09_RuleRests.l3]
    by_cases hs : ((mkS (List.replicate p 48 ++ X)).size : Int) < (n : Int)
    · rw [if_pos hs, if_pos (by omega), mk_cons]
      exact ih (p + 1) k (by omega) (by omega)
    · rw [if_neg hs, if_pos (by omega)]
      exact H p (k + d + 1) hp (by omega)
theorem l2_true (hn : n ≤ 8) (hX0 : (if x.i.toList = ([48] : List UInt8) then X = [] else X = x.i.data.toList))
    (H : ∀ k, quipulaw09_RuleRests.l3 (k + n + 4) list more (n : Int) (modS n) x.i x.v x.w x.f x.t x.e (mkS (List.replicate 0 48 ++ X)) x.v x.w x.f x.t x.e = some true) :
    ∀ (d i k : Nat), n - i = d → i ≤ n → quipulaw09_RuleRests.l2 (k + d + n + 6) list more (n : Int) (mkS (49 :: List.replicate i 48)) (i : Int) x.i x.v x.w x.f x.t x.e = some true := by
  intro d
  induction d with
  | zero =>
    intro i k hd hi
    obtain rfl : i = n := by omega
    rw [show k + 0 + i + 6 = (k + i + 4) + 1 + 1 by omega, quipulaw09_RuleRests.l2, if_neg (by omega)]
    have h3 := H k
    rw [List.replicate_zero, List.nil_append] at h3
    by_cases h0 : x.i.toList = ([48] : List UInt8)
    · rw [if_pos h0] at hX0 ⊢
      subst hX0
      rw [quipulaw09_RuleRests.j4]
      exact h3
    · rw [if_neg h0] at hX0 ⊢
      rw [hX0, show mkS x.i.data.toList = x.i from rfl] at h3
      rw [quipulaw09_RuleRests.j4]
      exact h3
  | succ d ih =>
    intro i k hd hi
    rw [show k + (d + 1) + n + 6 = (k + d + n + 6) + 1 by omega, quipulaw09_RuleRests.l2, if_pos (by omega), if_pos (by rw [mk_size]; simp; omega), mk_snoc, wrapS i n (by omega) (by omega)]
    exact ih (i + 1) k (by omega) (by omega)
def okC (c : UInt8) : Prop := (48 ≤ c.toNat ∧ c.toNat ≤ 57) ∨ c = 44 ∨ c = 46 ∨ c = 32
theorem l1_true (hs : list.size ≤ 140737488351232) (m0 : Nat) (H : ∀ k, m0 ≤ k → (∀ c ∈ list.data.toList, okC c) → quipulaw09_RuleRests.l2 k list more (n : Int) (⟨#[49]⟩ : ByteArray) 0 x.i x.v x.w x.f x.t x.e = some true) :
    ∀ (d i k : Nat), i + d = list.size → m0 + d < k → (∀ j (hj : j < i) (hj2 : j < list.size), okC list[j]) → quipulaw09_RuleRests.l1 k list more (n : Int) (i : Int) x.i x.v x.w x.f x.t x.e = some true := by
  intro d
  induction d with
  | zero =>
    intro i k hi hk hok
    obtain ⟨k, rfl⟩ : ∃ q, k = q + 1 := ⟨k - 1, by omega⟩
    rw [quipulaw09_RuleRests.l1, if_neg (by omega)]
    refine H k (by omega) (fun c hc => ?_)
    obtain ⟨j, hj, rfl⟩ := List.getElem_of_mem hc
    rw [slen] at hj
    exact hok j (by omega) hj
  | succ d ih =>
    intro i k hi hk hok
    obtain ⟨k, rfl⟩ : ∃ q, k = q + 1 := ⟨k - 1, by omega⟩
    have hlt : i < list.size := by omega
    have e : ∀ m : Nat, m < 256 → (((list[i].toNat : Nat) : Int) = (m : Int)) = (list[i] = UInt8.ofNat m) := fun m hm => propext ⟨fun h => by
      have h2 : list[i].toNat = m := Int.ofNat.inj h
      rw [← h2]; simp, fun h => by rw [h]; simp; omega⟩
    have f44 : (((list[i].toNat : Nat) : Int) = 44) = (list[i] = 44) := e 44 (by omega)
    have f46 : (((list[i].toNat : Nat) : Int) = 46) = (list[i] = 46) := e 46 (by omega)
    have f32 : (((list[i].toNat : Nat) : Int) = 32) = (list[i] = 32) := e 32 (by omega)
    have go : okC list[i] → quipulaw09_RuleRests.l1 k list more (n : Int) (((i + 1 : Nat) : Int)) x.i x.v x.w x.f x.t x.e = some true := fun ho => ih (i + 1) k (by omega) (by omega) (fun j hj hj2 => by
      by_cases hji : j = i
      · subst hji; exact ho
      · exact hok j (by omega) hj2)
    rw [quipulaw09_RuleRests.l1, if_pos (by omega), if_pos (by omega), bt_get list i hlt, wrapS i list.size hlt (by omega)]
    simp only [f44, f46, f32]
    by_cases a : ((list[i].toNat : Nat) : Int) < 48
    · rw [if_pos a]
      by_cases b : list[i] = 44
      · rw [if_pos b]; exact go (Or.inr (Or.inl b))
      · rw [if_neg b]
        by_cases c : list[i] = 46
        · rw [if_pos c]; exact go (Or.inr (Or.inr (Or.inl c)))
        · rw [if_neg c]
          by_cases d : list[i] = 32
          · rw [if_pos d]; exact go (Or.inr (Or.inr (Or.inr d)))
          · rw [if_neg d]
    · rw [if_neg a]
      by_cases a2 : ((list[i].toNat : Nat) : Int) > 57
      · rw [if_pos a2]
        by_cases b : list[i] = 44
        · rw [if_pos b]; exact go (Or.inr (Or.inl b))
        · rw [if_neg b]
          by_cases c : list[i] = 46
          · rw [if_pos c]; exact go (Or.inr (Or.inr (Or.inl c)))
          · rw [if_neg c]
            by_cases d : list[i] = 32
            · rw [if_pos d]; exact go (Or.inr (Or.inr (Or.inr d)))
            · rw [if_neg d]
      · rw [if_neg a2]; exact go (Or.inl ⟨by omega, by omega⟩)
theorem l0_true (hs : more.size ≤ 140737488351232) (m0 : Nat) (H : ∀ k, m0 ≤ k → digB more.data.toList = true → quipulaw09_RuleRests.l1 k list more (n : Int) 0 x.i x.v x.w x.f x.t x.e = some true) :
    ∀ (d i k : Nat), i + d = more.size → m0 + d < k → (∀ j (hj : j < i) (hj2 : j < more.size), 48 ≤ more[j].toNat ∧ more[j].toNat ≤ 57) → quipulaw09_RuleRests.l0 k list more (n : Int) (i : Int) x.i x.v x.w x.f x.t x.e = some true := by
  intro d
  induction d with
  | zero =>
    intro i k hi hk hok
    obtain ⟨k, rfl⟩ : ∃ q, k = q + 1 := ⟨k - 1, by omega⟩
    rw [quipulaw09_RuleRests.l0, if_neg (by omega)]
    refine H k (by omega) (List.all_eq_true.2 fun c hc => ?_)
    obtain ⟨j, hj, rfl⟩ := List.getElem_of_mem hc
    rw [slen] at hj
    have := hok j (by omega) hj
    rw [Bool.and_eq_true, decide_eq_true_eq, decide_eq_true_eq]
    exact this
  | succ d ih =>
    intro i k hi hk hok
    obtain ⟨k, rfl⟩ : ∃ q, k = q + 1 := ⟨k - 1, by omega⟩
    have hlt : i < more.size := by omega
    rw [quipulaw09_RuleRests.l0, if_pos (by omega), if_pos (by omega), bt_get more i hlt, wrapS i more.size hlt (by omega)]
    by_cases a : ((more[i].toNat : Nat) : Int) < 48
    · rw [if_pos a]
    · rw [if_neg a]
      by_cases a2 : ((more[i].toNat : Nat) : Int) > 57
      · rw [if_pos a2]
      · rw [if_neg a2]
        refine ih (i + 1) k (by omega) (by omega) (fun j hj hj2 => ?_)
        by_cases hji : j = i
        · subst hji; exact ⟨by omega, by omega⟩
        · exact hok j (by omega) hj2
end
theorem ok_no {l : List UInt8} (h : ∀ c ∈ l, okC c) : (59 : UInt8) ∉ l ∧ (97 : UInt8) ∉ l ∧ (111 : UInt8) ∉ l := by
  refine ⟨fun m => ?_, fun m => ?_, fun m => ?_⟩
  · rcases h _ m with ⟨_, h⟩ | h | h | h
    · exact absurd h (by decide)
    all_goals exact absurd h (by decide)
  · rcases h _ m with ⟨_, h⟩ | h | h | h
    · exact absurd h (by decide)
    all_goals exact absurd h (by decide)
  · rcases h _ m with ⟨_, h⟩ | h | h | h
    · exact absurd h (by decide)
    all_goals exact absurd h (by decide)
theorem digB_app (a b : List UInt8) : digB (a ++ b) = (digB a && digB b) := by simp [digB]
theorem digB_zeros (p : Nat) : digB (List.replicate p 48) = true := by simp [digB]
theorem pad_data (x : Opr) (more : ByteArray) (p : Nat) (X : List UInt8) : (padY x more p X).i.data.toList = more.data.toList ++ (List.replicate p 48 ++ X) := by
  show (more ++ mkS (List.replicate p 48 ++ X)).data.toList = _
  rw [app_data]; simp [mkS]
theorem may_pad {x : Opr} {more : ByteArray} {p : Nat} {X : List UInt8} (hm : mayO x.i x.v x.w x.f x.t x.e = true) (hd : digB more.data.toList = true) (h0 : more.data.toList ≠ []) (h1 : more.data.toList.head?.getD 48 ≠ 48) (hs : more.size ≤ 4000) (hp : p ≤ 8) (hX : if x.i.toList = ([48] : List UInt8) then X = [] else X = x.i.data.toList) (hl : X.length ≤ 4000) :
    mayO (padY x more p X).i x.v x.w x.f x.t x.e = true := by
  unfold mayO at hm ⊢
  rw [Bool.and_eq_true, Bool.and_eq_true] at hm ⊢
  refine ⟨hm.1, ?_, hm.2.2⟩
  have hi := hm.2.1
  have hdX : digB X = true := by
    by_cases hz : x.i.toList = ([48] : List UInt8)
    · rw [if_pos hz] at hX; rw [hX]; rfl
    · rw [if_neg hz] at hX
      rw [hX]
      unfold numberB at hi
      rw [Bool.or_eq_true] at hi
      rcases hi with h | h
      · exact absurd (by rw [toList_data]; simpa using h) hz
      · rw [Bool.and_eq_true, Bool.and_eq_true] at h; exact h.1.1
  unfold numberB
  rw [pad_data, Bool.or_eq_true]
  right
  have hsz : (padY x more p X).i.size = more.size + (p + X.length) := by
    rw [← slen, pad_data]; simp [slen]
  rw [digB_app, digB_app, hd, digB_zeros, hdX]
  have hh : (more.data.toList ++ (List.replicate p 48 ++ X)).head?.getD 48 = more.data.toList.head?.getD 48 := by
    cases h : more.data.toList with
    | nil => exact absurd h h0
    | cons a b => rfl
  rw [hh, beq_eq_false_iff_ne.2 h1, hsz]
  simp
  omega
theorem text_data (c : UInt8) (k : Nat) (list : ByteArray) : (textR (mkS [c]) (modS k) list).data.toList = headR c k ++ list.data.toList := by
  unfold textR headR modS
  rw [app_data, app_data, app_data, app_data, app_data]
  simp [mkS]
theorem j0r_true (k : Nat) (list more : ByteArray) (u : Int) (x : Opr) : quipulaw09_RuleRests.j0 (k + 1) list more u true x.i x.v x.w x.f x.t x.e = some true := by
  rw [quipulaw09_RuleRests.j0, if_pos rfl]
theorem rests_true (list more : ByteArray) (u : Int) (x : Opr) (hx : OIn x) (hl : list.size ≤ 140737488351232) (hmz : more.size ≤ 140737488351232) : quipulaw09_RuleRests.f (list.size + more.size + 60) list more u x.i x.v x.w x.f x.t x.e = some true := by
  unfold quipulaw09_RuleRests.f
  rw [awake_true]
  simp only [Option.bind_some, if_true]
  by_cases u1 : u < 1
  · rw [if_pos u1]; exact j0r_true _ _ _ _ _
  rw [if_neg u1]
  by_cases u8 : u > 8
  · rw [if_pos u8]; exact j0r_true _ _ _ _ _
  rw [if_neg u8]
  obtain ⟨n, rfl⟩ : ∃ n : Nat, u = (n : Int) := ⟨u.toNat, by omega⟩
  have hmay : quipuref08_May.f x.i x.v x.w x.f x.t x.e = some (mayO x.i x.v x.w x.f x.t x.e) := by
    unfold quipuref08_May.f
    rw [if_pos hx.i1, if_pos hx.f1, if_pos hx.t1]
  rw [hmay]
  simp only [Option.bind_some]
  by_cases hm : mayO x.i x.v x.w x.f x.t x.e = true
  · rw [if_pos hm]
    by_cases c1 : (x.i.size : Int) > 4000
    · rw [if_pos c1]; exact j0r_true _ _ _ _ _
    rw [if_neg c1]
    by_cases c2 : (more.size : Int) > 4000
    · rw [if_pos c2]; exact j0r_true _ _ _ _ _
    rw [if_neg c2]
    by_cases c3 : more.toList = ([] : List UInt8)
    · rw [if_pos c3]; exact j0r_true _ _ _ _ _
    rw [if_neg c3]
    have hz : more.size ≠ 0 := fun h => c3 ((nil_size more).2 h)
    rw [if_pos (by omega)]
    by_cases c4 : (bt more 0 == 48) = true
    · rw [c4]; exact j0r_true _ _ _ _ _
    rw [Bool.eq_false_iff.2 c4, quipulaw09_RuleRests.j0, if_neg (by decide)]
    have hne : more.data.toList ≠ [] := by rw [← toList_data]; exact c3
    have hhd : more.data.toList.head?.getD 48 ≠ 48 := fun h => c4 (by
      have e := bt_get more 0 (by omega)
      rw [show ((0 : Nat) : Int) = 0 from rfl] at e
      rw [e]
      have hg : more.data.toList.head? = some more[0] := by
        rw [List.head?_eq_getElem?, List.getElem?_eq_getElem (by rw [slen]; omega)]; rfl
      rw [hg] at h
      simp only [Option.getD_some] at h
      rw [h]; rfl)
    obtain ⟨X, hX⟩ : ∃ X, X = (if x.i.toList = ([48] : List UInt8) then [] else x.i.data.toList) := ⟨_, rfl⟩
    have hX2 : if x.i.toList = ([48] : List UInt8) then X = [] else X = x.i.data.toList := by
      by_cases h : x.i.toList = ([48] : List UInt8)
      · rw [if_pos h] at hX ⊢; exact hX
      · rw [if_neg h] at hX ⊢; exact hX
    have hXl : X.length ≤ 4000 := by
      by_cases h : x.i.toList = ([48] : List UInt8)
      · rw [if_pos h] at hX; rw [hX]; exact Nat.zero_le _
      · rw [if_neg h] at hX; rw [hX, slen]; omega
    have hVX : VL X = VL x.i.data.toList := by
      by_cases h : x.i.toList = ([48] : List UInt8)
      · rw [if_pos h] at hX; rw [hX, ← toList_data, h]; rfl
      · rw [if_neg h] at hX; rw [hX]
    refine l0_true (n := n) (by omega) (list.size + 40) (fun k hk hd => ?_) more.size 0 _ (by omega) (by omega) (fun j hj => absurd hj (Nat.not_lt_zero _))
    refine l1_true (n := n) hl 24 (fun k2 hk2 hok => ?_) list.size 0 k (by omega) (by omega) (fun j hj => absurd hj (Nat.not_lt_zero _))
    obtain ⟨k3, rfl⟩ : ∃ k3, k2 = k3 + n + n + 6 := ⟨k2 - n - n - 6, by omega⟩
    refine l2_true (X := X) (by omega) hX2 (fun k4 => ?_) n 0 k3 (by omega) (Nat.zero_le _)
    refine l3_true (by omega) (by omega) hXl (fun p k5 hp hpn => ?_) n 0 k4 (by omega) (Nat.zero_le _)
    have hy : OIn (padY x more p X) := ⟨hx.v, hx.w, hx.e, by
      have hsz : (padY x more p X).i.size = more.size + (p + X.length) := by rw [← slen, pad_data]; simp [slen]
      omega, hx.f1, hx.t1⟩
    have hmy := may_pad hm hd hne hhd (by omega) (show p ≤ 8 by omega) hX2 hXl
    have hr : restB x.i (10 ^ n) = restB (padY x more p X).i (10 ^ n) := by
      unfold restB
      rw [pad_data]
      exact (rest_same (k := n) rfl (by omega) more.data.toList X x.i.data.toList p hVX hpn).symm
    have hmd : (modS n).size ≤ 9 := by unfold modS; rw [mk_size]; simp; omega
    refine l4_true (y := padY x more p X) hx hy hl hmd (fun c hc => ?_) k5
    have hno := ok_no hok
    rcases hc with rfl | rfl
    · exact face_same hm hmy (text_same (x := x) (y := padY x more p X) rfl (Or.inl rfl) n (by omega) (by omega) hr _ _ (text_data 105 n list) hno)
    · exact face_same hm hmy (text_same (x := x) (y := padY x more p X) rfl (Or.inr rfl) n (by omega) (by omega) hr _ _ (text_data 110 n list) hno)
  · rw [if_neg hm]; exact j0r_true _ _ _ _ _
end Go.Proofs.YtnkggincckdoiaaDoor.Q
