import Derived.Test.YtnkggincckdoiaaDoorKo17
import Derived.Test.YtnkggincckdoiaaDoorKo18
import Derived.Test.YtnkggincckdoiaaDoorKo25
import Derived.Test.YtnkggincckdoiaaDoorKo27
namespace Go.Proofs.YtnkggincckdoiaaDoor.Q
open Go.RowKit Go.Shelf Go.Proofs.YtnkggincckdoiaaDoorW.PrintWords
set_option linter.unusedVariables false
set_option linter.unusedSimpArgs false
theorem pickF_ok {s : ByteArray} {x : Opr} {n : Int} (h : pickF s x = (n, 0)) : mayO x.i x.v x.w x.f x.t x.e = true ∧ s.size ≤ 1024 ∧ ∃ ts, toks (s.size + 1) s = some ts ∧ pickL x ts = some (n, []) := by
  unfold pickF at h
  split at h
  · rename_i h0
    injection h with _ h2
    exact absurd h2 h0
  · split at h
    · rename_i hm
      refine ⟨hm, ?_⟩
      unfold pickR at h
      split at h
      · injection h with _ h2; cases h2
      · rename_i hl
        refine ⟨by omega, ?_⟩
        split at h
        · injection h with _ h2; cases h2
        · rename_i ts e
          refine ⟨ts, e, ?_⟩
          unfold finR at h
          split at h
          · rename_i f e2
            injection h with h1 _
            subst h1
            exact e2
          · injection h with _ h2; cases h2
    · injection h with _ h2; cases h2
theorem sem_ok {us : List ByteArray} : RelOK (sSem :: us) ∧ (sSem :: us).head? ≠ some sAnd ∧ (sSem :: us).head? ≠ some sOr ∧ (sSem :: us).head? ≠ some sCol :=
  ⟨⟨by simp [sSem, sPct], by simp [sSem, sNe], by simp [sSem, sEq], by simp [sSem, sDd], by simp [sSem, sCom]⟩, by simp [sSem, sAnd], by simp [sSem, sOr], by simp [sSem, sCol]⟩
theorem pick_app {x : Opr} (us : List ByteArray) : ∀ (k : Nat) (f a : Int) (q : List Bool) (ts : List ByteArray), pickT x k f q ts = some (a, []) →
    ∃ q' j, j ≤ k ∧ ∀ m, pickT x (m + j) f q (ts ++ sSem :: us) = pickT x m a q' us
  | 0, _, _, _, _, h => by simp [pickT] at h
  | k + 1, f, a, q, ts, h => by
    obtain ⟨hr, h1, h2, h3⟩ := sem_ok (us := us)
    rw [pickT] at h
    cases e1 : catT ts with
    | none => rw [e1] at h; cases h
    | some cp =>
      obtain ⟨c, ts1⟩ := cp
      rw [e1] at h
      simp only [] at h
      split at h
      · rename_i hc
        cases e2 : condT x (takeT sCol ts1).2 with
        | none => rw [e2] at h; cases h
        | some hp =>
          obtain ⟨hh, ts2⟩ := hp
          rw [e2] at h
          simp only [] at h
          have hone : ∀ m, pickT x (m + 1) f q (ts ++ sSem :: us) = if (takeT sSem (ts2 ++ sSem :: us)).1 = true then pickT x m (if hh = true ∧ f = 5 then c else f) (q.set c.toNat true) (takeT sSem (ts2 ++ sSem :: us)).2 else some (if hh = true ∧ f = 5 then c else f, ts2 ++ sSem :: us) := by
            intro m
            rw [pickT, cat_app _ e1]
            simp only []
            rw [take_app h3]
            simp only []
            rw [if_pos hc, cond_app hr h1 h2 e2]
          split at h
          · rename_i ht
            obtain ⟨q', j, hj, hm⟩ := pick_app us k _ a _ _ h
            refine ⟨q', j + 1, by omega, fun m => ?_⟩
            have et := take_yes ht
            have e3 : takeT sSem (ts2 ++ sSem :: us) = (true, (takeT sSem ts2).2 ++ sSem :: us) := by
              conv => lhs; rw [et]
              rw [List.cons_append]
              exact if_pos rfl
            rw [← Nat.add_assoc, hone, e3, if_pos rfl, hm m]
          · rename_i ht
            injection h with h
            injection h with e4 e5
            subst e4 e5
            refine ⟨q.set c.toNat true, 1, by omega, fun m => ?_⟩
            rw [hone, List.nil_append, show takeT sSem (sSem :: us) = (true, us) from if_pos rfl, if_pos rfl]
      · cases h
theorem tok_mem : ∀ (m : Nat) (l : List UInt8) (ts : List (List UInt8)), l.length ≤ m → tokL l = some ts → ∀ t ∈ ts, ∀ c ∈ t, c ∈ l := by
  intro m
  induction m with
  | zero =>
    intro l ts hm h
    obtain rfl : l = [] := List.eq_nil_of_length_eq_zero (by omega)
    obtain rfl := Option.some.inj h
    intro t ht; cases ht
  | succ m ih =>
    intro l ts hm h
    rw [tokL_eq] at h
    have hs : l.dropWhile bl <:+ l := List.dropWhile_suffix _
    cases hn : tokNL (l.dropWhile bl) with
    | none => rw [hn] at h; cases h
    | some n =>
      rw [hn] at h
      simp only [] at h
      split at h
      · obtain rfl := Option.some.inj h
        intro t ht; cases ht
      · rename_i h0
        obtain ⟨us, hu, rfl⟩ := Option.map_eq_some_iff.1 h
        have hp := tokNL_pos hn h0
        have hl := hs.length_le
        have hlt : 0 < (l.dropWhile bl).length := List.length_pos_iff.2 h0
        intro t ht c hc
        rcases List.mem_cons.1 ht with rfl | ht
        · exact hs.mem (List.mem_of_mem_take hc)
        · exact hs.mem (List.mem_of_mem_drop (ih _ us (by rw [List.length_drop]; omega) hu t ht c hc))
theorem toks_data {s : ByteArray} {ts : List ByteArray} (h : toks (s.size + 1) s = some ts) : ∃ l, tokL s.data.toList = some l ∧ ts = l.map mkS := by
  rw [toks_L] at h
  obtain ⟨l, h1, h2⟩ := Option.map_eq_some_iff.1 h
  exact ⟨l, h1, h2.symm⟩
theorem mkS_inj {a b : List UInt8} (h : mkS a = mkS b) : a = b := by
  have := congrArg (fun s : ByteArray => s.data.toList) h
  simpa [mkS] using this
/-- No part is a sign that does not stand in the text. -/
theorem no_part {l : List UInt8} {ts : List (List UInt8)} {c : UInt8} (h : tokL l = some ts) (hc : c ∉ l) (t : List UInt8) (hct : c ∈ t) : mkS t ∉ ts.map mkS := by
  intro hm
  obtain ⟨u, hu, e⟩ := List.mem_map.1 hm
  obtain rfl := mkS_inj e
  exact hc (tok_mem l.length l ts (Nat.le_refl _) h u hu c hct)
/-- One rule, alone. -/
theorem pick_one {x : Opr} {m : Nat} {a b : Int} {q : List Bool} {w : ByteArray} {c : Int} {tc : List ByteArray} (hw : ∀ ts, catT (w :: ts) = some (c, ts)) (hs : sSem ∉ tc) (h : pickT x (m + 1) a q (w :: sCol :: tc) = some (b, [])) :
    ∃ hh, condT x tc = some (hh, []) ∧ b = if hh = true ∧ a = 5 then c else a := by
  rw [pickT, hw] at h
  simp only [] at h
  rw [show takeT sCol (sCol :: tc) = (true, tc) from if_pos rfl] at h
  simp only [] at h
  split at h
  · cases e2 : condT x tc with
    | none => rw [e2] at h; cases h
    | some hp =>
      obtain ⟨hh, ts2⟩ := hp
      rw [e2] at h
      simp only [] at h
      rw [if_neg (by rw [take_not (fun hm => hs ((cond_suf e2).mem hm))]; decide)] at h
      injection h with h
      injection h with h1 h2
      subst h2
      exact ⟨hh, rfl, h1.symm⟩
  · cases h
def wOne : ByteArray := ⟨#[111, 110, 101]⟩
def wZero : ByteArray := ⟨#[122, 101, 114, 111]⟩
theorem cat_one (ts : List ByteArray) : catT (wOne :: ts) = some (1, ts) := by rw [cat_cons, if_pos (by decide)]; rfl
theorem cat_zero (ts : List ByteArray) : catT (wZero :: ts) = some (0, ts) := by rw [cat_cons, if_pos (by decide)]; rfl
/-- The text "one: " ahead of a condition. -/
theorem toks_one (c : List UInt8) : tokL ([111, 110, 101, 58, 32] ++ c) = (tokL c).map ([[111, 110, 101], [58]] ++ ·) := by
  rw [tok_app _ _ (Or.inr (Or.inl rfl)), show tokL [111, 110, 101, 58, 32] = some [[111, 110, 101], [58]] by kernel_rfl]
  rfl
theorem one_toks {c : ByteArray} {ts : List ByteArray} (h : toks (((⟨#[111, 110, 101, 58, 32]⟩ : ByteArray) ++ c).size + 1) ((⟨#[111, 110, 101, 58, 32]⟩ : ByteArray) ++ c) = some ts) :
    ∃ l, tokL c.data.toList = some l ∧ ts = wOne :: sCol :: l.map mkS := by
  rw [toks_L, app_data, toks_one] at h
  obtain ⟨l1, h1, rfl⟩ := Option.map_eq_some_iff.1 h
  obtain ⟨l, h2, rfl⟩ := Option.map_eq_some_iff.1 h1
  exact ⟨l, h2, rfl⟩
/-- What 'alone' tells: the condition holds, or not. -/
theorem alone_ok {c : ByteArray} {x : Opr} {p : Int} (h : pickF ((⟨#[111, 110, 101, 58, 32]⟩ : ByteArray) ++ c) x = (p, 0)) (h59 : (59 : UInt8) ∉ c.data.toList) :
    ∃ l hh, tokL c.data.toList = some l ∧ condT x (l.map mkS) = some (hh, []) ∧ p = if hh = true then 1 else 5 := by
  obtain ⟨_, _, ts, ht, hp⟩ := pickF_ok h
  obtain ⟨l, hl, rfl⟩ := one_toks ht
  rw [pickL, if_neg (by simp)] at hp
  have hs : sSem ∉ l.map mkS := no_part hl h59 [59] (by simp)
  obtain ⟨hh, h1, h2⟩ := pick_one (m := (wOne :: sCol :: l.map mkS).length) cat_one hs hp
  refine ⟨l, hh, hl, h1, ?_⟩
  rw [h2]
  cases hh <;> rfl
def sZ : ByteArray := ⟨#[59, 32, 122, 101, 114, 111, 58, 32]⟩
theorem order_main {s c : ByteArray} {x : Opr} {a p b : Int} (h59 : (59 : UInt8) ∉ c.data.toList) (h1 : pickF s x = (a, 0)) (h2 : pickF ((⟨#[111, 110, 101, 58, 32]⟩ : ByteArray) ++ c) x = (p, 0)) (h3 : pickF ((s ++ sZ) ++ c) x = (b, 0)) :
    if a = 5 then (if p = 1 then b = 0 else b = 5) else b = a := by
  obtain ⟨l, hh, hl, hc, rfl⟩ := alone_ok h2 h59
  obtain ⟨_, _, ts1, t1, p1⟩ := pickF_ok h1
  obtain ⟨_, _, ts3, t3, p3⟩ := pickF_ok h3
  obtain ⟨l1, e1, rfl⟩ := toks_data t1
  have hs : sSem ∉ l.map mkS := no_part hl h59 [59] (by simp)
  have e3 : ts3 = l1.map mkS ++ sSem :: wZero :: sCol :: l.map mkS := by
    rw [toks_L, app_data, app_data] at t3
    rw [tok_app (s.data.toList ++ sZ.data.toList) c.data.toList (Or.inr (Or.inl (by rw [List.getLast?_append]; rfl))),
      tok_app s.data.toList sZ.data.toList (Or.inr (Or.inr (Or.inr ⟨59, _, rfl, by decide, by decide, by simp, by simp⟩))), e1, show tokL sZ.data.toList = some [[59], [122, 101, 114, 111], [58]] by kernel_rfl, hl] at t3
    simp only [Option.bind_some, Option.map_some, Option.some.injEq] at t3
    rw [← t3, List.map_append, List.map_append, List.append_assoc]
    rfl
  subst e3
  rw [pickL] at p1
  rw [pickL, if_neg (by simp)] at p3
  have fin : ∀ (m : Nat) (q : List Bool), pickT x (m + 1) a q (wZero :: sCol :: l.map mkS) = some (b, []) → if a = 5 then (if (if hh = true then (1 : Int) else 5) = 1 then b = 0 else b = 5) else b = a := by
    intro m q h
    obtain ⟨h', e4, e5⟩ := pick_one (m := m) cat_zero hs h
    rw [hc] at e4
    injection e4 with e4
    injection e4 with e4 _
    subst e4
    rw [e5]
    by_cases ha : a = 5
    · subst ha; cases hh <;> simp
    · simp [ha]
  split at p1
  · rename_i h0
    rw [h0, List.nil_append] at p3
    rw [pickT, show catT (sSem :: wZero :: sCol :: l.map mkS) = none by rw [cat_cons, if_neg (by decide)]] at p3
    cases p3
  · obtain ⟨q', j, hj, hm⟩ := pick_app (wZero :: sCol :: l.map mkS) _ _ _ _ _ p1
    have hlen : (l1.map mkS ++ sSem :: wZero :: sCol :: l.map mkS).length + 1 = ((l1.map mkS).length + 1 - j + 2 + (l.map mkS).length + 1) + j := by
      simp only [List.length_append, List.length_cons, List.length_map] at hj ⊢
      omega
    rw [hlen, hm] at p3
    exact fin _ _ p3
theorem order_l0 (x0 x1 : ByteArray) (x7 x8 : Int) (x9 x10 : Bool) (x11 x12 : Int) (hs : x1.size ≤ 140737488355328) (hfin : (59 : UInt8) ∉ x1.data.toList → x8 = 0 → x12 = 0 → x10 = true → x0.toList ≠ [] → (if x7 = 5 then (if x9 = true then x11 = 0 else x11 = 5) else x11 = x7)) :
    ∀ (d i k : Nat), x1.size - i = d → i ≤ x1.size → d + 1 < k → (∀ j, j < i → x1.data.toList[j]? ≠ some 59) → quipulaw09_RuleOrder.l0 k x0 x1 x7 x8 x9 x10 x11 x12 (i : Int) = some true := by
  intro d
  induction d with
  | zero =>
    intro i k hd hi hk hno
    obtain ⟨k, rfl⟩ : ∃ q, k = q + 2 := ⟨k - 2, by omega⟩
    have hn : (59 : UInt8) ∉ x1.data.toList := by
      intro hm
      obtain ⟨j, hj, e⟩ := List.getElem_of_mem hm
      rw [slen] at hj
      exact hno j (by omega) (by rw [List.getElem?_eq_getElem (by rw [slen]; exact hj), e])
    rw [quipulaw09_RuleOrder.l0, if_neg (by omega)]
    by_cases a8 : x8 = 0
    · rw [if_pos a8]
      by_cases a12 : x12 = 0
      · rw [if_pos a12]
        cases x10 with
        | true =>
          rw [if_pos rfl, quipulaw09_RuleOrder.j1]
          by_cases h0 : x0.toList = []
          · rw [if_pos (by rw [h0]; rfl)]
          · rw [if_neg (by simpa using h0)]
            have := hfin hn a8 a12 rfl h0
            by_cases a7 : x7 = 5
            · rw [if_pos a7] at this ⊢
              cases x9 with
              | true => rw [if_pos rfl] at this ⊢; rw [if_pos this]
              | false => rw [if_neg (by decide)] at this ⊢; rw [this]; rfl
            · rw [if_neg a7] at this ⊢
              rw [this]; simp
        | false => rw [if_neg (by decide), quipulaw09_RuleOrder.j1]; rfl
      · rw [if_neg a12, quipulaw09_RuleOrder.j1]; rfl
    · rw [if_neg a8, quipulaw09_RuleOrder.j1]; rfl
  | succ d ih =>
    intro i k hd hi hk hno
    obtain ⟨k, rfl⟩ : ∃ q, k = q + 1 := ⟨k - 1, by omega⟩
    have hlt : i < x1.size := by omega
    rw [quipulaw09_RuleOrder.l0, if_pos (by omega), if_pos (by omega), bt_get x1 i hlt]
    by_cases hc : x1[i] = 59
    · rw [if_pos (by rw [hc]; rfl)]
    · rw [if_neg (fun h => hc (UInt8.toNat_inj.1 (by have := h; simpa using (Int.ofNat.inj h)))), wrapS i x1.size hlt hs]
      refine ih (i + 1) k (by omega) (by omega) (by omega) (fun j hj => ?_)
      by_cases e : j = i
      · subst e
        rw [List.getElem?_eq_getElem (by rw [slen]; exact hlt)]
        intro h
        exact hc (by injection h)
      · exact hno j (by omega)
theorem order_true (s c : ByteArray) (x : Opr) (hx : OIn x) (hs : s.size ≤ 140737488351232) (hc : c.size ≤ 140737488351232) : quipulaw09_RuleOrder.f (c.size + 3) s c x.i x.v x.w x.f x.t x.e = some true := by
  have hP : ∀ s', rule_Pick.f s' x.i x.v x.w x.f x.t x.e = some (pickF s' x) := fun s' => if_pos hx
  unfold quipulaw09_RuleOrder.f quipulaw09_alone.f
  rw [hP, if_pos (by omega), hP, awake_true]
  simp only [Option.bind_some, if_true]
  rw [if_pos (by omega), if_pos (by rw [ByteArray.size_append]; have : (⟨#[59, 32, 122, 101, 114, 111, 58, 32]⟩ : ByteArray).size = 8 := rfl; omega), hP]
  simp only [Option.bind_some]
  refine order_l0 s c _ _ _ _ _ _ (by omega) ?_ c.size 0 _ (by omega) (Nat.zero_le _) (by omega) (fun j hj => absurd hj (Nat.not_lt_zero _))
  intro h59 e8 e12 e10 _
  have h1 : pickF s x = ((pickF s x).1, 0) := by rw [← e8]
  have h2 : pickF ((⟨#[111, 110, 101, 58, 32]⟩ : ByteArray) ++ c) x = ((pickF ((⟨#[111, 110, 101, 58, 32]⟩ : ByteArray) ++ c) x).1, 0) := by
    have : (pickF ((⟨#[111, 110, 101, 58, 32]⟩ : ByteArray) ++ c) x).2 = 0 := by simpa using e10
    rw [← this]
  have h3 : pickF ((s ++ sZ) ++ c) x = ((pickF ((s ++ sZ) ++ c) x).1, 0) := by rw [← e12]; rfl
  have := order_main h59 h1 h2 h3
  by_cases h5 : (pickF s x).1 = 5
  · rw [if_pos h5] at this ⊢
    by_cases hp : (pickF ((⟨#[111, 110, 101, 58, 32]⟩ : ByteArray) ++ c) x).1 = 1
    · rw [if_pos hp] at this
      rw [if_pos (by simpa using hp)]; exact this
    · rw [if_neg hp] at this
      rw [if_neg (by simpa using hp)]; exact this
  · rw [if_neg h5] at this ⊢; exact this
end Go.Proofs.YtnkggincckdoiaaDoor.Q
