import Derived.Test.YtnkggincckdoiaaDoorKl30
namespace Go.Proofs.YtnkggincckdoiaaDoor.Q
open Go.RowKit Go.Shelf Go.Proofs.YtnkggincckdoiaaDoorW.PrintWords
set_option linter.unusedVariables false
set_option linter.unusedSimpArgs false
theorem tok_eqv (v : List UInt8) : tokL (61 :: v) = (tokL v).map ([61] :: ·) := by
  have hd : (61 :: v).dropWhile bl = 61 :: v := List.dropWhile_cons_of_neg (by decide)
  have hn : tokNL (61 :: v) = some 1 := by
    unfold tokNL
    rw [List.takeWhile_cons_of_neg (by decide), List.takeWhile_cons_of_neg (by decide), if_neg (by simp), if_neg (by simp), if_neg (by simp [Lib.hasPrefix, List.isPrefixOf]), if_neg (by simp), if_pos (by rfl)]
  rw [tokL_eq, hd, hn]
  rfl
theorem tok_nev (v : List UInt8) : tokL (33 :: 61 :: v) = (tokL v).map ([33, 61] :: ·) := by
  have hd : (33 :: 61 :: v).dropWhile bl = 33 :: 61 :: v := List.dropWhile_cons_of_neg (by decide)
  have hn : tokNL (33 :: 61 :: v) = some 2 := by
    unfold tokNL
    rw [List.takeWhile_cons_of_neg (by decide), List.takeWhile_cons_of_neg (by decide), if_neg (by simp), if_neg (by simp), if_pos (by simp [Lib.hasPrefix, List.isPrefixOf])]
  rw [tokL_eq, hd, hn]
  rfl
theorem tok_bang (v : List UInt8) (h : ∀ v', v ≠ 61 :: v') : tokL (33 :: v) = none := by
  have hd : (33 :: v).dropWhile bl = 33 :: v := List.dropWhile_cons_of_neg (by decide)
  have hn : tokNL (33 :: v) = none := by
    unfold tokNL
    rw [List.takeWhile_cons_of_neg (by decide), List.takeWhile_cons_of_neg (by decide), if_neg (by simp), if_neg (by simp), if_neg, if_neg (by simp), if_neg (show ¬ sig ((33 :: v).headD 0) = true from (by decide : ¬ sig 33 = true))]
    cases v with
    | nil => simp [Lib.hasPrefix, List.isPrefixOf]
    | cons c v => simp [Lib.hasPrefix, List.isPrefixOf]; exact fun e => h v (by rw [e])
  rw [tokL_eq, hd, hn]
theorem not_eq (us : List ByteArray) : notT (sEq :: us) = some (false, us) := by
  unfold notT
  rw [take_ne us (by simp [sEq, sNe]), take_hd]; rfl
theorem not_ne (us : List ByteArray) : notT (sNe :: us) = some (true, us) := by
  unfold notT
  rw [take_hd]; rfl
theorem not_no {q : ByteArray} (us : List ByteArray) (h1 : q ≠ sEq) (h2 : q ≠ sNe) : notT (q :: us) = none := by
  unfold notT
  rw [take_ne us h2, take_ne us h1]; rfl
theorem mod_skip {q : ByteArray} (us : List ByteArray) (h : q ≠ sPct) : modT (q :: us) = some (0, q :: us) := by
  unfold modT
  rw [take_ne us h]; rfl
theorem num_sign {E : ByteArray} (hE : E = sEq ∨ E = sNe) (us : List ByteArray) : numT (E :: us) = none := by
  rcases hE with rfl | rfl
  · rw [num_cons, show Lib.atoiAll sEq.data.toList = .«syntax» by kernel_rfl]
  · rw [num_cons, show Lib.atoiAll sNe.data.toList = .«syntax» by kernel_rfl]
theorem mod_flip {E : ByteArray} (hE : E = sEq ∨ E = sNe) {tu tv ts2 ts3 : List ByteArray} {m : Int} {nt : Bool} (h0 : ∀ s ∈ tu, s ≠ sEq ∧ s ≠ sNe) (h1 : modT (tu ++ E :: tv) = some (m, ts2)) (h2 : notT ts2 = some (nt, ts3)) :
    ts2 = E :: tv ∧ ∀ E', E' = sEq ∨ E' = sNe → modT (tu ++ E' :: tv) = some (m, E' :: tv) := by
  have hp : ∀ E, E = sEq ∨ E = sNe → E ≠ sPct := fun E h => by rcases h with rfl | rfl <;> simp [sEq, sNe, sPct]
  match tu, h0 with
  | [], _ =>
    rw [List.nil_append, mod_skip _ (hp E hE)] at h1
    injection h1 with h1; injection h1 with e1 e2
    exact ⟨e2.symm, fun E' h => by rw [List.nil_append, mod_skip _ (hp E' h), e1]⟩
  | [q], h0 =>
    by_cases hq : q = sPct
    · subst hq
      have : modT (sPct :: E :: tv) = none := by unfold modT; rw [take_hd, if_pos rfl]; simp only []; rw [num_sign hE]
      rw [List.singleton_append, this] at h1; cases h1
    · rw [List.singleton_append, mod_skip _ hq] at h1
      injection h1 with h1; injection h1 with e1 e2
      subst e2
      obtain ⟨a, b⟩ := h0 q (by simp)
      rw [not_no _ a b] at h2; cases h2
  | q :: n :: tu3, h0 =>
    by_cases hq : q = sPct
    · subst hq
      have hm : ∀ us, modT (sPct :: n :: us) = match numT (n :: us) with
          | some (m, ts') => if 0 < m then some (m, ts') else none
          | none => none := fun us => by unfold modT; rw [take_hd, if_pos rfl]; rfl
      have hnum : ∀ (us us' : List ByteArray) (v : Int) (r : List ByteArray), numT (n :: us) = some (v, r) → r = us ∧ numT (n :: us') = some (v, us') := fun us us' v r h => by
        rw [num_cons] at h ⊢
        split at h
        · rename_i v' e
          by_cases hs : n.size ≤ 9
          · rw [if_pos hs] at h ⊢
            injection h with h; injection h with h3 h4
            exact ⟨h4.symm, by rw [h3]⟩
          · rw [if_neg hs] at h; cases h
        · cases h
      rw [List.cons_append, List.cons_append, hm] at h1
      cases e1 : numT (n :: (tu3 ++ E :: tv)) with
      | none => rw [e1] at h1; cases h1
      | some p =>
        obtain ⟨v, r⟩ := p
        obtain ⟨rfl, _⟩ := hnum _ (tu3 ++ E :: tv) v r e1
        rw [e1] at h1
        simp only [] at h1
        by_cases hv : 0 < v
        · rw [if_pos hv] at h1
          injection h1 with h1; injection h1 with e2 e3
          subst e2 e3
          cases tu3 with
          | nil =>
            refine ⟨rfl, fun E' h => ?_⟩
            rw [List.cons_append, List.cons_append, hm, (hnum _ _ v _ e1).2]
            simp only []
            rw [if_pos hv]; rfl
          | cons q2 tu4 =>
            obtain ⟨a, b⟩ := h0 q2 (by simp)
            rw [List.cons_append, not_no _ a b] at h2; cases h2
        · rw [if_neg hv] at h1; cases h1
    · rw [List.cons_append, mod_skip _ hq] at h1
      injection h1 with h1; injection h1 with e1 e2
      subst e2
      obtain ⟨a, b⟩ := h0 q (by simp)
      rw [not_no _ a b] at h2; cases h2
theorem rel_cons (y : Opr) (t : ByteArray) (ts : List ByteArray) : relT y (t :: ts) = match valT y t with
    | none => none
    | some (d, br) =>
      match modT ts with
      | none => none
      | some (m, ts2) =>
        match notT ts2 with
        | none => none
        | some (nt, ts3) =>
          match rangesT (ts3.length + 1) (restB d m) false ts3 with
          | none => none
          | some (b, ts4) => some ((b && !br) != nt, ts4) := rfl
theorem rel_flip {y : Opr} {E E' : ByteArray} (hE : E = sEq ∧ E' = sNe ∨ E = sNe ∧ E' = sEq) {tu tv : List ByteArray} {p : Bool} (h0 : ∀ s ∈ tu, s ≠ sEq ∧ s ≠ sNe) (h : relT y (tu ++ E :: tv) = some (p, [])) : relT y (tu ++ E' :: tv) = some (!p, []) := by
  have hE1 : E = sEq ∨ E = sNe := hE.elim (fun h => Or.inl h.1) (fun h => Or.inr h.1)
  have hE2 : E' = sEq ∨ E' = sNe := hE.elim (fun h => Or.inr h.2) (fun h => Or.inl h.2)
  cases tu with
  | nil =>
    rw [List.nil_append, rel_cons] at h
    have : valT y E = none := by rcases hE1 with rfl | rfl <;> (cases y; kernel_rfl)
    rw [this] at h; cases h
  | cons t tu =>
    rw [List.cons_append, rel_cons] at h ⊢
    cases e1 : valT y t with
    | none => rw [e1] at h; cases h
    | some db =>
      obtain ⟨d, br⟩ := db
      rw [e1] at h
      simp only [] at h ⊢
      cases e2 : modT (tu ++ E :: tv) with
      | none => rw [e2] at h; cases h
      | some mm =>
        obtain ⟨m, ts2⟩ := mm
        rw [e2] at h
        simp only [] at h
        cases e3 : notT ts2 with
        | none => rw [e3] at h; cases h
        | some nn =>
          obtain ⟨nt, ts3⟩ := nn
          obtain ⟨rfl, hm⟩ := mod_flip hE1 (fun s hs => h0 s (List.mem_cons_of_mem _ hs)) e2 e3
          rw [hm E' hE2]
          rw [e3] at h
          simp only [] at h ⊢
          rcases hE with ⟨rfl, rfl⟩ | ⟨rfl, rfl⟩
          · rw [not_eq] at e3
            injection e3 with e3; injection e3 with e4 e5
            subst e4 e5
            rw [not_ne]
            simp only []
            cases e6 : rangesT (tv.length + 1) (restB d m) false tv with
            | none => rw [e6] at h; cases h
            | some bb =>
              obtain ⟨b, ts4⟩ := bb
              rw [e6] at h
              simp only [] at h ⊢
              injection h with h; injection h with e7 e8
              rw [← e7, e8]
              cases b <;> cases br <;> rfl
          · rw [not_ne] at e3
            injection e3 with e3; injection e3 with e4 e5
            subst e4 e5
            rw [not_eq]
            simp only []
            cases e6 : rangesT (tv.length + 1) (restB d m) false tv with
            | none => rw [e6] at h; cases h
            | some bb =>
              obtain ⟨b, ts4⟩ := bb
              rw [e6] at h
              simp only [] at h ⊢
              injection h with h; injection h with e7 e8
              rw [← e7, e8]
              cases b <;> cases br <;> rfl
theorem rel_has {y : Opr} {ts ts' : List ByteArray} {p : Bool} (h : relT y ts = some (p, ts')) : sEq ∈ ts ∨ sNe ∈ ts := by
  cases ts with
  | nil => rw [show relT y [] = none by unfold relT; rw [show valT y (List.headD [] ByteArray.empty) = none from val_nil y]] at h; cases h
  | cons t ts =>
    rw [rel_cons] at h
    split at h
    · cases h
    · split at h
      · cases h
      · rename_i m ts2 e2
        split at h
        · cases h
        · rename_i nt ts3 e3
          have hs := mod_suf e2
          unfold notT at e3
          split at e3
          · rename_i ht
            exact Or.inr (List.mem_cons_of_mem _ (hs.mem (by rw [take_yes ht]; exact List.mem_cons_self ..)))
          · split at e3
            · rename_i ht
              exact Or.inl (List.mem_cons_of_mem _ (hs.mem (by rw [take_yes ht]; exact List.mem_cons_self ..)))
            · cases e3
/-- The other text, as_ bytes. -/
def otherL (u : List UInt8) (c : UInt8) (v : List UInt8) : List UInt8 := if c = 33 then u ++ v else u ++ 33 :: c :: v
theorem other_tok {T u v : List UInt8} {c : UInt8} {l : List (List UInt8)} (hT : T = u ++ c :: v) (hu : (33 : UInt8) ∉ u ∧ (61 : UInt8) ∉ u) (hc : c = 33 ∨ c = 61) (hl : tokL T = some l) :
    ∃ l', tokL (otherL u c v) = some l' ∧ ∀ y p, relT y (l.map mkS) = some (p, []) → relT y (l'.map mkS) = some (!p, []) := by
  have hno : ∀ (tu : List (List UInt8)), tokL u = some tu → ∀ s ∈ tu.map mkS, s ≠ sEq ∧ s ≠ sNe := fun tu h s hs =>
    ⟨fun e => no_part h hu.2 [61] (by simp) (by subst e; exact hs), fun e => no_part h hu.2 [33, 61] (by simp) (by subst e; exact hs)⟩
  have hl33 : u.getLast? ≠ some 33 := fun h => hu.1 (List.mem_of_getLast? h)
  have s61 : ∀ v, Sep u (61 :: v) := fun v => Or.inr (Or.inr (Or.inr ⟨61, v, rfl, by decide, by decide, fun h => hl33 h.1, by simp⟩))
  have s33 : ∀ v, Sep u (33 :: v) := fun v => Or.inr (Or.inr (Or.inr ⟨33, v, rfl, by decide, by decide, by simp, by simp⟩))
  subst hT
  rcases hc with rfl | rfl
  · rw [tok_app u _ (s33 v)] at hl
    by_cases hv : ∃ v', v = 61 :: v'
    · obtain ⟨v', rfl⟩ := hv
      rw [tok_nev] at hl
      cases e1 : tokL u with
      | none => rw [e1] at hl; cases hl
      | some tu =>
        cases e2 : tokL v' with
        | none => rw [e1, e2] at hl; cases hl
        | some tv =>
          rw [e1, e2] at hl
          obtain rfl := Option.some.inj hl
          refine ⟨tu ++ [61] :: tv, ?_, fun y p h => ?_⟩
          · unfold otherL
            rw [if_pos rfl, tok_app u _ (s61 v'), tok_eqv, e1, e2]; rfl
          · rw [List.map_append, List.map_cons] at h ⊢
            exact rel_flip (E := sNe) (E' := sEq) (Or.inr ⟨rfl, rfl⟩) (hno tu e1) h
    · rw [tok_bang v (fun v' e => hv ⟨v', e⟩)] at hl
      cases e1 : tokL u <;> (rw [e1] at hl; cases hl)
  · rw [tok_app u _ (s61 v), tok_eqv] at hl
    cases e1 : tokL u with
    | none => rw [e1] at hl; cases hl
    | some tu =>
      cases e2 : tokL v with
      | none => rw [e1, e2] at hl; cases hl
      | some tv =>
        rw [e1, e2] at hl
        obtain rfl := Option.some.inj hl
        refine ⟨tu ++ [33, 61] :: tv, ?_, fun y p h => ?_⟩
        · unfold otherL
          rw [if_neg (by decide), tok_app u _ (s33 _), tok_nev, e1, e2]; rfl
        · rw [List.map_append, List.map_cons] at h ⊢
          exact rel_flip (E := sEq) (E' := sNe) (Or.inl ⟨rfl, rfl⟩) (hno tu e1) h
theorem other_l0 (T : ByteArray) (u v : List UInt8) (c : UInt8) (hT : T.data.toList = u ++ c :: v) (hu : (33 : UInt8) ∉ u ∧ (61 : UInt8) ∉ u) (hc : c = 33 ∨ c = 61) (hs : T.size ≤ 140737488351232) :
    ∀ (d i k : Nat), i + d = u.length → d < k → quipulaw09_other.l0 k T (i : Int) = some (mkS (otherL u c v)) := by
  have hlen : T.size = u.length + v.length + 1 := by rw [← slen T, hT]; simp; omega
  have hge : ∀ (i : Nat) (hi : i < T.size), T[i] = T.data.toList[i]'(by rw [slen]; exact hi) := fun i hi => rfl
  intro d
  induction d with
  | zero =>
    intro i k hi hk
    obtain ⟨k, rfl⟩ : ∃ q, k = q + 1 := ⟨k - 1, by omega⟩
    obtain rfl : i = u.length := by omega
    have hlt : u.length < T.size := by omega
    have hti : T[u.length] = c := by rw [hge]; simp [hT]
    have e1 : T.extract 0 u.length = mkS u := by rw [ext_take, hT]; simp
    have e2 : (T.extract (u.length + 1) T.size).data.toList = v := by rw [ext_drop, hT]; simp [List.drop_append]
    have e3 : (T.extract u.length T.size).data.toList = c :: v := by rw [ext_drop, hT]; simp
    have hmk : (mkS u).data.toList = u := by simp [mkS]
    rw [quipulaw09_other.l0, if_pos (by omega), if_pos (by omega), bt_get T _ hlt, hti, wrapS u.length T.size hlt (by omega)]
    simp only [Int.toNat_natCast]
    rcases hc with rfl | rfl
    · rw [if_pos (show ((UInt8.toNat 33 : Nat) : Int) = 33 from rfl), if_pos (by omega), if_pos (by omega), if_pos (by omega), if_pos (by simp only [ByteArray.size_extract]; omega), e1]
      congr 1
      apply ByteArray.ext
      apply Array.toList_inj.1
      rw [app_data, hmk, e2]
      simp [otherL, mkS]
    · rw [if_neg (by decide), if_pos (show ((UInt8.toNat 61 : Nat) : Int) = 61 from rfl), if_pos (by omega), if_pos (by simp only [ByteArray.size_extract]; omega), if_pos (by rw [ByteArray.size_append]; have : (⟨#[33]⟩ : ByteArray).size = 1 := rfl; simp only [ByteArray.size_extract]; omega), e1]
      congr 1
      apply ByteArray.ext
      apply Array.toList_inj.1
      rw [app_data, app_data, hmk, e3]
      simp [otherL, mkS]
  | succ d ih =>
    intro i k hi hk
    obtain ⟨k, rfl⟩ : ∃ q, k = q + 1 := ⟨k - 1, by omega⟩
    have hiu : i < u.length := by omega
    have hlt : i < T.size := by omega
    have hti : T[i] = u[i] := by rw [hge]; simp only [hT]; exact List.getElem_append_left hiu
    have hm : u[i] ∈ u := List.getElem_mem hiu
    rw [quipulaw09_other.l0, if_pos (by omega), if_pos (by omega), bt_get T _ hlt, hti, if_neg (fun h => hu.1 (by
      have : u[i] = 33 := UInt8.toNat_inj.1 (by have := h; simpa using (Int.ofNat.inj h))
      rw [← this]; exact hm)), if_neg (fun h => hu.2 (by
      have : u[i] = 61 := UInt8.toNat_inj.1 (by have := h; simpa using (Int.ofNat.inj h))
      rw [← this]; exact hm)), wrapS i T.size hlt (by omega)]
    exact ih (i + 1) k (by omega) (by omega)
theorem split_first (T : List UInt8) (h : (61 : UInt8) ∈ T) : ∃ u c v, T = u ++ c :: v ∧ ((33 : UInt8) ∉ u ∧ (61 : UInt8) ∉ u) ∧ (c = 33 ∨ c = 61) := by
  induction T with
  | nil => cases h
  | cons a T ih =>
    by_cases ha : a = 33 ∨ a = 61
    · exact ⟨[], a, T, rfl, by simp, ha⟩
    · rcases List.mem_cons.1 h with e | h
      · exact absurd (Or.inr e.symm) ha
      · obtain ⟨u, c, v, rfl, h1, h2⟩ := ih h
        refine ⟨a :: u, c, v, rfl, ⟨?_, ?_⟩, h2⟩
        · intro hm
          rcases List.mem_cons.1 hm with e | hm
          · exact ha (Or.inl e.symm)
          · exact h1.1 hm
        · intro hm
          rcases List.mem_cons.1 hm with e | hm
          · exact ha (Or.inr e.symm)
          · exact h1.2 hm
end Go.Proofs.YtnkggincckdoiaaDoor.Q
