import Derived.Test.YtnkggincckdoiaaDoorKr32
import Derived.Test.YtnkggincckdoiaaDoorKr21
import Derived.Test.YtnkggincckdoiaaDoorKr33
import Derived.Test.YtnkggincckdoiaaDoorKr34
namespace Go.Proofs.YtnkggincckdoiaaDoor.Q
open Go.RowKit Go.Shelf Go.Proofs.YtnkggincckdoiaaDoorW.PrintWords Go.Proofs.YtnkggincckdoiaaDoorW.PrintLast Go.Proofs.YtnkggincckdoiaaDoorW.PrintMore
set_option linter.unusedVariables false
set_option linter.unusedSimpArgs false
def six (e : S52) : Prop := 0 ≤ e.f0 ∧ e.f0 < 6 ∧ 0 ≤ e.f1 ∧ e.f1 < 6 ∧ 0 ≤ e.f2 ∧ e.f2 < 6
def hit (a b : Int) (r : S52) : Bool := decide (r.f0 = a) && decide (r.f1 = b)
def valQ (o : Option S52) : Int := match o with | none => 0 | some r => 1 + r.f2
/-- The table q says what the rows say. -/
structure RepQ (out : List S52) (q : List Int) : Prop where
  len : q.length = 36
  rows : ∀ r ∈ out, six r
  val : ∀ a b : Nat, a < 6 → b < 6 → q.getD (a * 6 + b) 0 = valQ (out.find? (hit a b))
theorem rep0 : RepQ [] noneI := by
  refine ⟨rfl, by simp, fun a b ha hb => ?_⟩
  unfold noneI
  rw [List.getD_eq_getElem?_getD, List.getElem?_replicate]
  split <;> rfl
theorem val_none {out : List S52} {a b : Int} (h : ∀ r ∈ out, six r) : valQ (out.find? (hit a b)) = 0 ↔ (out.any (hit a b)) = false := by
  cases hf : out.find? (hit a b) with
  | none =>
    refine ⟨fun _ => ?_, fun _ => rfl⟩
    rw [List.any_eq_false]
    exact List.find?_eq_none.1 hf
  | some r =>
    have h1 := List.find?_some hf
    have h2 := List.mem_of_find?_eq_some hf
    have h3 := h r h2
    refine ⟨fun e => ?_, fun e => ?_⟩
    · simp only [valQ] at e; have := h3.2.2.2.2.1; omega
    · exact absurd h1 (List.any_eq_false.1 e r h2)
theorem rep_add {out : List S52} {q : List Int} (h : RepQ out q) {e : S52} (he : six e) (hn : out.any (hit e.f0 e.f1) = false) : RepQ (out ++ [e]) (q.set (e.f0.toNat * 6 + e.f1.toNat) (1 + e.f2)) := by
  obtain ⟨h0, h1, h2, h3, h4, h5⟩ := he
  refine ⟨by rw [List.length_set]; exact h.len, fun r hr => ?_, fun a b ha hb => ?_⟩
  · rcases List.mem_append.1 hr with hr | hr
    · exact h.rows r hr
    · rw [List.mem_singleton] at hr; subst hr; exact ⟨h0, h1, h2, h3, h4, h5⟩
  · have hl := h.len
    rw [List.find?_append]
    by_cases hab : e.f0 = (a : Int) ∧ e.f1 = (b : Int)
    · obtain ⟨e0, e1⟩ := hab
      have hi : e.f0.toNat * 6 + e.f1.toNat = a * 6 + b := by omega
      have hf : out.find? (hit a b) = none := by
        rw [List.find?_eq_none]
        rw [e0, e1] at hn
        exact List.any_eq_false.1 hn
      rw [hi, hf]
      have hh : hit a b e = true := by simp [hit, e0, e1]
      simp [List.getD_eq_getElem?_getD, List.getElem?_set, hl, show a * 6 + b < 36 by omega, hh, valQ]
    · have hi : e.f0.toNat * 6 + e.f1.toNat ≠ a * 6 + b := by omega
      have hh : hit a b e = false := by
        cases hx : hit a b e with
        | false => rfl
        | true =>
          simp only [hit, Bool.and_eq_true, decide_eq_true_eq] at hx
          exact absurd hx hab
      have hv := h.val a b ha hb
      rw [List.getD_eq_getElem?_getD, List.getElem?_set_ne hi, ← List.getD_eq_getElem?_getD, hv]
      cases out.find? (hit a b) with
      | none => simp [hh]
      | some r => rfl
theorem neSC : sSem ≠ sPlu ∧ sSem ≠ sCol := by decide
theorem cat_sem : catI sSem = -1 := by kernel_rfl
/-- The first piece is what stands ahead of the first sign, and so on. -/
theorem spl_head (t : ByteArray) : ∀ (l cur : List ByteArray), ∃ u, (∀ x ∈ u, x ≠ t) ∧ ((l = u ∧ splA t cur l = [cur ++ u]) ∨ ∃ r, l = u ++ t :: r ∧ splA t cur l = (cur ++ u) :: splA t [] r)
  | [], cur => ⟨[], by simp, Or.inl ⟨rfl, by simp [splA]⟩⟩
  | x :: xs, cur => by
    by_cases h : x = t
    · subst h
      exact ⟨[], by simp, Or.inr ⟨xs, rfl, by simp [splA]⟩⟩
    · obtain ⟨u, hu, hx⟩ := spl_head t xs (cur ++ [x])
      refine ⟨x :: u, fun y hy => ?_, ?_⟩
      · rcases List.mem_cons.1 hy with rfl | hy
        · exact h
        · exact hu y hy
      · rcases hx with ⟨rfl, e⟩ | ⟨r, rfl, e⟩
        · exact Or.inl ⟨rfl, by rw [splA, if_neg h, e, List.append_assoc, List.singleton_append]⟩
        · exact Or.inr ⟨r, rfl, by rw [splA, if_neg h, e, List.append_assoc, List.singleton_append]⟩
/-- What one entry reads, in the words of the reference. -/
def stepE (q : List Int) (ts : List ByteArray) : Option (S52 × List ByteArray) :=
  match ts with
  | a :: p :: b :: y :: c :: r => if p = sPlu ∧ y = sCol ∧ 0 ≤ catI a ∧ 0 ≤ catI b ∧ 0 ≤ catI c then (if q.getD ((catI a).toNat * 6 + (catI b).toNat) 0 = 0 then some (⟨catI a, catI b, catI c⟩, r) else none) else none
  | _ => none
theorem catT_I (t : ByteArray) (ts : List ByteArray) : catT (t :: ts) = if 0 ≤ catI t then some (catI t, ts) else none := rfl
theorem catT_nil : catT [] = none := by kernel_rfl
theorem takeT_cons (p t : ByteArray) (ts : List ByteArray) : takeT p (t :: ts) = if t = p then (true, ts) else (false, t :: ts) := by
  unfold takeT
  by_cases h : t = p <;> simp [h]
theorem takeT_nil (p : ByteArray) : takeT p [] = (false, []) := rfl
theorem entT_step (k : Nat) (q : List Int) (ts : List ByteArray) : entT (k + 1) q ts = match stepE q ts with
    | none => none
    | some (e, r) => if (takeT sSem r).1 = true then entT k (q.set (e.f0.toNat * 6 + e.f1.toNat) (1 + e.f2)) (takeT sSem r).2 else some (q.set (e.f0.toNat * 6 + e.f1.toNat) (1 + e.f2), r) := by
  rcases ts with _ | ⟨a, ts⟩
  · rw [entT, catT_nil]; rfl
  rw [entT, catT_I]
  by_cases ha : 0 ≤ catI a
  case neg =>
    rw [if_neg ha]
    have : stepE q (a :: ts) = none := by
      rcases ts with _ | ⟨p, _ | ⟨b, _ | ⟨y, _ | ⟨c, r⟩⟩⟩⟩ <;> first | rfl | (simp only [stepE]; rw [if_neg (fun h => ha h.2.2.1)])
    rw [this]
  rw [if_pos ha]
  simp only []
  rcases ts with _ | ⟨p, ts⟩
  · rw [takeT_nil]; rfl
  rw [takeT_cons]
  by_cases hp : p = sPlu
  case neg =>
    rw [if_neg hp, if_neg (by simp)]
    have : stepE q (a :: p :: ts) = none := by
      rcases ts with _ | ⟨b, _ | ⟨y, _ | ⟨c, r⟩⟩⟩ <;> first | rfl | (simp only [stepE]; rw [if_neg (fun h => hp h.1)])
    rw [this]
  rw [if_pos hp, if_pos rfl]
  simp only []
  rcases ts with _ | ⟨b, ts⟩
  · rw [catT_nil]; rfl
  rw [catT_I]
  by_cases hb : 0 ≤ catI b
  case neg =>
    rw [if_neg hb]
    have : stepE q (a :: p :: b :: ts) = none := by
      rcases ts with _ | ⟨y, _ | ⟨c, r⟩⟩ <;> first | rfl | (simp only [stepE]; rw [if_neg (fun h => hb h.2.2.2.1)])
    rw [this]
  rw [if_pos hb]
  simp only []
  rcases ts with _ | ⟨y, ts⟩
  · rw [takeT_nil, if_neg (by simp)]; rfl
  rw [takeT_cons]
  by_cases hy : y = sCol
  case neg =>
    rw [if_neg hy, if_neg (by simp)]
    have : stepE q (a :: p :: b :: y :: ts) = none := by
      rcases ts with _ | ⟨c, r⟩ <;> first | rfl | (simp only [stepE]; rw [if_neg (fun h => hy h.2.1)])
    rw [this]
  rw [if_pos hy]
  simp only [true_and]
  rcases ts with _ | ⟨c, r⟩
  · rw [catT_nil]
    split <;> rfl
  rw [catT_I]
  simp only [stepE]
  by_cases hv : q.getD ((catI a).toNat * 6 + (catI b).toNat) 0 = 0
  · simp only [if_pos hv]
    by_cases hc : 0 ≤ catI c
    · rw [if_pos hc, if_pos ⟨hp, hy, ha, hb, hc⟩]
    · rw [if_neg hc, if_neg (fun h => hc h.2.2.2.2)]
  · simp only [if_neg hv]
    split <;> (try split) <;> first | rfl | simp_all
theorem six_of {a b c : ByteArray} (h1 : 0 ≤ catI a) (h2 : 0 ≤ catI b) (h3 : 0 ≤ catI c) : six ⟨catI a, catI b, catI c⟩ := ⟨h1, (catI_lt a).2, h2, (catI_lt b).2, h3, (catI_lt c).2⟩
/-- The two readings go together. -/
def Agree (A : Option (List Int)) (B : Option (List S52)) : Prop :=
  match A, B with
  | none, none => True
  | some q, some o => RepQ o q
  | _, _ => False
theorem ent_ref : ∀ (k : Nat) (ts : List ByteArray) (q : List Int) (out : List S52), ts.length < k → RepQ out q → Agree (endE (entT k q ts)) (refGo out (splA sSem [] ts)) := by
  intro k
  induction k with
  | zero => intro ts q out h; omega
  | succ k ih =>
    intro ts q out hk hR
    obtain ⟨u, hu, hx⟩ := spl_head sSem ts []
    rw [List.nil_append] at hx
    rw [entT_step]
    cases hs : stepE q ts with
    | none =>
      have href : refGo out (splA sSem [] ts) = none := by
        have key : ∀ ps, refGo out (u :: ps) = none := by
          intro ps
          rw [refGo]
          cases h5 : ent5 u with
          | none => rfl
          | some e =>
            simp only []
            rw [if_pos]
            obtain ⟨a, p, b, y, c, rfl⟩ : ∃ a p b y c, u = [a, p, b, y, c] := by
              rcases u with _ | ⟨a, _ | ⟨b, _ | ⟨c, _ | ⟨d, _ | ⟨e, _ | ⟨f, l⟩⟩⟩⟩⟩⟩ <;> first | exact ⟨_, _, _, _, _, rfl⟩ | (simp [ent5] at h5)
            simp only [ent5] at h5
            split at h5
            · rename_i hc
              cases h5
              obtain ⟨r, rfl⟩ : ∃ r, ts = a :: p :: b :: y :: c :: r := by
                rcases hx with ⟨rfl, _⟩ | ⟨r, rfl, _⟩
                · exact ⟨[], rfl⟩
                · exact ⟨_, rfl⟩
              simp only [stepE] at hs
              rw [if_pos hc] at hs
              split at hs
              · cases hs
              · rename_i hv
                have hva := hR.val (catI a).toNat (catI b).toNat (by have := catI_lt a; omega) (by have := catI_lt b; omega)
                rw [Int.toNat_of_nonneg hc.2.2.1, Int.toNat_of_nonneg hc.2.2.2.1] at hva
                rw [hva] at hv
                cases ha : out.any fun r => decide (r.f0 = catI a) && decide (r.f1 = catI b) with
                | true => rfl
                | false => exact absurd ((val_none hR.rows).2 ha) hv
            · cases h5
        rcases hx with ⟨_, e⟩ | ⟨r, _, e⟩ <;> rw [e] <;> exact key _
      rw [href]
      trivial
    | some er =>
      obtain ⟨e, r⟩ := er
      obtain ⟨a, p, b, y, c, rfl, hc, hv, rfl⟩ : ∃ a p b y c, ts = a :: p :: b :: y :: c :: r ∧ (p = sPlu ∧ y = sCol ∧ 0 ≤ catI a ∧ 0 ≤ catI b ∧ 0 ≤ catI c) ∧ q.getD ((catI a).toNat * 6 + (catI b).toNat) 0 = 0 ∧ e = ⟨catI a, catI b, catI c⟩ := by
        rcases ts with _ | ⟨a, _ | ⟨p, _ | ⟨b, _ | ⟨y, _ | ⟨c, r'⟩⟩⟩⟩⟩ <;> simp only [stepE] at hs
        all_goals first | cases hs | skip
        split at hs
        · rename_i hc
          split at hs
          · rename_i hv
            cases hs
            exact ⟨_, _, _, _, _, rfl, hc, hv, rfl⟩
          · cases hs
        · cases hs
      obtain ⟨hp, hy, ha, hb, hc⟩ := hc
      have hva := hR.val (catI a).toNat (catI b).toNat (by have := catI_lt a; omega) (by have := catI_lt b; omega)
      rw [Int.toNat_of_nonneg ha, Int.toNat_of_nonneg hb, hv] at hva
      have hn := (val_none hR.rows).1 hva.symm
      have hR2 := rep_add hR (six_of ha hb hc) hn
      have no5 : ∀ x ∈ [a, p, b, y, c], x ≠ sSem := by
        intro x hx e
        subst e
        simp only [List.mem_cons, List.not_mem_nil, or_false] at hx
        have c0 := cat_sem
        rcases hx with rfl | rfl | rfl | rfl | rfl
        · omega
        · exact neSC.1 hp
        · omega
        · exact neSC.2 hy
        · omega
      have e5 : ent5 [a, p, b, y, c] = some ⟨catI a, catI b, catI c⟩ := by simp only [ent5]; rw [if_pos ⟨hp, hy, ha, hb, hc⟩]
      have hsp : ∀ t : List ByteArray, splA sSem [] (a :: p :: b :: y :: c :: t) = splA sSem [a, p, b, y, c] t := by
        intro t
        have g := fun x hx => no5 x hx
        rw [splA, if_neg (g a (by simp)), splA, if_neg (g p (by simp)), splA, if_neg (g b (by simp)), splA, if_neg (g y (by simp)), splA, if_neg (g c (by simp))]
        rfl
      rw [hsp]
      simp only []
      rcases r with _ | ⟨z, r⟩
      · rw [takeT_nil, if_neg (by simp), splA, refGo, e5]
        simp only []
        rw [if_neg (by rw [show (out.any fun r => decide (r.f0 = catI a) && decide (r.f1 = catI b)) = out.any (hit (catI a) (catI b)) from rfl, hn]; simp)]
        exact hR2
      · rw [takeT_cons, splA]
        by_cases hz : z = sSem
        · rw [if_pos hz, if_pos rfl, if_pos hz, refGo, e5]
          simp only []
          rw [if_neg (by rw [show (out.any fun r => decide (r.f0 = catI a) && decide (r.f1 = catI b)) = out.any (hit (catI a) (catI b)) from rfl, hn]; simp)]
          exact ih r _ _ (by simp only [List.length_cons] at hk; omega) hR2
        · rw [if_neg hz, if_neg (by simp), if_neg hz]
          obtain ⟨u, hu2, hx2⟩ := spl_head sSem r ([a, p, b, y, c] ++ [z])
          have key : ∀ ps, refGo out (([a, p, b, y, c] ++ [z] ++ u) :: ps) = none := by intro ps; rfl
          have href : refGo out (splA sSem ([a, p, b, y, c] ++ [z]) r) = none := by
            rcases hx2 with ⟨_, e⟩ | ⟨r', _, e⟩ <;> rw [e] <;> exact key _
          rw [href]
          trivial
theorem rows_agree (s : ByteArray) : entE s = (rowsF s).2 ∧ (entE s = 0 → RepQ (rowsF s).1 ((entR s).getD noneI)) := by
  unfold entE rowsF entR
  by_cases hs : 1024 < s.size
  · rw [if_pos hs, if_pos hs, if_pos hs]
    exact ⟨rfl, fun h => by omega⟩
  · rw [if_neg hs, if_neg hs, if_neg hs, toks_L]
    cases ht : tokL s.data.toList with
    | none => exact ⟨rfl, fun h => by simp at h⟩
    | some ts =>
      simp only [Option.map_some]
      by_cases h0 : ts = []
      · subst h0
        exact ⟨rfl, fun _ => rep0⟩
      · rw [if_neg h0]
        have e : entL (ts.map mkS) = entT ((ts.map mkS).length + 1) noneI (ts.map mkS) := by rw [entL, if_neg (by simpa using h0)]
        have ha := ent_ref ((ts.map mkS).length + 1) (ts.map mkS) noneI [] (Nat.lt_succ_self _) rep0
        rw [← e] at ha
        have hh : ∀ (A : Option (List Int)) (B : Option (List S52)), Agree A B → ((if A.isSome = true then (0 : Int) else 90) = (finS B).2 ∧ ((if A.isSome = true then (0 : Int) else 90) = 0 → RepQ (finS B).1 (A.getD noneI))) := by
          intro A B this
          cases A with
          | none => cases B with
            | none => exact ⟨rfl, fun h => by simp at h⟩
            | some o => exact absurd this (by simp [Agree])
          | some q => cases B with
            | none => exact absurd this (by simp [Agree])
            | some o => exact ⟨rfl, fun _ => this⟩
        exact hh _ _ ha
def pickL' (out : List S52) (a b : Int) : Int × Int := match out.find? (hit a b) with | none => (b, 0) | some r => (r.f2, 0)
theorem pick_l0 (out : List S52) (a b : Int) (ho : out.length ≤ 4096) : ∀ (r j k : Nat), out.length - j ≤ r → j ≤ out.length → r + 1 ≤ k →
    quipuref09_PickRange.l0 k a b out (j : Int) = some (pickL' (out.drop j) a b) := by
  intro r
  induction r with
  | zero =>
    intro j k hr hj hk
    obtain rfl : j = out.length := by omega
    obtain ⟨k, rfl⟩ : ∃ k', k = k' + 1 := ⟨k - 1, by omega⟩
    rw [quipuref09_PickRange.l0, if_neg (by omega), List.drop_length]
    rfl
  | succ r ih =>
    intro j k hr hj hk
    rcases Nat.lt_or_ge j out.length with hlt | hge
    case inr => exact ih j k (by omega) hj (by omega)
    obtain ⟨k, rfl⟩ : ∃ k', k = k' + 1 := ⟨k - 1, by omega⟩
    have hg : rd_T52 out (j : Int) = out[j] := by simp [rd_T52, List.getD_eq_getElem?_getD, hlt]
    rw [quipuref09_PickRange.l0, if_pos (by omega), if_pos (by omega), hg, wrapI1 j (by omega), ih (j + 1) k (by omega) (by omega) (by omega), List.drop_eq_getElem_cons hlt]
    unfold pickL'
    rw [List.find?_cons]
    unfold hit
    by_cases h0 : out[j].f0 = a
    · rw [if_pos h0, decide_eq_true h0, Bool.true_and]
      by_cases h1 : out[j].f1 = b
      · rw [if_pos h1, decide_eq_true h1]
      · rw [if_neg h1, decide_eq_false h1]
    · rw [if_neg h0, decide_eq_false h0, Bool.false_and]
theorem ref_len : ∀ (ps : List (List ByteArray)) (out o : List S52), refGo out ps = some o → o.length ≤ out.length + ps.length
  | [], out, o, h => by cases h; simp
  | p :: ps, out, o, h => by
    rw [refGo] at h
    split at h
    · cases h
    · split at h
      · cases h
      · have := ref_len ps _ o h
        rw [List.length_append, List.length_singleton] at this
        simp only [List.length_cons]; omega
theorem rowsF_len (s : ByteArray) : (rowsF s).1.length ≤ 4096 := by
  unfold rowsF
  by_cases hs : 1024 < s.size
  · rw [if_pos hs]; simp
  · rw [if_neg hs]
    cases ht : tokL s.data.toList with
    | none => simp
    | some ts =>
      simp only []
      split
      · simp
      · have hlen : ts.length ≤ s.size := by
          have := toks_len (k := s.size + 1) (s := s) (ts := ts.map mkS) (by rw [toks_L, ht]; rfl)
          rwa [List.length_map] at this
        have hpl := spl_len sSem (ts.map mkS) []
        rw [List.length_map] at hpl
        cases hr : refGo [] (splA sSem [] (ts.map mkS)) with
        | none => simp [finS]
        | some o =>
          have := ref_len _ _ _ hr
          simp only [finS]
          simp only [List.length_nil] at this
          omega
theorem pickRange_eq (s : ByteArray) (a b : Int) (k : Nat) (hk : 1400000 ≤ k) : quipuref09_PickRange.f k s a b = some (rangeF s a b) := by
  unfold quipuref09_PickRange.f rangeF
  rw [readRanges_eq s k hk]
  obtain ⟨h1, h2⟩ := rows_agree s
  simp only [Option.bind_some]
  rw [← h1]
  by_cases h0 : entE s = 0
  · rw [if_pos h0, if_neg (not_not_intro h0)]
    have hR := h2 h0
    have hl := rowsF_len s
    generalize (rowsF s).1 = out at hR hl ⊢
    generalize (entR s).getD noneI = q at hR ⊢
    by_cases hab : a < 0 ∨ 6 ≤ a ∨ b < 0 ∨ 6 ≤ b
    · rw [if_pos hab]
      by_cases c1 : a < 0
      · rw [if_pos c1]
      · rw [if_neg c1]
        by_cases c2 : a > 5
        · rw [if_pos c2]
        · rw [if_neg c2]
          by_cases c3 : b < 0
          · rw [if_pos c3]
          · rw [if_neg c3, if_pos (by omega)]
    · rw [if_neg hab, if_neg (by omega), if_neg (by omega), if_neg (by omega), if_neg (by omega)]
      have := pick_l0 out a b hl out.length 0 k (by omega) (Nat.zero_le _) (by omega)
      rw [List.drop_zero] at this
      refine this.trans ?_
      have hv := hR.val a.toNat b.toNat (by omega) (by omega)
      rw [Int.toNat_of_nonneg (by omega), Int.toNat_of_nonneg (by omega)] at hv
      rw [hv]
      unfold pickL'
      cases hf : out.find? (hit a b) with
      | none => rw [if_neg (show ¬ 0 < valQ none by show ¬ (0 : Int) < 0; omega)]
      | some r =>
        have h3 := hR.rows r (List.mem_of_find?_eq_some hf)
        rw [if_pos (show 0 < valQ (some r) by show (0 : Int) < 1 + r.f2; have := h3.2.2.2.2.1; omega)]
        show some (r.f2, (0 : Int)) = some (wrap64 (1 + r.f2 - 1), 0)
        have : wrap64 (1 + r.f2 - 1) = r.f2 := by have := h3.2.2.2.2; unfold wrap64; omega
        rw [this]
  · rw [if_neg h0, if_pos h0]
end Go.Proofs.YtnkggincckdoiaaDoor.Q
