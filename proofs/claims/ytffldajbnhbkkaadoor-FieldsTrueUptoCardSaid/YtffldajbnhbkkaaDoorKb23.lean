import Derived.Test.YtffldajbnhbkkaaDoorKb17
namespace Go.Proofs.YtffldajbnhbkkaaDoor.Q
open Go.RowKit Go.Proofs.YtffldajbnhbkkaaDoorW.PrintWords Go.Proofs.YtffldajbnhbkkaaDoorW.PrintLast Go.Proofs.YtffldajbnhbkkaaDoorW.PrintMore
set_option linter.unusedVariables false
set_option linter.unusedSimpArgs false
theorem slenF (s : ByteArray) : s.data.toList.length = s.size := by rw [Array.length_toList]; rfl
theorem nilF (s : ByteArray) : s.toList = ([] : List UInt8) ↔ s.size = 0 := by rw [ByteArray.toList_eq s, ← List.length_eq_zero_iff, slenF]
def stOf (x6 x7 : Int) : Option (Int × Int) := if x6 < 0 then none else some (x6, x7)
def flush : Option (Int × Int) → List S31
  | none => []
  | some (a, b) => [⟨2, a, b⟩]
def firstOf (n : Int) : Option (Int × Int) → Int
  | none => n
  | some (a, _) => a
def evs : List S43 → Int → Option (Int × Int) → List S31
  | [], _, st => flush st
  | p :: ps, n, st => if p.f0.size = 0 then evs ps n st
      else if p.f1 = 2 then evs ps (n + p.f0.size) (some (firstOf n st, n + p.f0.size))
      else if p.f1 = 3 then (⟨3, n, n + p.f0.size⟩ : S31) :: evs ps (n + p.f0.size) st
      else flush st ++ ((if p.f1 = 0 then [] else [(⟨p.f1, n, n + p.f0.size⟩ : S31)]) ++ evs ps (n + p.f0.size) none)
def okP (p : S43) : Bool := decide (0 ≤ p.f1) && decide (p.f1 ≤ 17) && Lib.validD p.f0.data.toList
def textP (ps : List S43) : List UInt8 := ps.flatMap (·.f0.data.toList)
def putsL (sp : List S31) (xs : List S31) : List S31 := xs.foldl (HP.putL lt31) sp
def refR (ps : List S43) (T : List UInt8) (sp : List S31) (st : Option (Int × Int)) : ByteArray × List S31 × Int :=
  if ps.all okP = true then (mkS (T ++ textP ps), putsL sp (evs ps T.length st), 0) else (⟨#[]⟩, [], 170)
def bb (l : List UInt8) : List Int := l.map fun b => (b.toNat : Int)
theorem bb_app (l m : List UInt8) : bb (l ++ m) = bb l ++ bb m := List.map_append
theorem bb_len (l : List UInt8) : (bb l).length = l.length := List.length_map ..
theorem bb_bytes (s : ByteArray) : bb s.data.toList = bytesOf s := rfl
theorem bb_back (l : List UInt8) : strOfNums (bb l) = mkS l := by
  unfold strOfNums mkS bb
  rw [List.map_map]
  congr 2
  conv => rhs; rw [← List.map_id l]
  refine List.map_congr_left (fun b _ => ?_)
  simp
theorem put_len (l : List S31) (x : S31) : (HP.putL lt31 l x).length = l.length + 1 := (HP.put_perm lt31 l x).length_eq
theorem valid_f (s : ByteArray) (h : s.size ≤ 9223372036854775807) : utf8_ValidString.f s = some (Lib.validD s.data.toList) := by unfold utf8_ValidString.f; rw [if_pos h]
/-- Whether the whole digits that go on end here. -/
def ends (x6 x9 : Int) : Bool := decide (0 ≤ x6) && (!(x9 == 2) && !(x9 == 3))
theorem ref_j2 (l : List S43) (T : List Int) (sp : List S31) (x6 x7 x8 x9 : Int) (hsp : sp.length ≤ 1000000) (k : Nat) (hk : sp.length < k) :
    quipuref17_Build.j2 (k + 2) l T sp x6 x7 x8 x9 = quipuref17_Build.j4 k l T (if ends x6 x9 = true then HP.putL lt31 sp ⟨2, x6, x7⟩ else sp) (if ends x6 x9 = true then -1 else x6) x7 x8 x9 := by
  have j3f : quipuref17_Build.j3 (k + 1) l T sp x6 x7 x8 x9 false = quipuref17_Build.j4 k l T sp x6 x7 x8 x9 := by
    simp only [quipuref17_Build.j3]; rfl
  have j3t : quipuref17_Build.j3 (k + 1) l T sp x6 x7 x8 x9 true = quipuref17_Build.j4 k l T (HP.putL lt31 sp ⟨2, x6, x7⟩) (-1) x7 x8 x9 := by
    have hp := put_p sp ⟨2, x6, x7⟩ hsp k hk
    simp only [quipuref17_Build.j3]
    rw [if_pos trivial]
    have hp2 : quipuref17_put.f k sp 2 x6 x7 = some (HP.putL lt31 sp ⟨2, x6, x7⟩) := hp
    rw [hp2, Option.bind_some]
  simp only [quipuref17_Build.j2]
  unfold ends
  by_cases h : x6 ≥ 0
  · rw [if_pos h, decide_eq_true h]
    by_cases h2 : x9 = 2
    · rw [if_pos h2, j3f, beq_iff_eq.2 h2]; rfl
    · rw [if_neg h2, beq_eq_false_iff_ne.2 h2]
      by_cases h3 : x9 = 3
      · rw [beq_iff_eq.2 h3, show (x9 != 3) = false from by rw [h3]; rfl, j3f]; rfl
      · rw [beq_eq_false_iff_ne.2 h3, bne_iff_ne.2 h3, j3t]; rfl
  · rw [if_neg h, j3f, decide_eq_false (by omega)]; rfl
theorem textP_cons (p : S43) (ps : List S43) : textP (p :: ps) = p.f0.data.toList ++ textP ps := rfl
theorem puts_app (sp xs ys : List S31) : putsL sp (xs ++ ys) = putsL (putsL sp xs) ys := List.foldl_append ..
theorem puts_cons (sp : List S31) (x : S31) (xs : List S31) : putsL sp (x :: xs) = putsL (HP.putL lt31 sp x) xs := rfl
theorem ref_bad {p : S43} (h : okP p = false) (ps : List S43) (T : List UInt8) (sp : List S31) (st : Option (Int × Int)) : refR (p :: ps) T sp st = (⟨#[]⟩, [], 170) := by
  unfold refR
  rw [List.all_cons, h, Bool.false_and, if_neg (by simp)]
/-- The end of whole digits, as_ putting tells it. -/
theorem ends_off (sp : List S31) (x6 x7 x9 : Int) (h : x9 ≠ 2 ∧ x9 ≠ 3) : (if ends x6 x9 = true then HP.putL lt31 sp ⟨2, x6, x7⟩ else sp) = putsL sp (flush (stOf x6 x7)) ∧ stOf (if ends x6 x9 = true then -1 else x6) x7 = none ∧ (if ends x6 x9 = true then -1 else x6) < 0 := by
  unfold ends stOf
  rw [beq_eq_false_iff_ne.2 h.1, beq_eq_false_iff_ne.2 h.2]
  by_cases c : 0 ≤ x6
  · rw [decide_eq_true c, if_neg (show ¬ x6 < 0 by omega)]
    exact ⟨rfl, rfl, show (-1 : Int) < 0 by decide⟩
  · have c' : x6 < 0 := by omega
    rw [decide_eq_false c, if_pos c']
    refine ⟨rfl, ?_, c'⟩
    show (if x6 < 0 then none else some (x6, x7)) = none
    rw [if_pos c']
theorem ends_on (x6 x9 : Int) (h : x9 = 2 ∨ x9 = 3) : ends x6 x9 = false := by
  unfold ends
  rcases h with rfl | rfl
  · simp
  · simp
theorem ref_l0 (l : List S43) (hl : l.length ≤ 400000) : ∀ (d i : Nat) (T : List UInt8) (sp : List S31) (x6 x7 : Int), l.length - i = d → i ≤ l.length → sp.length ≤ 2 * i → T.length + (textP (l.drop i)).length ≤ 2000000 →
    Ev (fun k => quipuref17_Build.l0 k l (bb T) sp x6 x7 (i : Int)) (refR (l.drop i) T sp (stOf x6 x7)) := by
  intro d
  induction d with
  | zero =>
    intro i T sp x6 x7 hd hi hsp hT
    have e : l.drop i = [] := List.drop_of_length_le (by omega)
    have hi2 : i = l.length := by omega
    obtain ⟨h1, _, _⟩ := ends_off sp x6 x7 0 ⟨by decide, by decide⟩
    have hr : refR (l.drop i) T sp (stOf x6 x7) = (mkS T, putsL sp (flush (stOf x6 x7)), 0) := by
      rw [e]
      unfold refR
      rw [if_pos (by rfl)]
      show (mkS (T ++ []), _, _) = _
      rw [List.append_nil]; rfl
    rw [hr]
    have hsp2 : sp.length ≤ 1000000 := by omega
    refine ⟨sp.length + 10, fun k hk => ?_⟩
    obtain ⟨k, rfl⟩ : ∃ m, k = m + 4 := ⟨k - 4, by omega⟩
    have j := ref_j2 l (bb T) sp x6 x7 (i : Int) 0 hsp2 (k + 1) (by omega)
    show quipuref17_Build.l0 (k + 4) l (bb T) sp x6 x7 (i : Int) = _
    simp only [quipuref17_Build.l0]
    rw [if_pos (by omega), if_neg (by omega), j]
    simp only [quipuref17_Build.j4]
    rw [if_pos (by omega), bb_back, h1]
  | succ d ih =>
    intro i T sp x6 x7 hd hi hsp hT
    have hlt : i < l.length := by omega
    have e : l.drop i = l[i] :: l.drop (i + 1) := List.drop_eq_getElem_cons hlt
    rw [e] at hT ⊢
    rw [textP_cons, List.length_append, slenF] at hT
    have g := rd43 l i hlt
    have u1 : (i : Int) ≤ (l.length : Int) := by omega
    have u2 : (i : Int) < (l.length : Int) := by omega
    have u3 : (0 : Int) ≤ (i : Int) := by omega
    have u4 : wrap64 ((i : Int) + 1) = ((i + 1 : Nat) : Int) := wrapS i 10000000 (by omega) (by omega)
    have hv := valid_f l[i].f0 (by omega)
    have bad : ∀ k, quipuref17_Build.j1 (k + 1) l (bb T) sp x6 x7 (i : Int) l[i].f1 true = some (⟨#[]⟩, [], 170) := by
      intro k
      simp only [quipuref17_Build.j1]; rfl
    by_cases c1 : l[i].f1 < 0
    · rw [ref_bad (by unfold okP; rw [decide_eq_false (by omega)]; rfl)]
      refine Ev.now 2 (fun k => ?_)
      simp only [quipuref17_Build.l0]
      rw [if_pos u1, if_pos u2, if_pos u3, g, if_pos c1, bad]
    · by_cases c2 : l[i].f1 > 17
      · rw [ref_bad (by unfold okP; rw [decide_eq_false (show ¬ l[i].f1 ≤ 17 by omega), Bool.and_false]; rfl)]
        refine Ev.now 2 (fun k => ?_)
        simp only [quipuref17_Build.l0]
        rw [if_pos u1, if_pos u2, if_pos u3, g, if_neg c1, if_pos c2, bad]
      · cases hval : Lib.validD l[i].f0.data.toList with
        | false =>
          rw [ref_bad (by unfold okP; rw [hval, Bool.and_false])]
          refine Ev.now 2 (fun k => ?_)
          simp only [quipuref17_Build.l0]
          rw [if_pos u1, if_pos u2, if_pos u3, g, if_neg c1, if_neg c2, hv, Option.bind_some, hval, Bool.not_false, bad]
        | true =>
          have hok : okP l[i] = true := by unfold okP; rw [hval, decide_eq_true (show 0 ≤ l[i].f1 by omega), decide_eq_true (show l[i].f1 ≤ 17 by omega)]; rfl
          have hall : (l[i] :: l.drop (i + 1)).all okP = (l.drop (i + 1)).all okP := by rw [List.all_cons, hok, Bool.true_and]
          by_cases c3 : l[i].f0.size = 0
          · have hr : refR (l[i] :: l.drop (i + 1)) T sp (stOf x6 x7) = refR (l.drop (i + 1)) T sp (stOf x6 x7) := by
              have h0 : l[i].f0.data.toList = [] := List.length_eq_zero_iff.1 (by rw [slenF]; exact c3)
              unfold refR
              rw [hall, textP_cons, h0, List.nil_append]
              have : evs (l[i] :: l.drop (i + 1)) (T.length : Int) (stOf x6 x7) = evs (l.drop (i + 1)) (T.length : Int) (stOf x6 x7) := by
                conv => lhs; unfold evs
                rw [if_pos c3]
              rw [this]
            rw [hr]
            refine Ev.step (ih (i + 1) T sp x6 x7 (by omega) (by omega) (by omega) (by omega)) 2 (fun k => ?_)
            simp only [quipuref17_Build.l0, quipuref17_Build.j1]
            rw [if_pos u1, if_pos u2, if_pos u3, g, if_neg c1, if_neg c2, hv, Option.bind_some, hval, if_neg (by simp), if_pos u3, if_pos u2, if_pos ((nilF _).2 c3), u4]
          · have hsp2 : sp.length ≤ 1000000 := by omega
            have hz : (bb T).length + l[i].f0.size < 140737488355328 := by rw [bb_len]; omega
            have hy : bb T ++ bytesOf l[i].f0 = bb (T ++ l[i].f0.data.toList) := by rw [bb_app, bb_bytes]
            have hyl : ((bb (T ++ l[i].f0.data.toList)).length : Int) = (T.length : Int) + (l[i].f0.size : Int) := by rw [bb_len, List.length_append, slenF]; omega
            have hTl : ((T ++ l[i].f0.data.toList).length : Int) = (T.length : Int) + (l[i].f0.size : Int) := by rw [List.length_append, slenF]; omega
            have hT2 : (T ++ l[i].f0.data.toList).length + (textP (l.drop (i + 1))).length ≤ 2000000 := by rw [List.length_append, slenF]; omega
            have hbl : ((bb T).length : Int) = (T.length : Int) := by rw [bb_len]
            have hne : ¬ l[i].f0.toList = [] := fun h => c3 ((nilF _).1 h)
            -- from the beginning to the place behind the test of whole digits
            have head : ∀ k, sp.length < k → quipuref17_Build.l0 (k + 4) l (bb T) sp x6 x7 (i : Int) = quipuref17_Build.j4 k l (bb T) (if ends x6 l[i].f1 = true then HP.putL lt31 sp ⟨2, x6, x7⟩ else sp) (if ends x6 l[i].f1 = true then -1 else x6) x7 (i : Int) l[i].f1 := by
              intro k hk
              have j := ref_j2 l (bb T) sp x6 x7 (i : Int) l[i].f1 hsp2 k hk
              simp only [quipuref17_Build.l0, quipuref17_Build.j1]
              rw [if_pos u1, if_pos u2, if_pos u3, g, if_neg c1, if_neg c2, hv, Option.bind_some, hval, if_neg (by simp), if_pos u3, if_pos u2, if_neg hne, j]
            have hres : ∀ (sp' : List S31) (st' : Option (Int × Int)), putsL sp (evs (l[i] :: l.drop (i + 1)) (T.length : Int) (stOf x6 x7)) = putsL sp' (evs (l.drop (i + 1)) ((T ++ l[i].f0.data.toList).length : Int) st') → refR (l[i] :: l.drop (i + 1)) T sp (stOf x6 x7) = refR (l.drop (i + 1)) (T ++ l[i].f0.data.toList) sp' st' := by
              intro sp' st' h
              unfold refR
              rw [hall, textP_cons, h, List.append_assoc]
            by_cases f2 : l[i].f1 = 2
            · have hen : ends x6 l[i].f1 = false := ends_on x6 _ (Or.inl f2)
              rw [hres sp (some (firstOf (T.length : Int) (stOf x6 x7), (T.length : Int) + (l[i].f0.size : Int))) (by
                conv => lhs; unfold evs
                rw [if_neg c3, if_pos f2, hTl])]
              by_cases c6 : x6 < 0
              · have hst : stOf x6 x7 = none := by unfold stOf; rw [if_pos c6]
                obtain ⟨K, hK⟩ := ih (i + 1) (T ++ l[i].f0.data.toList) sp (T.length : Int) ((T.length : Int) + (l[i].f0.size : Int)) (by omega) (by omega) (by omega) hT2
                have hst2 : stOf (T.length : Int) ((T.length : Int) + (l[i].f0.size : Int)) = some (firstOf (T.length : Int) (stOf x6 x7), (T.length : Int) + (l[i].f0.size : Int)) := by rw [hst]; unfold stOf; rw [if_neg (by omega)]; rfl
                rw [hst2] at hK
                refine ⟨K + sp.length + 10, fun k hk => ?_⟩
                obtain ⟨k, rfl⟩ : ∃ m, k = m + 5 := ⟨k - 5, by omega⟩
                have e1 := hK k (by omega)
                show quipuref17_Build.l0 (k + 5) l (bb T) sp x6 x7 (i : Int) = _
                rw [show k + 5 = (k + 1) + 4 from rfl, head (k + 1) (by omega), hen]
                simp only [Bool.false_eq_true, ↓reduceIte, quipuref17_Build.j4]
                rw [if_neg (by omega), if_pos u3, if_pos u2, g, if_pos hz, Option.bind_some, if_pos f2, if_pos c6, hy, hyl, hbl, u4]
                exact e1
              · have hst : stOf x6 x7 = some (x6, x7) := by unfold stOf; rw [if_neg c6]
                obtain ⟨K, hK⟩ := ih (i + 1) (T ++ l[i].f0.data.toList) sp x6 ((T.length : Int) + (l[i].f0.size : Int)) (by omega) (by omega) (by omega) hT2
                have hst2 : stOf x6 ((T.length : Int) + (l[i].f0.size : Int)) = some (firstOf (T.length : Int) (stOf x6 x7), (T.length : Int) + (l[i].f0.size : Int)) := by rw [hst]; unfold stOf; rw [if_neg c6]; rfl
                rw [hst2] at hK
                refine ⟨K + sp.length + 10, fun k hk => ?_⟩
                obtain ⟨k, rfl⟩ : ∃ m, k = m + 5 := ⟨k - 5, by omega⟩
                have e1 := hK k (by omega)
                show quipuref17_Build.l0 (k + 5) l (bb T) sp x6 x7 (i : Int) = _
                rw [show k + 5 = (k + 1) + 4 from rfl, head (k + 1) (by omega), hen]
                simp only [Bool.false_eq_true, ↓reduceIte, quipuref17_Build.j4]
                rw [if_neg (by omega), if_pos u3, if_pos u2, g, if_pos hz, Option.bind_some, if_pos f2, if_neg c6, hy, hyl, u4]
                exact e1
            · by_cases f3 : l[i].f1 = 3
              · have hen : ends x6 l[i].f1 = false := ends_on x6 _ (Or.inr f3)
                rw [hres (HP.putL lt31 sp ⟨3, (T.length : Int), (T.length : Int) + (l[i].f0.size : Int)⟩) (stOf x6 x7) (by
                  conv => lhs; unfold evs
                  rw [if_neg c3, if_neg f2, if_pos f3, hTl, puts_cons])]
                obtain ⟨K, hK⟩ := ih (i + 1) (T ++ l[i].f0.data.toList) (HP.putL lt31 sp ⟨3, (T.length : Int), (T.length : Int) + (l[i].f0.size : Int)⟩) x6 x7 (by omega) (by omega) (by rw [put_len]; omega) hT2
                refine ⟨K + sp.length + 10, fun k hk => ?_⟩
                obtain ⟨k, rfl⟩ : ∃ m, k = m + 5 := ⟨k - 5, by omega⟩
                have e1 := hK k (by omega)
                have hp : quipuref17_put.f k sp l[i].f1 (T.length : Int) ((T.length : Int) + (l[i].f0.size : Int)) = some (HP.putL lt31 sp ⟨3, (T.length : Int), (T.length : Int) + (l[i].f0.size : Int)⟩) := by
                  rw [f3]; exact put_p sp ⟨3, (T.length : Int), (T.length : Int) + (l[i].f0.size : Int)⟩ hsp2 k (by omega)
                show quipuref17_Build.l0 (k + 5) l (bb T) sp x6 x7 (i : Int) = _
                rw [show k + 5 = (k + 1) + 4 from rfl, head (k + 1) (by omega), hen]
                simp only [Bool.false_eq_true, ↓reduceIte, quipuref17_Build.j4]
                rw [if_neg (by omega), if_pos u3, if_pos u2, g, if_pos hz, Option.bind_some, if_neg f2, if_neg (show ¬ l[i].f1 = 0 by omega), hy, hyl, hbl, hp, Option.bind_some, u4]
                exact e1
              · obtain ⟨h1, h2, h3⟩ := ends_off sp x6 x7 l[i].f1 ⟨f2, f3⟩
                have hfl : (flush (stOf x6 x7)).length ≤ 1 := by
                  unfold stOf; split <;> simp [flush]
                have hpl : (putsL sp (flush (stOf x6 x7))).length ≤ sp.length + 1 := by
                  unfold stOf
                  split
                  · exact Nat.le_succ _
                  · show (HP.putL lt31 sp _).length ≤ _; rw [put_len]; exact Nat.le_refl _
                by_cases f0 : l[i].f1 = 0
                · rw [hres (putsL sp (flush (stOf x6 x7))) none (by
                    conv => lhs; unfold evs
                    rw [if_neg c3, if_neg f2, if_neg f3, if_pos f0, List.nil_append, puts_app, hTl])]
                  obtain ⟨K, hK⟩ := ih (i + 1) (T ++ l[i].f0.data.toList) (putsL sp (flush (stOf x6 x7))) (if ends x6 l[i].f1 = true then -1 else x6) x7 (by omega) (by omega) (by omega) hT2
                  rw [h2] at hK
                  refine ⟨K + sp.length + 10, fun k hk => ?_⟩
                  obtain ⟨k, rfl⟩ : ∃ m, k = m + 5 := ⟨k - 5, by omega⟩
                  have e1 := hK k (by omega)
                  show quipuref17_Build.l0 (k + 5) l (bb T) sp x6 x7 (i : Int) = _
                  rw [show k + 5 = (k + 1) + 4 from rfl, head (k + 1) (by omega), h1]
                  simp only [quipuref17_Build.j4]
                  rw [if_neg (by omega), if_pos u3, if_pos u2, g, if_pos hz, Option.bind_some, if_neg f2, if_pos f0, hy, u4]
                  exact e1
                · rw [hres (HP.putL lt31 (putsL sp (flush (stOf x6 x7))) ⟨l[i].f1, (T.length : Int), (T.length : Int) + (l[i].f0.size : Int)⟩) none (by
                    conv => lhs; unfold evs
                    rw [if_neg c3, if_neg f2, if_neg f3, if_neg f0, puts_app, hTl]; rfl)]
                  obtain ⟨K, hK⟩ := ih (i + 1) (T ++ l[i].f0.data.toList) (HP.putL lt31 (putsL sp (flush (stOf x6 x7))) ⟨l[i].f1, (T.length : Int), (T.length : Int) + (l[i].f0.size : Int)⟩) (if ends x6 l[i].f1 = true then -1 else x6) x7 (by omega) (by omega) (by rw [put_len]; omega) hT2
                  rw [h2] at hK
                  refine ⟨K + sp.length + 10, fun k hk => ?_⟩
                  obtain ⟨k, rfl⟩ : ∃ m, k = m + 5 := ⟨k - 5, by omega⟩
                  have e1 := hK k (by omega)
                  have hp : quipuref17_put.f k (putsL sp (flush (stOf x6 x7))) l[i].f1 (T.length : Int) ((T.length : Int) + (l[i].f0.size : Int)) = some (HP.putL lt31 (putsL sp (flush (stOf x6 x7))) ⟨l[i].f1, (T.length : Int), (T.length : Int) + (l[i].f0.size : Int)⟩) := put_p (putsL sp (flush (stOf x6 x7))) ⟨l[i].f1, (T.length : Int), (T.length : Int) + (l[i].f0.size : Int)⟩ (by omega) k (by omega)
                  show quipuref17_Build.l0 (k + 5) l (bb T) sp x6 x7 (i : Int) = _
                  rw [show k + 5 = (k + 1) + 4 from rfl, head (k + 1) (by omega), h1]
                  simp only [quipuref17_Build.j4]
                  rw [if_neg (by omega), if_pos u3, if_pos u2, g, if_pos hz, Option.bind_some, if_neg f2, if_neg f0, hy, hyl, hbl, hp, Option.bind_some, u4]
                  exact e1
/-- Build, by the document. -/
theorem refBuild_p (l : List S43) (hl : l.length ≤ 400000) (hT : (textP l).length ≤ 2000000) : Ev (fun k => quipuref17_Build.f k l) (refR l [] [] none) := by
  have := ref_l0 l hl l.length 0 [] [] (-1) (-1) (by omega) (Nat.zero_le _) (Nat.zero_le _) (by rw [List.drop_zero]; simpa using hT)
  rw [List.drop_zero] at this
  exact this
end Go.Proofs.YtffldajbnhbkkaaDoor.Q
