import Derived.Test.YtffldajbnhbkkaaDoorKv45
import Derived.Test.YtffldajbnhbkkaaDoorKv46
namespace Go.Proofs.YtffldajbnhbkkaaDoor.Q
open Go.RowKit Go.Proofs.YtffldajbnhbkkaaDoorW.PrintWords Go.Proofs.YtffldajbnhbkkaaDoorW.PrintLast Go.Proofs.YtffldajbnhbkkaaDoorW.PrintMore
set_option linter.unusedVariables false
set_option linter.unusedSimpArgs false
theorem lv_l2 (s : ByteArray) (l : List S31) (hl : l.length ≤ 1000000) (x4 : List S43) (a t : Int) (h0 : 0 ≤ a) (h1 : a ≤ t) (h2 : t ≤ (s.size : Int)) (hx : x4.length < 5864062014805) (r : List S43 × Int) : ∀ (d i : Nat) (f : Int), i + d = l.length →
    Ev (fun k => quipuref17_Leaves.l0 k (x4 ++ [(⟨subS s a t, fieldGo a t (l.drop i) f⟩ : S43)]) t (wrap64 (t + 1)) s l) r → Ev (fun k => quipuref17_Leaves.l2 k x4 a t f (i : Int) s l) r
  | 0, i, f, h, H => by
    rw [List.drop_of_length_le (by omega)] at H
    refine H.step 1 (fun k => ?_)
    show quipuref17_Leaves.l2 (k + 1) x4 a t f (i : Int) s l = _
    conv => lhs; unfold quipuref17_Leaves.l2
    rw [if_neg (by omega), if_pos h0, if_pos h1, if_pos h2, if_pos hx]; rfl
  | d + 1, i, f, h, H => by
    have hi : i < l.length := by omega
    rw [field_step a t l i hi] at H
    refine (lv_l2 s l hl x4 a t h0 h1 h2 hx r d (i + 1) _ (by omega) H).step 1 (fun k => ?_)
    show quipuref17_Leaves.l2 (k + 1) x4 a t f (i : Int) s l = _
    conv => lhs; unfold quipuref17_Leaves.l2
    rw [if_pos (by omega), if_pos (by omega), rd31 l i hi, wrapS i 10000000 (by omega) (by omega)]
    by_cases c1 : l[i].f1 ≤ a
    · rw [if_pos c1, if_pos c1]
      by_cases c2 : l[i].f2 ≥ t
      · rw [if_pos c2, if_pos (show t ≤ l[i].f2 from c2)]
      · rw [if_neg c2, if_neg (show ¬ t ≤ l[i].f2 from c2)]
    · rw [if_neg c1, if_neg c1]
def edgeAt (l : List S31) (t : Int) : Bool := l.any fun x => decide (x.f1 = t) || decide (x.f2 = t)
theorem lv_l1 (s : ByteArray) (l : List S31) (hl : l.length ≤ 1000000) (x4 : List S43) (a t : Int) (r : List S43 × Int) : ∀ (d i : Nat) (b : Bool), i + d = l.length →
    ((b || edgeAt (l.drop i) t) = true → Ev (fun k => quipuref17_Leaves.l2 k x4 a t 0 0 s l) r) → ((b || edgeAt (l.drop i) t) = false → Ev (fun k => quipuref17_Leaves.l0 k x4 a (wrap64 (t + 1)) s l) r) → Ev (fun k => quipuref17_Leaves.l1 k x4 a t b (i : Int) s l) r
  | 0, i, b, h, H1, H2 => by
    rw [List.drop_of_length_le (by omega)] at H1 H2
    cases b with
    | true =>
      refine (H1 rfl).step 1 (fun k => ?_)
      show quipuref17_Leaves.l1 (k + 1) x4 a t true (i : Int) s l = _
      conv => lhs; unfold quipuref17_Leaves.l1
      rw [if_neg (by omega), if_pos rfl]
    | false =>
      refine (H2 rfl).step 1 (fun k => ?_)
      show quipuref17_Leaves.l1 (k + 1) x4 a t false (i : Int) s l = _
      conv => lhs; unfold quipuref17_Leaves.l1
      rw [if_neg (by omega), if_neg (by simp)]
  | d + 1, i, b, h, H1, H2 => by
    have hi : i < l.length := by omega
    have e : edgeAt (l.drop i) t = ((decide (l[i].f1 = t) || decide (l[i].f2 = t)) || edgeAt (l.drop (i + 1)) t) := by
      rw [List.drop_eq_getElem_cons hi]; rfl
    rw [e, ← Bool.or_assoc] at H1 H2
    refine (lv_l1 s l hl x4 a t r d (i + 1) _ (by omega) H1 H2).step 1 (fun k => ?_)
    show quipuref17_Leaves.l1 (k + 1) x4 a t b (i : Int) s l = _
    conv => lhs; unfold quipuref17_Leaves.l1
    rw [if_pos (by omega), wrapS i 10000000 (by omega) (by omega)]
    cases b with
    | true => rw [if_pos rfl, Bool.true_or]
    | false =>
      rw [if_neg (by simp), if_pos (by omega), rd31 l i hi, Bool.false_or]
      by_cases c1 : l[i].f1 = t
      · rw [if_pos c1, decide_eq_true c1, Bool.true_or]
      · rw [if_neg c1, decide_eq_false c1, Bool.false_or]
        by_cases c2 : l[i].f2 = t
        · rw [c2, decide_eq_true rfl, beq_self_eq_true]
        · rw [decide_eq_false c2, beq_eq_false_iff_ne.2 c2]
structure Rest (s : ByteArray) (l : List S31) (a t : Int) (Rm : List Int) : Prop where
  lt : (a :: Rm).Pairwise (· < ·)
  lo : ∀ e ∈ Rm, t ≤ e
  hi : ∀ e ∈ Rm, e ≤ s.size
  is : ∀ e ∈ Rm, e = s.size ∨ edgeAt l e = true
  all : ∀ e, t ≤ e → e ≤ s.size → (e = s.size ∨ edgeAt l e = true) → e ∈ Rm
theorem Rest.on {s : ByteArray} {l : List S31} {a t : Int} {Rm : List Int} (h : Rest s l a t Rm) (hn : t ∉ Rm) : Rest s l a (t + 1) Rm :=
  ⟨h.lt, fun e he => by
    have h1 := h.lo e he
    rcases Int.lt_or_eq_of_le h1 with h2 | h2
    · omega
    · exact absurd (h2 ▸ he) hn, h.hi, h.is, fun e h1 h2 h3 => h.all e (by omega) h2 h3⟩
theorem Rest.cut {s : ByteArray} {l : List S31} {a t : Int} {Rm : List Int} (h : Rest s l a t Rm) (hm : t ∈ Rm) : ∃ R, Rm = t :: R ∧ Rest s l t (t + 1) R := by
  cases Rm with
  | nil => cases hm
  | cons b R =>
    have hb := h.lo b (List.mem_cons_self ..)
    have hp := List.Pairwise.of_cons h.lt
    have e : b = t := by
      rcases List.mem_cons.1 hm with h1 | h1
      · exact h1.symm
      · have : b < t := List.rel_of_pairwise_cons hp h1
        omega
    subst e
    refine ⟨R, rfl, hp, fun e he => ?_, fun e he => h.hi e (List.mem_cons_of_mem _ he), fun e he => h.is e (List.mem_cons_of_mem _ he), fun e h1 h2 h3 => ?_⟩
    · have : b < e := List.rel_of_pairwise_cons hp he
      omega
    · rcases List.mem_cons.1 (h.all e (by omega) h2 h3) with h4 | h4
      · omega
      · exact h4
theorem lv_l0 (s : ByteArray) (l : List S31) (hl : l.length ≤ 1000000) (hs : s.size < 1000000000) : ∀ (d t : Nat) (a : Int) (Rm : List Int) (x4 : List S43), t + d = s.size + 1 → 0 ≤ a → a < t → x4.length ≤ t → Rest s l a t Rm →
    Ev (fun k => quipuref17_Leaves.l0 k x4 a (t : Int) s l) (x4 ++ leafGo s l (a :: Rm), 0)
  | 0, t, a, Rm, x4, h, h0, h1, hx, R => by
    have e : Rm = [] := by
      cases Rm with
      | nil => rfl
      | cons b R' =>
        have := R.lo b (List.mem_cons_self ..)
        have := R.hi b (List.mem_cons_self ..)
        omega
    subst e
    refine Ev.now 1 (fun k => ?_)
    show quipuref17_Leaves.l0 (k + 1) x4 a (t : Int) s l = _
    unfold quipuref17_Leaves.l0
    rw [if_neg (by omega)]
    show some (x4, 0) = some (x4 ++ [], 0)
    rw [List.append_nil]
  | d + 1, t, a, Rm, x4, h, h0, h1, hx, R => by
    have w1 : wrap64 ((t : Int) + 1) = ((t + 1 : Nat) : Int) := wrapS t 10000000000 (by omega) (by omega)
    have hst : ∀ k, quipuref17_Leaves.l0 (k + 1) x4 a (t : Int) s l = quipuref17_Leaves.l1 k x4 a (t : Int) ((t : Int) == (s.size : Int)) 0 s l := fun k => by
      conv => lhs; unfold quipuref17_Leaves.l0
      rw [if_pos (by omega)]
    have hb : (((t : Int) == (s.size : Int)) || edgeAt (l.drop 0) (t : Int)) = true ↔ (t : Int) ∈ Rm := by
      rw [List.drop_zero, Bool.or_eq_true, beq_iff_eq]
      exact ⟨fun h2 => R.all _ (Int.le_refl _) (by omega) h2, fun h2 => R.is _ h2⟩
    have h3 := lv_l1 s l hl x4 a (t : Int) (x4 ++ leafGo s l (a :: Rm), 0) l.length 0 ((t : Int) == (s.size : Int)) (by omega) (fun h2 => by
      obtain ⟨R', rfl, hR⟩ := R.cut (hb.1 h2)
      have ih := lv_l0 s l hl hs d (t + 1) (t : Int) R' (x4 ++ [(⟨subS s a (t : Int), fieldGo a (t : Int) l 0⟩ : S43)]) (by omega) (by omega) (by omega) (by rw [List.length_append]; show x4.length + 1 ≤ _; omega) hR
      refine lv_l2 s l hl x4 a (t : Int) h0 (by omega) (by omega) (by omega) _ l.length 0 0 (by omega) ?_
      rw [List.drop_zero, w1]
      rw [List.append_assoc] at ih
      exact ih) (fun h2 => by
      have hn : (t : Int) ∉ Rm := fun hm => by rw [hb.2 hm] at h2; cases h2
      have ih := lv_l0 s l hl hs d (t + 1) a Rm x4 (by omega) h0 (by omega) (by omega) (R.on hn)
      rw [w1]; exact ih)
    refine h3.step 1 (fun k => ?_)
    show quipuref17_Leaves.l0 (k + 1) x4 a (t : Int) s l = _
    rw [hst]; rfl
theorem edgeAt_iff (l : List S31) (t : Int) : edgeAt l t = true ↔ ∃ x ∈ l, x.f1 = t ∨ x.f2 = t := by
  unfold edgeAt
  rw [List.any_eq_true]
  simp only [Bool.or_eq_true, decide_eq_true_eq]
theorem refleaves_p (s : ByteArray) (l : List S31) (hl : l.length ≤ 1000000) (hs : s.size < 1000000000) : Ev (fun k => quipuref17_Leaves.f k s l) (leavesR s l) := by
  obtain ⟨K1, hm⟩ := refmay_p s l hl hs
  cases hc : chkB s l with
  | false =>
    have e : leavesR s l = ([], 170) := by unfold leavesR; rw [hc]; rfl
    rw [e]
    refine ⟨K1, fun k hk => ?_⟩
    show quipuref17_Leaves.f k s l = _
    unfold quipuref17_Leaves.f
    rw [show quipuref17_May.f k s l = some (chkB s l) from hm k hk, hc, Option.bind_some, if_neg (by simp)]
  | true =>
    have e : leavesR s l = (leafGo s l (edgesL s l), 0) := by unfold leavesR; rw [hc]; rfl
    obtain ⟨R, hE, hlt, hin, hlast, hsp, his⟩ := edges_form hc
    rw [e, hE]
    have hR : Rest s l 0 ((1 : Nat) : Int) R := ⟨hlt, fun e he => by
      have : 0 < e := List.rel_of_pairwise_cons hlt he
      omega, fun e he => (hin e (List.mem_cons_of_mem _ he)).2, fun e he => (his e he).imp_right (edgeAt_iff l e).2, fun e h1 h2 h3 => by
      have h4 : e ∈ (0 : Int) :: R := by
        rcases h3 with h3 | h3
        · rw [h3, ← hlast]; exact lastZ_mem R 0
        · obtain ⟨x, hx, h5⟩ := (edgeAt_iff l e).1 h3
          rcases h5 with h5 | h5
          · rw [← h5]; exact (hsp x hx).1
          · rw [← h5]; exact (hsp x hx).2
      rcases List.mem_cons.1 h4 with h5 | h5
      · omega
      · exact h5⟩
    obtain ⟨K2, h0⟩ := lv_l0 s l hl hs s.size 1 0 R [] (by omega) (Int.le_refl _) (by omega) (Nat.zero_le _) hR
    refine ⟨K1 + K2, fun k hk => ?_⟩
    show quipuref17_Leaves.f k s l = _
    unfold quipuref17_Leaves.f
    rw [show quipuref17_May.f k s l = some (chkB s l) from hm k (by omega), hc, Option.bind_some, if_pos rfl]
    exact h0 k (by omega)
end Go.Proofs.YtffldajbnhbkkaaDoor.Q
