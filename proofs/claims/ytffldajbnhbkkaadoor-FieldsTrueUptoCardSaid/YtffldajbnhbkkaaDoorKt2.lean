import Derived.Test.YtffldajbnhbkkaaDoorKt0
import Derived.Test.YtffldajbnhbkkaaDoorKt1
namespace Go.Proofs.YtffldajbnhbkkaaDoor.Q
open Go.RowKit Go.Proofs.YtffldajbnhbkkaaDoorW.PrintWords Go.Proofs.YtffldajbnhbkkaaDoorW.PrintLast Go.Proofs.YtffldajbnhbkkaaDoorW.PrintMore
set_option linter.unusedVariables false
set_option linter.unusedSimpArgs false
theorem flatF_len (l : List S43) : (flatF l).length = (textP l).length := by
  rw [flat_pieces l 0, List.length_map, List.length_range, lenP_text, Int.toNat_natCast]
theorem flat_drop (l : List S43) (i : Nat) (h : i < l.length) : flatF (l.drop i) = List.replicate l[i].f0.size l[i].f1 ++ flatF (l.drop (i + 1)) := by
  rw [List.drop_eq_getElem_cons h, flatF_cons]
/-- One piece's bytes. -/
theorem tr_l1 (l x5 : List S43) (x6 : Int) (x8 : List Int) (r : Bool) (i : Nat) (hi : i < l.length) (hsz : l[i].f0.size ≤ 2000000) : ∀ (d j : Nat) (x7 : List Int), l[i].f0.size - j = d → j ≤ l[i].f0.size → x7.length + d ≤ 100000000 →
    Ev (fun k => quipulaw17_FieldsTrue.l0 k l x5 x6 (x7 ++ List.replicate d l[i].f1) x8 (wrap64 ((i : Int) + 1))) r → Ev (fun k => quipulaw17_FieldsTrue.l1 k l x5 x6 x7 x8 (i : Int) (j : Int)) r
  | 0, j, x7, hd, hj, hx, H => by
    rw [List.replicate_zero, List.append_nil] at H
    refine H.step 1 (fun k => ?_)
    have g := rd43 l i hi
    show quipulaw17_FieldsTrue.l1 (k + 1) l x5 x6 x7 x8 (i : Int) (j : Int) = _
    conv => lhs; unfold quipulaw17_FieldsTrue.l1
    rw [if_pos (by omega), if_pos (by omega), g, if_neg (by omega)]
  | d + 1, j, x7, hd, hj, hx, H => by
    have g := rd43 l i hi
    have ih := tr_l1 l x5 x6 x8 r i hi hsz d (j + 1) (x7 ++ [l[i].f1]) (by omega) (by omega) (by rw [List.length_append]; show x7.length + 1 + d ≤ _; omega) (by
      rw [List.append_assoc, List.singleton_append, ← List.replicate_succ]; exact H)
    refine ih.step 1 (fun k => ?_)
    show quipulaw17_FieldsTrue.l1 (k + 1) l x5 x6 x7 x8 (i : Int) (j : Int) = _
    conv => lhs; unfold quipulaw17_FieldsTrue.l1
    rw [if_pos (by omega), if_pos (by omega), g, if_pos (by omega), if_pos (by omega), wrapS j 10000000 (by omega) (by omega)]
theorem size_le (l : List S43) (i : Nat) (h : i < l.length) : l[i].f0.size + (flatF (l.drop (i + 1))).length = (flatF (l.drop i)).length := by
  rw [flat_drop l i h, List.length_append, List.length_replicate]
theorem drop_le (l : List S43) : ∀ i, (flatF (l.drop i)).length ≤ (flatF l).length := by
  intro i
  conv => rhs; rw [← List.take_append_drop i l]
  unfold flatF
  rw [List.flatMap_append, List.length_append]
  omega
theorem tr_l0 (l x5 : List S43) (x6 : Int) (x8 : List Int) (r : Bool) (hl : l.length ≤ 5000000) (hf : (flatF l).length ≤ 2000000) : ∀ (d i : Nat) (x7 : List Int), l.length - i = d → i ≤ l.length → x7.length + (flatF (l.drop i)).length ≤ 50000000 →
    Ev (fun k => quipulaw17_FieldsTrue.l2 k x5 x6 (x7 ++ flatF (l.drop i)) x8 0) r → Ev (fun k => quipulaw17_FieldsTrue.l0 k l x5 x6 x7 x8 (i : Int)) r
  | 0, i, x7, hd, hi, hx, H => by
    rw [List.drop_of_length_le (by omega : l.length ≤ i)] at H
    have H2 : Ev (fun k => quipulaw17_FieldsTrue.l2 k x5 x6 x7 x8 0) r := by
      have e : x7 ++ flatF [] = x7 := List.append_nil _
      rw [e] at H; exact H
    refine H2.step 1 (fun k => ?_)
    show quipulaw17_FieldsTrue.l0 (k + 1) l x5 x6 x7 x8 (i : Int) = _
    conv => lhs; unfold quipulaw17_FieldsTrue.l0
    rw [if_neg (by omega)]
  | d + 1, i, x7, hd, hi, hx, H => by
    have hlt : i < l.length := by omega
    have hs := size_le l i hlt
    have hdr := drop_le l i
    rw [flat_drop l i hlt, ← List.append_assoc] at H
    have ih := tr_l0 l x5 x6 x8 r hl hf d (i + 1) (x7 ++ List.replicate l[i].f0.size l[i].f1) (by omega) (by omega) (by rw [List.length_append, List.length_replicate]; omega) H
    have h1 := tr_l1 l x5 x6 x8 r i hlt (by omega) l[i].f0.size 0 x7 (by omega) (by omega) (by omega) (by rw [wrapS i 10000000 (by omega) (by omega)]; exact ih)
    refine h1.step 1 (fun k => ?_)
    show quipulaw17_FieldsTrue.l0 (k + 1) l x5 x6 x7 x8 (i : Int) = _
    conv => lhs; unfold quipulaw17_FieldsTrue.l0
    rw [if_pos (by omega)]; rfl
/-- One leaf's bytes. -/
theorem tr_l3 (l : List S43) (x6 : Int) (x7 : List Int) (r : Bool) (i : Nat) (hi : i < l.length) (hsz : l[i].f0.size ≤ 2000000) : ∀ (d j : Nat) (x8 : List Int), l[i].f0.size - j = d → j ≤ l[i].f0.size → x8.length + d ≤ 100000000 →
    Ev (fun k => quipulaw17_FieldsTrue.l2 k l x6 x7 (x8 ++ List.replicate d l[i].f1) (wrap64 ((i : Int) + 1))) r → Ev (fun k => quipulaw17_FieldsTrue.l3 k l x6 x7 x8 (i : Int) (j : Int)) r
  | 0, j, x8, hd, hj, hx, H => by
    rw [List.replicate_zero, List.append_nil] at H
    refine H.step 1 (fun k => ?_)
    have g := rd43 l i hi
    show quipulaw17_FieldsTrue.l3 (k + 1) l x6 x7 x8 (i : Int) (j : Int) = _
    conv => lhs; unfold quipulaw17_FieldsTrue.l3
    rw [if_pos (by omega), if_pos (by omega), g, if_neg (by omega)]
  | d + 1, j, x8, hd, hj, hx, H => by
    have g := rd43 l i hi
    have ih := tr_l3 l x6 x7 r i hi hsz d (j + 1) (x8 ++ [l[i].f1]) (by omega) (by omega) (by rw [List.length_append]; show x8.length + 1 + d ≤ _; omega) (by
      rw [List.append_assoc, List.singleton_append, ← List.replicate_succ]; exact H)
    refine ih.step 1 (fun k => ?_)
    show quipulaw17_FieldsTrue.l3 (k + 1) l x6 x7 x8 (i : Int) (j : Int) = _
    conv => lhs; unfold quipulaw17_FieldsTrue.l3
    rw [if_pos (by omega), if_pos (by omega), g, if_pos (by omega), if_pos (by omega), wrapS j 10000000 (by omega) (by omega)]
theorem tr_l4 (x7 : List Int) (hl : x7.length ≤ 5000000) : ∀ (d i : Nat), x7.length - i = d → i ≤ x7.length → Ev (fun k => quipulaw17_FieldsTrue.l4 k x7 x7 (i : Int)) true
  | 0, i, hd, hi => Ev.now 1 (fun k => by
    show quipulaw17_FieldsTrue.l4 (k + 1) x7 x7 (i : Int) = _
    unfold quipulaw17_FieldsTrue.l4
    rw [if_neg (by omega)])
  | d + 1, i, hd, hi => by
    refine (tr_l4 x7 hl d (i + 1) (by omega) (by omega)).step 1 (fun k => ?_)
    show quipulaw17_FieldsTrue.l4 (k + 1) x7 x7 (i : Int) = _
    conv => lhs; unfold quipulaw17_FieldsTrue.l4
    rw [if_pos (by omega), if_pos (by omega), if_pos (by omega), if_pos rfl, wrapS i 10000000 (by omega) (by omega)]
theorem tr_l2 (l : List S43) (x7 : List Int) (hl : l.length ≤ 5000000) (hf : (flatF l).length ≤ 2000000) : ∀ (d i : Nat) (x8 : List Int), l.length - i = d → i ≤ l.length → x8.length + (flatF (l.drop i)).length ≤ 2000000 → x8 ++ flatF (l.drop i) = x7 →
    Ev (fun k => quipulaw17_FieldsTrue.l2 k l 0 x7 x8 (i : Int)) true
  | 0, i, x8, hd, hi, hx, he => by
    rw [List.drop_of_length_le (by omega : l.length ≤ i)] at he hx
    have e : x8 = x7 := by
      have e : x8 ++ flatF [] = x8 := List.append_nil _
      rw [e] at he; exact he
    subst e
    refine (tr_l4 x8 (by omega) x8.length 0 (by omega) (by omega)).step 2 (fun k => ?_)
    show quipulaw17_FieldsTrue.l2 (k + 2) l 0 x8 x8 (i : Int) = _
    conv => lhs; unfold quipulaw17_FieldsTrue.l2
    rw [if_neg (by omega), if_pos rfl]
    show (if ((x8.length : Int) != (x8.length : Int)) = true then some false else quipulaw17_FieldsTrue.l4 k x8 x8 0) = _
    rw [if_neg (by simp)]; rfl
  | d + 1, i, x8, hd, hi, hx, he => by
    have hlt : i < l.length := by omega
    have hs := size_le l i hlt
    have hdr := drop_le l i
    rw [flat_drop l i hlt, ← List.append_assoc] at he
    have ih := tr_l2 l x7 hl hf d (i + 1) (x8 ++ List.replicate l[i].f0.size l[i].f1) (by omega) (by omega) (by rw [List.length_append, List.length_replicate]; omega) he
    have h1 := tr_l3 l 0 x7 true i hlt (by omega) l[i].f0.size 0 x8 (by omega) (by omega) (by omega) (by rw [wrapS i 10000000 (by omega) (by omega)]; exact ih)
    refine h1.step 1 (fun k => ?_)
    show quipulaw17_FieldsTrue.l2 (k + 1) l 0 x7 x8 (i : Int) = _
    conv => lhs; unfold quipulaw17_FieldsTrue.l2
    rw [if_pos (by omega)]; rfl
theorem true_true (l : List S43) (hl : l.length ≤ 400000) (hT : (textP l).length ≤ 2000000) : ∃ k, quipulaw17_FieldsTrue.f k l = some true := by
  have hsl := build_spans_len l
  have e1 : fields_Build.f l = some (buildR l) := by unfold fields_Build.f; rw [if_pos ⟨hl, hT⟩]
  have hbs : (buildR l).1.size < 1000000000 := by
    rw [build_eq]; unfold refR
    split
    · show (mkS ([] ++ textP l)).size < _
      rw [mkS_size, List.nil_append]; omega
    · show (0 : Nat) < _; omega
  have e2 : fields_Leaves.f (buildR l).1 (buildR l).2.1 = some (leavesR (buildR l).1 (buildR l).2.1) := by unfold fields_Leaves.f; rw [if_pos ⟨hbs, by omega⟩]
  have e3 : quipulaw17_awake.f = some true := rfl
  by_cases hok : l.all okP = true
  · have eb : buildR l = (mkS (textP l), putsL [] (evs l 0 none), 0) := by rw [build_eq]; unfold refR; rw [if_pos hok]; rfl
    rw [eb] at hsl e1 e2
    have el : leavesR (mkS (textP l)) (putsL [] (evs l 0 none)) = (leafGo (mkS (textP l)) (putsL [] (evs l 0 none)) (edgesL (mkS (textP l)) (putsL [] (evs l 0 none))), 0) := by unfold leavesR; rw [if_pos (chk_built l hok)]
    rw [el] at e2
    have hfs := flat_same l hok
    have hel := edges_le (mkS (textP l)) (putsL [] (evs l 0 none))
    have hgl := leafGo_len (mkS (textP l)) (putsL [] (evs l 0 none)) (edgesL (mkS (textP l)) (putsL [] (evs l 0 none)))
    have hfl := flatF_len l
    revert e2 hfs hgl hel
    generalize edgesL (mkS (textP l)) (putsL [] (evs l 0 none)) = E
    generalize leafGo (mkS (textP l)) (putsL [] (evs l 0 none)) E = L
    intro e2 hfs hgl hel
    have hsl2 : (putsL [] (evs l 0 none)).length ≤ 2 * l.length + 1 := hsl
    have h2 : Ev (fun k => quipulaw17_FieldsTrue.l2 k L 0 ([] ++ flatF (l.drop 0)) [] 0) true := by
      have := tr_l2 L (flatF l) (by omega) (by rw [hfs]; omega) L.length 0 [] (by omega) (by omega) (by rw [List.drop_zero, hfs]; show 0 + _ ≤ _; omega) (by rw [List.drop_zero, hfs]; rfl)
      rw [List.drop_zero]
      exact this
    obtain ⟨K, hK⟩ := tr_l0 l L 0 [] true (by omega) (by omega) l.length 0 [] (by omega) (by omega) (by rw [List.drop_zero]; show 0 + _ ≤ _; omega) h2
    refine ⟨K, ?_⟩
    unfold quipulaw17_FieldsTrue.f
    rw [e1, Option.bind_some, e2, Option.bind_some, e3, Option.bind_some, if_pos rfl, if_pos rfl]
    exact hK K (Nat.le_refl _)
  · have eb : buildR l = (⟨#[]⟩, [], 170) := by rw [build_eq]; unfold refR; rw [if_neg hok]
    rw [eb] at e1 e2
    refine ⟨0, ?_⟩
    unfold quipulaw17_FieldsTrue.f
    rw [e1, Option.bind_some, e2, Option.bind_some, e3, Option.bind_some, if_pos rfl, if_neg (show ¬ (170 : Int) = 0 by decide)]
end Go.Proofs.YtffldajbnhbkkaaDoor.Q
namespace Go.Proofs.YtffldajbnhbkkaaDoor.Q
open Go.RowKit Go.Proofs.YtffldajbnhbkkaaDoorW.PrintWords Go.Proofs.YtffldajbnhbkkaaDoorW.PrintLast Go.Proofs.YtffldajbnhbkkaaDoorW.PrintMore
set_option linter.unusedVariables false
set_option linter.unusedSimpArgs false
theorem true_row (W : World) (hG : Gd W) (A : Option Addr) (c : Nat) (l : List S43) (hC : Kd.C k43 W A l.length l) (hc : l.length ≤ c) (hb : (textP l).length + 3 * l.length ≤ 1048576) :
    Calls Tryd.prog 6 #[.slice A l.length c] W fun e w' => e = .returned (.bool true) ∧ Below W.heap.size W w' := by
  obtain ⟨k, hk⟩ := true_true l (by omega) (by omega)
  exact quipulaw17_FieldsTrue.calls k A c l true W hG hC hc hk
end Go.Proofs.YtffldajbnhbkkaaDoor.Q
