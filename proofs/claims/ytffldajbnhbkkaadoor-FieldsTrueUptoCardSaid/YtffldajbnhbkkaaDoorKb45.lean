import Derived.Test.YtffldajbnhbkkaaDoorKb44
import Derived.Test.YtffldajbnhbkkaaDoorKb42
namespace Go.Proofs.YtffldajbnhbkkaaDoor.Q
open Go.RowKit Go.Proofs.YtffldajbnhbkkaaDoorW.PrintWords Go.Proofs.YtffldajbnhbkkaaDoorW.PrintLast Go.Proofs.YtffldajbnhbkkaaDoorW.PrintMore
set_option linter.unusedVariables false
set_option linter.unusedSimpArgs false
theorem build_eq (l : List S43) : buildR l = refR l [] [] none := by
  unfold buildR refR
  rw [heap_evs, List.nil_append]; rfl
theorem puts_len (xs : List S31) : ∀ sp : List S31, (putsL sp xs).length = sp.length + xs.length := by
  induction xs with
  | nil => intro sp; rfl
  | cons x xs ih => intro sp; rw [puts_cons, ih, put_len, List.length_cons]; omega
theorem build_spans_len (l : List S43) : (buildR l).2.1.length ≤ 2 * l.length + 1 := by
  rw [build_eq]
  unfold refR
  split
  · show (putsL [] (evs l _ none)).length ≤ _
    rw [puts_len, List.length_nil]
    have := evs_len l (List.length ([] : List UInt8)) none
    omega
  · exact Nat.zero_le _
/-- The loop that writes over the spans. -/
theorem fb_l1 (t0 : ByteArray) (l : List S43) (r : Bool) (n : Int) : ∀ (d i : Nat) (sp : List S31), sp.length - i = d → i ≤ sp.length → sp.length ≤ 1000000 → Ev (fun k => quipulaw17_FieldsBuilds.l0 k l (wrap64 (n + 1))) r →
    Ev (fun k => quipulaw17_FieldsBuilds.l1 k l n (i : Int) t0 sp) r
  | 0, i, sp, hd, hi, hs, H => by
    refine H.step 1 (fun k => ?_)
    show quipulaw17_FieldsBuilds.l1 (k + 1) l n (i : Int) t0 sp = _
    unfold quipulaw17_FieldsBuilds.l1
    rw [if_neg (by omega), if_pos (by omega)]
  | d + 1, i, sp, hd, hi, hs, H => by
    have ih := fb_l1 t0 l r n d (i + 1) (sp.set i ⟨-1, 0, 0⟩) (by rw [List.length_set]; omega) (by rw [List.length_set]; omega) (by rw [List.length_set]; exact hs) H
    refine ih.step 1 (fun k => ?_)
    show quipulaw17_FieldsBuilds.l1 (k + 1) l n (i : Int) t0 sp = _
    conv => lhs; unfold quipulaw17_FieldsBuilds.l1
    rw [if_pos (by omega), if_pos (by omega), wrapS i 10000000 (by omega) (by omega), Int.toNat_natCast]
theorem fb_round (l : List S43) (hl : l.length ≤ 400000) (hT : (textP l).length ≤ 2000000) (n : Int) (h0 : n < 2) (r : Bool) (H : Ev (fun k => quipulaw17_FieldsBuilds.l0 k l (wrap64 (n + 1))) r) : Ev (fun k => quipulaw17_FieldsBuilds.l0 k l n) r := by
  have hsl := build_spans_len l
  obtain ⟨K1, h1⟩ := fb_l1 (buildR l).1 l r n (buildR l).2.1.length 0 (buildR l).2.1 rfl (Nat.zero_le _) (by omega) H
  obtain ⟨K2, h2⟩ := refBuild_p l hl hT
  refine ⟨K1 + K2 + (buildR l).2.1.length + 10, fun k hk => ?_⟩
  obtain ⟨k, rfl⟩ : ∃ m, k = m + 2 := ⟨k - 2, by omega⟩
  have e2 : quipuref17_Build.f (k + 1) l = some (buildR l) := by rw [build_eq]; exact h2 (k + 1) (by omega)
  have e1 : fields_Build.f l = some (buildR l) := by unfold fields_Build.f; rw [if_pos ⟨hl, hT⟩]
  have e3 := same_self (buildR l).1 (buildR l).2.1 (by omega) (k + 1) (by omega)
  have e4 := h1 k (by omega)
  show quipulaw17_FieldsBuilds.l0 (k + 2) l n = _
  unfold quipulaw17_FieldsBuilds.l0
  rw [if_pos h0, e1, Option.bind_some, e2, Option.bind_some, if_pos rfl, e3, Option.bind_some]
  exact e4
theorem builds_true (l : List S43) (hl : l.length ≤ 400000) (hT : (textP l).length ≤ 2000000) : ∃ k, quipulaw17_FieldsBuilds.f k l = some true := by
  have hE : Ev (fun k => quipulaw17_FieldsBuilds.l0 k l 2) true := Ev.now 1 (fun k => by
    show quipulaw17_FieldsBuilds.l0 (k + 1) l 2 = _
    unfold quipulaw17_FieldsBuilds.l0
    rw [if_neg (by decide)]; rfl)
  have w1 : wrap64 ((1 : Int) + 1) = 2 := by unfold wrap64; omega
  have w0 : wrap64 ((0 : Int) + 1) = 1 := by unfold wrap64; omega
  have h1 := fb_round l hl hT 1 (by decide) true (by rw [w1]; exact hE)
  obtain ⟨K, hK⟩ := fb_round l hl hT 0 (by decide) true (by rw [w0]; exact h1)
  exact ⟨K, hK K (Nat.le_refl _)⟩
end Go.Proofs.YtffldajbnhbkkaaDoor.Q
