import Derived.Test.YtffldajbnhbkkaaDoorKw46
import Derived.Test.YtffldajbnhbkkaaDoorKw47
import Derived.Test.YtffldajbnhbkkaaDoorKw39
namespace Go.Proofs.YtffldajbnhbkkaaDoor.Q
open Go.RowKit Go.Proofs.YtffldajbnhbkkaaDoorW.PrintWords Go.Proofs.YtffldajbnhbkkaaDoorW.PrintLast Go.Proofs.YtffldajbnhbkkaaDoorW.PrintMore
set_option linter.unusedVariables false
set_option linter.unusedSimpArgs false
theorem kept_f (s : ByteArray) (l : List S31) (hl : l.length ≤ 1000000) : quipulaw17_kept.f s l s l = some true := by
  unfold quipulaw17_kept.f
  rw [if_pos ⟨rfl, rfl, hl⟩]
theorem wr_l0 (s t : ByteArray) (l : List S31) (hl : l.length ≤ 1000000) : ∀ (d i : Nat) (sp : List S31), i + d = sp.length → sp.length ≤ 2000000 → Ev (fun k => quipulaw17_FieldsWraps.l0 k (i : Int) s l s l t sp) true
  | 0, i, sp, h, hs => Ev.now 1 (fun k => by
    show quipulaw17_FieldsWraps.l0 (k + 1) (i : Int) s l s l t sp = _
    unfold quipulaw17_FieldsWraps.l0
    rw [if_neg (by omega), kept_f s l hl, Option.bind_some])
  | d + 1, i, sp, h, hs => by
    refine (wr_l0 s t l hl d (i + 1) (sp.set i ⟨-1, 0, 0⟩) (by rw [List.length_set]; omega) (by rw [List.length_set]; exact hs)).step 1 (fun k => ?_)
    show quipulaw17_FieldsWraps.l0 (k + 1) (i : Int) s l s l t sp = _
    conv => lhs; unfold quipulaw17_FieldsWraps.l0
    rw [if_pos (by omega), if_pos (by omega), wrapS i 10000000 (by omega) (by omega), Int.toNat_natCast]
theorem wrapR_len (s : ByteArray) (l : List S31) (x : S31) : (wrapR s l x).2.1.length ≤ l.length + 1 := by
  unfold wrapR
  split
  · show (HP.putL lt31 l x).length ≤ _
    rw [put_len]; omega
  · exact Nat.zero_le _
theorem wraps_true (s : ByteArray) (l : List S31) (x : S31) (hl : l.length ≤ 400000) (hs : s.size ≤ 2000000) : ∃ k, quipulaw17_FieldsWraps.f k s l x.f0 x.f1 x.f2 = some true := by
  obtain ⟨K1, h1⟩ := refwrap_p s l x (by omega) (by omega)
  obtain ⟨K2, h2⟩ := refmay_p s l (by omega) (by omega)
  have hwl := wrapR_len s l x
  obtain ⟨K3, h3⟩ := wr_l0 s (wrapR s l x).1 l (by omega) (wrapR s l x).2.1.length 0 (wrapR s l x).2.1 (by omega) (by omega)
  refine ⟨K1 + K2 + K3 + l.length + 10, ?_⟩
  generalize hk : K1 + K2 + K3 + l.length + 10 = k
  have e1 : quipulaw17_own.f s l = some (s, l) := by unfold quipulaw17_own.f; rw [if_pos (by omega)]
  have e2 : fields_Wrap.f s l x.f0 x.f1 x.f2 = some (wrapR s l x) := by unfold fields_Wrap.f; rw [if_pos ⟨by omega, by omega⟩]
  have e3 : quipuref17_Wrap.f k s l x.f0 x.f1 x.f2 = some (wrapR s l x) := h1 k (by omega)
  have e4 : quipulaw17_awake.f = some true := rfl
  have e5 : quipuref17_Same.f k (wrapR s l x).1 (wrapR s l x).2.1 (wrapR s l x).1 (wrapR s l x).2.1 = some true := same_self _ _ (by omega) k (by omega)
  have e6 : fields_Check.f s l = some (if chkB s l = true then 0 else 170) := by unfold fields_Check.f; rw [if_pos ⟨by omega, by omega⟩]
  have e7 : quipuref17_May.f k s l = some (chkB s l) := h2 k (by omega)
  have e8 : quipulaw17_FieldsWraps.j0 k false s l s l (wrapR s l x).1 (wrapR s l x).2.1 = some true := by
    obtain ⟨m, rfl⟩ : ∃ m, k = m + 1 := ⟨k - 1, by omega⟩
    have e : quipulaw17_FieldsWraps.j0 (m + 1) false s l s l (wrapR s l x).1 (wrapR s l x).2.1 = quipulaw17_FieldsWraps.l0 m 0 s l s l (wrapR s l x).1 (wrapR s l x).2.1 := by simp [quipulaw17_FieldsWraps.j0]
    rw [e]
    exact h3 m (by omega)
  unfold quipulaw17_FieldsWraps.f
  rw [e1, Option.bind_some, e2, Option.bind_some, e3, Option.bind_some, e4, Option.bind_some, if_pos rfl, if_pos rfl, e5, Option.bind_some, if_pos rfl, e6, Option.bind_some, e7, Option.bind_some]
  cases chkB s l with
  | true =>
    rw [if_pos rfl, if_neg (by decide), Option.bind_some, if_pos rfl]
    exact e8
  | false =>
    rw [if_neg (by decide), if_neg (by decide), Option.bind_some, if_neg (by decide), Option.bind_some]
    exact e8
end Go.Proofs.YtffldajbnhbkkaaDoor.Q

namespace Go.Proofs.YtffldajbnhbkkaaDoor.Q
open Go.RowKit Go.Proofs.YtffldajbnhbkkaaDoorW.PrintWords Go.Proofs.YtffldajbnhbkkaaDoorW.PrintLast Go.Proofs.YtffldajbnhbkkaaDoorW.PrintMore
set_option linter.unusedVariables false
set_option linter.unusedSimpArgs false
theorem wraps_row (W : World) (hG : Gd W) (s : ByteArray) (A : Option Addr) (c : Nat) (l : List S31) (x : S34) (hC : Kd.C k31 W A l.length l) (hc : l.length ≤ c) (hb : s.size + 3 * l.length ≤ 1048576) :
    Calls Tryd.prog 4 #[.agg #[.string s, .slice A l.length c], .agg #[.int .i64 x.f0, .int .i64 x.f1, .int .i64 x.f2]] W fun e w' => e = .returned (.bool true) ∧ Below W.heap.size W w' := by
  obtain ⟨k, hk⟩ := wraps_true s l ⟨x.f0, x.f1, x.f2⟩ (by omega) (by omega)
  exact quipulaw17_FieldsWraps.calls k s A c l x.f0 x.f1 x.f2 W hG hC hc hk
end Go.Proofs.YtffldajbnhbkkaaDoor.Q
