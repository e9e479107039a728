import Derived.Test.YtffldajbnhbkkaaDoorKv1
import Derived.Test.YtffldajbnhbkkaaDoorKv2
import Derived.Test.YtffldajbnhbkkaaDoorKv37
import Derived.Test.YtffldajbnhbkkaaDoorKv29
import Derived.Test.YtffldajbnhbkkaaDoorKv35
import Derived.Test.YtffldajbnhbkkaaDoorKv5
import Derived.Test.YtffldajbnhbkkaaDoorKv7
import Derived.Test.YtffldajbnhbkkaaDoorKv36
import Derived.Lib.LaidU8T
namespace Go.Proofs.YtffldajbnhbkkaaDoor.Q
open Go.RowKit Go.Proofs.YtffldajbnhbkkaaDoorW.PrintWords Go.Proofs.YtffldajbnhbkkaaDoorW.PrintLast Go.Proofs.YtffldajbnhbkkaaDoorW.PrintMore Go.ChangeShapes Go.WideShapes Go.Deep
set_option linter.unusedVariables false
set_option maxRecDepth 100000
set_option linter.unusedSimpArgs false
theorem gd_of {W : World} (hL : laidMet Tryd.prog [("unicode/utf8.acceptRanges", Rows.laid_unicode_utf8_acceptRanges), ("unicode/utf8.first", Rows.laid_unicode_utf8_first)] W) : Gd W := by
  have e1 : (Rows.laid_unicode_utf8_acceptRanges : DataW Unit) = Lib.acceptData := by kernel_rfl
  have e2 : Rows.laid_unicode_utf8_first = Lib.firstData := by kernel_rfl
  rw [e1, e2] at hL
  have ht : Lib.Utf8Tabs 0 1 W := utf8Tabs_of_readsT (U8Types.of196 Tryd.laysValid) ⟨by kernel_rfl, by kernel_rfl, by kernel_rfl, by kernel_rfl, by kernel_rfl, by kernel_rfl, by kernel_rfl⟩ (Lib.laidMet.reads hL (.tail _ (.head _))) (Lib.laidMet.reads hL (.head _))
  exact ⟨ht, World.block_lt_of_cell? W _ (ht.2 0 (by decide)).1⟩
theorem bulk_pos {H : Type} (d : DataW H) : 1 ≤ Rows.uptoBulk d := by
  cases d with
  | lit l => cases l <;> simp [Rows.uptoBulk]
  | _ => simp [Rows.uptoBulk]
end Go.Proofs.YtffldajbnhbkkaaDoor.Q

namespace Go.Proofs.YtffldajbnhbkkaaDoor.Q
open Go.RowKit Go.Proofs.YtffldajbnhbkkaaDoorW.PrintWords Go.Proofs.YtffldajbnhbkkaaDoorW.PrintLast Go.Proofs.YtffldajbnhbkkaaDoorW.PrintMore
set_option linter.unusedVariables false
set_option linter.unusedSimpArgs false
structure S34 where
  f0 : Int
  f1 : Int
  f2 : Int
end Go.Proofs.YtffldajbnhbkkaaDoor.Q

namespace Go.Proofs.YtffldajbnhbkkaaDoor.Q
open Go.RowKit Go.Proofs.YtffldajbnhbkkaaDoorW.PrintWords Go.Proofs.YtffldajbnhbkkaaDoorW.PrintLast Go.Proofs.YtffldajbnhbkkaaDoorW.PrintMore Go.Proofs.YtffldajbnhbkkaaDoor.Opn
set_option linter.unusedVariables false
set_option linter.unusedSimpArgs false
def ok31 (x : S31) : Prop := ((Lit.int .i64 x.f0).wf = true) ∧ (((Lit.int .i64 x.f1).wf = true) ∧ ((Lit.int .i64 x.f2).wf = true))
theorem open31 : Opens Tryd.prog 31 k31 ok31 :=
  Opens.struct Tryd.underlying31 (OpensF.cons (Opens.int .i64 (by kernel_rfl)) rfl (by kernel_rfl) (OpensF.cons (Opens.int .i64 (by kernel_rfl)) rfl (by kernel_rfl) (OpensF.one (Opens.int .i64 (by kernel_rfl)) rfl (by kernel_rfl))))
    (by kernel_rfl) (fun x : S31 => (x.f0, x.f1, x.f2)) (fun p => ⟨p.1, p.2.1, p.2.2⟩) (fun _ => rfl)
structure S25 where
  f0 : ByteArray
  f1 : List (S31)
def k25 : Kd S25 := Kd.iso (Kd.pair Kd.string (Kd.slice 31 k31)) (fun x : S25 => (x.f0, x.f1))
def ok25 (x : S25) : Prop := (x.f0.size ≤ maxLen) ∧ ((∀ y_ ∈ x.f1, ok31 y_) ∧ x.f1.length ≤ maxLen)
theorem open25 : Opens Tryd.prog 25 k25 ok25 :=
  Opens.struct Tryd.underlying25 (OpensF.cons (Opens.string (by kernel_rfl)) rfl (by kernel_rfl) (OpensF.one (Opens.slice (by kernel_rfl) open31 (by kernel_rfl)) rfl (by kernel_rfl)))
    (by kernel_rfl) (fun x : S25 => (x.f0, x.f1)) (fun p => ⟨p.1, p.2⟩) (fun _ => rfl)
theorem ko25 {w : World} {x : S25} {cs : List Value} (h : k25.K w x cs) : ∃ (A0 : Option Addr) (c0 : Nat), cs = [.string x.f0, .slice A0 x.f1.length c0] ∧ x.f1.length ≤ c0 ∧ Kd.C k31 w A0 x.f1.length x.f1 := by
  obtain ⟨_, _, rfl, rfl, ⟨A0, c0, rfl, l0, C0⟩⟩ := h
  exact ⟨A0, c0, rfl, l0, C0⟩
end Go.Proofs.YtffldajbnhbkkaaDoor.Q

namespace Go.Proofs.YtffldajbnhbkkaaDoor.Q
open Go.RowKit Go.Proofs.YtffldajbnhbkkaaDoorW.PrintWords Go.Proofs.YtffldajbnhbkkaaDoorW.PrintLast Go.Proofs.YtffldajbnhbkkaaDoorW.PrintMore Go.ChangeShapes Go.WideShapes Go.Deep
set_option linter.unusedVariables false
set_option maxRecDepth 100000
set_option linter.unusedSimpArgs false
theorem all_len {H : Type} : ∀ xs : List (DataW H), xs.length ≤ Rows.uptoBulkAll xs
  | [] => Nat.zero_le _
  | x :: xs => by
    have := all_len xs
    have := bulk_pos x
    simp only [Rows.uptoBulkAll, List.length_cons]
    omega
theorem all_len3 {H : Type} : ∀ xs : List (DataW H), (∀ x ∈ xs, 3 ≤ Rows.uptoBulk x) → 3 * xs.length ≤ Rows.uptoBulkAll xs
  | [], _ => Nat.zero_le _
  | x :: xs, h => by
    have := all_len3 xs (fun y hy => h y (List.mem_cons_of_mem _ hy))
    have := h x (List.mem_cons_self ..)
    simp only [Rows.uptoBulkAll, List.length_cons]
    omega
/-- A row of structs of three fields: three times its length is no more than its datum's bulk. -/
theorem bulk_row {H : Type} {enc : TypeId × Value → H} {W : World} {base : Nat} {spare : Nat → Bool} {held : Bool} {fuel : Nat} {e t : TypeId} {fs : Array Field} (ht : Tryd.prog.underlying t = some (.slice e)) (he : Tryd.prog.underlying e = some (.struct fs)) (h3 : fs.size = 3) {a : Option Addr} {len cap : Nat} {x : DataW H × List MemPlace}
    (h : DataW.trod enc Tryd.prog W base spare held fuel t [.slice a len cap] = some x) : 3 * len ≤ Rows.uptoBulk x.1 := by
  rcases DataW.trod_slice ht h with ⟨hcs, hx⟩ | ⟨a', len', cap', elems, rest, n, _, hcs, hx, _, _, _, hel, hi, _, _⟩
  · simp only [List.cons.injEq, Value.slice.injEq, and_true] at hcs
    omega
  · simp only [List.cons.injEq, Value.slice.injEq, and_true] at hcs
    subst hx
    have := all_len3 (elems.map (·.1)) (fun y hy => by
      obtain ⟨z, hz, rfl⟩ := List.mem_map.1 hy
      obtain ⟨i, hil, rfl⟩ := List.getElem_of_mem hz
      have h2 := hi i (by omega)
      rw [List.getElem?_eq_getElem hil] at h2
      obtain ⟨cs, _, htr⟩ := Option.bind_eq_some_iff.1 h2
      obtain ⟨xs, n, _, hx, _, hxl, _⟩ := DataW.trod_struct he htr
      rw [hx]
      have := all_len (xs.map (·.1))
      rw [List.length_map] at this
      simp only [Rows.uptoBulk]
      omega)
    rw [List.length_map] at this
    simp only [Rows.uptoBulk]
    omega
/-- A text with its spans. -/
theorem bulk_out {H : Type} {enc : TypeId × Value → H} {W : World} {base : Nat} {spare : Nat → Bool} {held : Bool} {s : ByteArray} {a : Option Addr} {len cap : Nat} {x : DataW H} {ps : List MemPlace}
    (h : DataW.Trod enc Tryd.prog W base spare held 25 (.agg #[.string s, .slice a len cap]) x ps) : s.size + 3 * len ≤ Rows.uptoBulk x := by
  obtain ⟨fuel, h⟩ := h
  obtain ⟨xs, n, _, hx, hlen, hxl, hf⟩ := DataW.trod_struct Tryd.underlying25 h
  have hx1 := congrArg Prod.fst hx
  have hx1 : x = _ := hx1
  have hc9 : Tryd.prog.cellsOf 9 = 1 := by kernel_rfl
  have hc23 : Tryd.prog.cellsOf 23 = 1 := by kernel_rfl
  have hf0 := hf 0 ⟨"Text", 9, 0, false, "", "", 0⟩ rfl
  have hf1 := hf 1 ⟨"Spans", 23, 1, false, "", "", 16⟩ rfl
  have hl2 : xs.length = 2 := hxl
  obtain ⟨b, d, rfl⟩ : ∃ b d, xs = [b, d] := by
    match xs, hl2 with
    | [b, d], _ => exact ⟨b, d, rfl⟩
  have hcells : (Value.agg #[.string s, .slice a len cap]).cells.toList = [.string s, .slice a len cap] := rfl
  rw [hcells] at hf0 hf1
  simp only [hc9, hc23, List.drop_zero, List.drop_succ_cons, List.take_succ_cons, List.take_zero, List.getElem?_cons_zero, List.getElem?_cons_succ] at hf0 hf1
  obtain ⟨s', e, hb, _⟩ := DataW.trod_string Tryd.underlying9 hf0
  injection e with e
  injection e with e
  subst e
  have hr := bulk_row Tryd.underlying23 Tryd.underlying31 rfl hf1
  have hs : s.data.toList.length = s.size := slenF s
  subst hb
  rw [hx1]
  simp only [List.map_cons, List.map_nil, Rows.uptoBulk, Rows.uptoBulkAll]
  omega
end Go.Proofs.YtffldajbnhbkkaaDoor.Q
