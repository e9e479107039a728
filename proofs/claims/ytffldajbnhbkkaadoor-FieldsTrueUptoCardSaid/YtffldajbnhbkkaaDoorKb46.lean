import Derived.Test.YtffldajbnhbkkaaDoorKb1
import Derived.Test.YtffldajbnhbkkaaDoorKb3
import Derived.Test.YtffldajbnhbkkaaDoorKb45
import Derived.Lib.LaidU8T
namespace Go.Proofs.YtffldajbnhbkkaaDoor.Q
open Go.RowKit Go.Proofs.YtffldajbnhbkkaaDoorW.PrintWords Go.Proofs.YtffldajbnhbkkaaDoorW.PrintLast Go.Proofs.YtffldajbnhbkkaaDoorW.PrintMore Go.ChangeShapes Go.WideShapes Go.Deep
set_option linter.unusedVariables false
set_option maxRecDepth 100000
set_option linter.unusedSimpArgs false
theorem gd_of {W : World} (hL : laidMet Tryd.prog [("unicode/utf8.acceptRanges", Rows.laid_unicode_utf8_acceptRanges), ("unicode/utf8.first", Rows.laid_unicode_utf8_first)] W) : Gd W := by
  have e1 : (Rows.laid_unicode_utf8_acceptRanges : DataW Unit) = Lib.acceptData := by kernel_rfl
  have e2 : Rows.laid_unicode_utf8_first = Lib.firstData := by kernel_rfl
  rw [e1, e2] at hL
  have ht : Lib.Utf8Tabs 0 1 W := utf8Tabs_of_readsT (U8Types.of196 Tryd.laysValid) ⟨by kernel_rfl, by kernel_rfl, by kernel_rfl, by kernel_rfl, by kernel_rfl, by kernel_rfl, by kernel_rfl⟩ (Lib.laidMet.reads hL (.tail _ (.head _))) (Lib.laidMet.reads hL (.head _))
  exact ⟨ht, World.block_lt_of_cell? W _ (ht.2 0 (by decide)).1⟩
theorem bulk_pos {H : Type} (d : DataW H) : 1 ≤ Rows.uptoBulk d := by
  cases d with
  | lit l => cases l <;> simp [Rows.uptoBulk]
  | _ => simp [Rows.uptoBulk]
/-- A piece's datum is of bulk three more than its text is long. -/
theorem bulk_piece {H : Type} {enc : TypeId × Value → H} {w : World} {base : Nat} {spare : Nat → Bool} {held : Bool} {fuel : Nat} {y : S43} {x : DataW H × List MemPlace}
    (h : DataW.trod enc Tryd.prog w base spare held fuel 43 [.string y.f0, .int .i64 y.f1] = some x) : y.f0.size + 3 ≤ Rows.uptoBulk x.1 := by
  obtain ⟨xs, n, _, rfl, hlen, hxl, hf⟩ := DataW.trod_struct Tryd.underlying43 h
  have hc9 : Tryd.prog.cellsOf 9 = 1 := by kernel_rfl
  have hf0 := hf 0 ⟨"Text", 9, 0, false, "", "", 0⟩ rfl
  have hl2 : xs.length = 2 := hxl
  obtain ⟨a, b, rfl⟩ : ∃ a b, xs = [a, b] := by
    match xs, hl2 with
    | [a, b], _ => exact ⟨a, b, rfl⟩
  simp only [hc9, List.drop_zero, List.take_succ_cons, List.take_zero, List.getElem?_cons_zero] at hf0
  obtain ⟨s', e, hx, _⟩ := DataW.trod_string Tryd.underlying9 hf0
  injection e with e
  injection e with e
  subst e
  subst hx
  have hb := bulk_pos b.1
  have hs : y.f0.data.toList.length = y.f0.size := slenF y.f0
  simp only [List.map_cons, List.map_nil, Rows.uptoBulk, Rows.uptoBulkAll]
  omega
theorem sum_le {H : Type} : ∀ (l : List S43) (xs : List (DataW H × List MemPlace)), l.length = xs.length → (∀ (i : Nat) (y : S43) (x : DataW H × List MemPlace), l[i]? = some y → xs[i]? = some x → y.f0.size + 3 ≤ Rows.uptoBulk x.1) → (textP l).length + 3 * l.length ≤ Rows.uptoBulkAll (xs.map (·.1))
  | [], xs, _, _ => Nat.zero_le _
  | y :: l, [], h, _ => by cases h
  | y :: l, x :: xs, h, hb => by
    have h0 := hb 0 y x rfl rfl
    have ih := sum_le l xs (by simpa using h) (fun i y' x' hy hx => hb (i + 1) y' x' (by simpa using hy) (by simpa using hx))
    rw [textP_cons, List.length_append, slenF]
    simp only [List.map_cons, Rows.uptoBulkAll, List.length_cons]
    omega
theorem bulk_pieces {H : Type} {enc : TypeId × Value → H} {W : World} {base : Nat} {spare : Nat → Bool} {held : Bool} {a : Option Addr} {len cap : Nat} {x : DataW H} {ps : List MemPlace} {l : List S43}
    (h : DataW.Trod enc Tryd.prog W base spare held 22 (.slice a len cap) x ps) (hC : Kd.C k43 W a l.length l) (hlen : l.length = len) : (textP l).length + 3 * l.length ≤ Rows.uptoBulk x := by
  obtain ⟨fuel, hf⟩ := h
  rcases DataW.trod_slice Tryd.underlying22 hf with ⟨hcs, hx⟩ | ⟨a', len', cap', elems, rest, n, _, hcs, hx, _, _, _, hel, hi, _, _⟩
  · simp [Value.cells] at hcs
    have h0 : l = [] := List.eq_nil_of_length_eq_zero (by omega)
    subst h0
    exact Nat.zero_le _
  · simp [Value.cells] at hcs
    obtain ⟨rfl, rfl, rfl⟩ := hcs
    obtain ⟨hx, _⟩ := Prod.mk.inj hx
    subst hx
    have hs := sum_le (H := H) l elems (by omega) (fun i y x' hy hx' => by
      obtain ⟨hil, rfl⟩ := List.getElem?_eq_some_iff.1 hy
      have h2 := hi i (by omega)
      rw [hx'] at h2
      obtain ⟨cs, hcs, htr⟩ := Option.bind_eq_some_iff.1 h2
      have hcc : cs = [.string l[i].f0, .int .i64 l[i].f1] := by
        have hc43 : Tryd.prog.cellsOf 43 = 2 := by kernel_rfl
        obtain ⟨ad, ea, c0, c1⟩ := at_T43 hC (i : Int) (Int.natCast_nonneg i) (Int.ofNat_lt.2 hil)
        injection ea with ea
        subst ea
        rw [rd43 l i hil, Int.toNat_natCast] at c0 c1
        rw [hc43] at hcs
        unfold World.cells? at hcs
        split at hcs
        · have z0 : (a'.add (i * 2)).add 0 = a'.add (i * 2) := by simp [Addr.add]
          have z1 : (a'.add (i * 2)).add 1 = ⟨(a'.add (i * 2)).block, (a'.add (i * 2)).off + 1, none⟩ := by simp [Addr.add]
          simp only [show List.range 2 = [0, 1] from rfl, List.mapM_cons, List.mapM_nil, z0, z1, c0, c1] at hcs
          exact (Option.some.inj hcs).symm
        · cases hcs
      rw [hcc] at htr
      exact bulk_piece htr)
    simp only [Rows.uptoBulk]
    omega
end Go.Proofs.YtffldajbnhbkkaaDoor.Q
