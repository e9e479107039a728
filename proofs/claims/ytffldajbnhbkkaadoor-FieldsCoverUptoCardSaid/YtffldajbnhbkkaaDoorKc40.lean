import Derived.Test.YtffldajbnhbkkaaDoorKc1
import Derived.Test.YtffldajbnhbkkaaDoorKc3
import Derived.Test.YtffldajbnhbkkaaDoorKc39
import Derived.Lib.LaidU8T
import Derived.Test.YtffldajbnhbkkaaDoorKc2
import Derived.Test.YtffldajbnhbkkaaDoorKc4
namespace Go.Proofs.YtffldajbnhbkkaaDoor.Q
open Go.RowKit Go.Proofs.YtffldajbnhbkkaaDoorW.PrintWords Go.Proofs.YtffldajbnhbkkaaDoorW.PrintLast Go.Proofs.YtffldajbnhbkkaaDoorW.PrintMore Go.ChangeShapes Go.WideShapes Go.Deep
set_option linter.unusedVariables false
set_option maxRecDepth 100000
set_option linter.unusedSimpArgs false
theorem gd_of {W : World} (hL : laidMet Tryd.prog [("unicode/utf8.acceptRanges", Rows.laid_unicode_utf8_acceptRanges), ("unicode/utf8.first", Rows.laid_unicode_utf8_first)] W) : Gd W := by
  have e1 : (Rows.laid_unicode_utf8_acceptRanges : DataW Unit) = Lib.acceptData := by kernel_rfl
  have e2 : Rows.laid_unicode_utf8_first = Lib.firstData := by kernel_rfl
  rw [e1, e2] at hL
  have ht : Lib.Utf8Tabs 0 1 W := utf8Tabs_of_readsT (U8Types.of196 Tryd.laysValid) ⟨by kernel_rfl, by kernel_rfl, by kernel_rfl, by kernel_rfl, by kernel_rfl, by kernel_rfl, by kernel_rfl⟩ (Lib.laidMet.reads hL (.tail _ (.head _))) (Lib.laidMet.reads hL (.head _))
  exact ⟨ht, World.block_lt_of_cell? W _ (ht.2 0 (by decide)).1⟩
theorem bulk_pos {H : Type} (d : DataW H) : 1 ≤ Rows.uptoBulk d := by
  cases d with
  | lit l => cases l <;> simp [Rows.uptoBulk]
  | _ => simp [Rows.uptoBulk]
/-- A piece's datum is of bulk three more than its text is long. -/
theorem bulk_piece {H : Type} {enc : TypeId × Value → H} {w : World} {base : Nat} {spare : Nat → Bool} {held : Bool} {fuel : Nat} {y : S43} {x : DataW H × List MemPlace}
    (h : DataW.trod enc Tryd.prog w base spare held fuel 43 [.string y.f0, .int .i64 y.f1] = some x) : y.f0.size + 3 ≤ Rows.uptoBulk x.1 := by
  obtain ⟨xs, n, _, rfl, hlen, hxl, hf⟩ := DataW.trod_struct Tryd.underlying43 h
  have hc9 : Tryd.prog.cellsOf 9 = 1 := by kernel_rfl
  have hf0 := hf 0 ⟨"Text", 9, 0, false, "", "", 0⟩ rfl
  have hl2 : xs.length = 2 := hxl
  obtain ⟨a, b, rfl⟩ : ∃ a b, xs = [a, b] := by
    match xs, hl2 with
    | [a, b], _ => exact ⟨a, b, rfl⟩
  simp only [hc9, List.drop_zero, List.take_succ_cons, List.take_zero, List.getElem?_cons_zero] at hf0
  obtain ⟨s', e, hx, _⟩ := DataW.trod_string Tryd.underlying9 hf0
  injection e with e
  injection e with e
  subst e
  subst hx
  have hb := bulk_pos b.1
  have hs : y.f0.data.toList.length = y.f0.size := slenF y.f0
  simp only [List.map_cons, List.map_nil, Rows.uptoBulk, Rows.uptoBulkAll]
  omega
theorem sum_le {H : Type} : ∀ (l : List S43) (xs : List (DataW H × List MemPlace)), l.length = xs.length → (∀ (i : Nat) (y : S43) (x : DataW H × List MemPlace), l[i]? = some y → xs[i]? = some x → y.f0.size + 3 ≤ Rows.uptoBulk x.1) → (textP l).length + 3 * l.length ≤ Rows.uptoBulkAll (xs.map (·.1))
  | [], xs, _, _ => Nat.zero_le _
  | y :: l, [], h, _ => by cases h
  | y :: l, x :: xs, h, hb => by
    have h0 := hb 0 y x rfl rfl
    have ih := sum_le l xs (by simpa using h) (fun i y' x' hy hx => hb (i + 1) y' x' (by simpa using hy) (by simpa using hx))
    rw [textP_cons, List.length_append, slenF]
    simp only [List.map_cons, Rows.uptoBulkAll, List.length_cons]
    omega
theorem bulk_pieces {H : Type} {enc : TypeId × Value → H} {W : World} {base : Nat} {spare : Nat → Bool} {held : Bool} {a : Option Addr} {len cap : Nat} {x : DataW H} {ps : List MemPlace} {l : List S43}
    (h : DataW.Trod enc Tryd.prog W base spare held 22 (.slice a len cap) x ps) (hC : Kd.C k43 W a l.length l) (hlen : l.length = len) : (textP l).length + 3 * l.length ≤ Rows.uptoBulk x := by
  obtain ⟨fuel, hf⟩ := h
  rcases DataW.trod_slice Tryd.underlying22 hf with ⟨hcs, hx⟩ | ⟨a', len', cap', elems, rest, n, _, hcs, hx, _, _, _, hel, hi, _, _⟩
  · simp [Value.cells] at hcs
    have h0 : l = [] := List.eq_nil_of_length_eq_zero (by omega)
    subst h0
    exact Nat.zero_le _
  · simp [Value.cells] at hcs
    obtain ⟨rfl, rfl, rfl⟩ := hcs
    obtain ⟨hx, _⟩ := Prod.mk.inj hx
    subst hx
    have hs := sum_le (H := H) l elems (by omega) (fun i y x' hy hx' => by
      obtain ⟨hil, rfl⟩ := List.getElem?_eq_some_iff.1 hy
      have h2 := hi i (by omega)
      rw [hx'] at h2
      obtain ⟨cs, hcs, htr⟩ := Option.bind_eq_some_iff.1 h2
      have hcc : cs = [.string l[i].f0, .int .i64 l[i].f1] := by
        have hc43 : Tryd.prog.cellsOf 43 = 2 := by kernel_rfl
        obtain ⟨ad, ea, c0, c1⟩ := at_T43 hC (i : Int) (Int.natCast_nonneg i) (Int.ofNat_lt.2 hil)
        injection ea with ea
        subst ea
        rw [rd43 l i hil, Int.toNat_natCast] at c0 c1
        rw [hc43] at hcs
        unfold World.cells? at hcs
        split at hcs
        · have z0 : (a'.add (i * 2)).add 0 = a'.add (i * 2) := by simp [Addr.add]
          have z1 : (a'.add (i * 2)).add 1 = ⟨(a'.add (i * 2)).block, (a'.add (i * 2)).off + 1, none⟩ := by simp [Addr.add]
          simp only [show List.range 2 = [0, 1] from rfl, List.mapM_cons, List.mapM_nil, z0, z1, c0, c1] at hcs
          exact (Option.some.inj hcs).symm
        · cases hcs
      rw [hcc] at htr
      exact bulk_piece htr)
    simp only [Rows.uptoBulk]
    omega
end Go.Proofs.YtffldajbnhbkkaaDoor.Q

namespace Go.Proofs.YtffldajbnhbkkaaDoor.Q
open Go.RowKit Go.Proofs.YtffldajbnhbkkaaDoorW.PrintWords Go.Proofs.YtffldajbnhbkkaaDoorW.PrintLast Go.Proofs.YtffldajbnhbkkaaDoorW.PrintMore
set_option linter.unusedVariables false
set_option linter.unusedSimpArgs false
theorem info4 : (Tryd.prog.info? 4).map (fun i => (i.zero, i.size, i.bytes)) = some (some (.bool false), 1, 1) := by kernel_rfl
structure S34 where
  f0 : Int
  f1 : Int
  f2 : Int
def z34 : S34 := ⟨(0 : Int), (0 : Int), (0 : Int)⟩
def k34 : Kd S34 := Kd.iso (Kd.pair (Kd.int .i64) (Kd.pair (Kd.int .i64) (Kd.int .i64))) (fun x : S34 => (x.f0, x.f1, x.f2))
theorem k34_open {w : World} {x : S34} {cs : List Value} (h : k34.K w x cs) : cs = [.int .i64 x.f0, .int .i64 x.f1, .int .i64 x.f2] := by
  obtain ⟨_, _, rfl, rfl, ⟨_, _, rfl, rfl, rfl⟩⟩ := h
  exact rfl
def rd_T34 (xs : List S34) (i : Int) : S34 := xs.getD i.toNat z34
theorem at_T34 {w : World} {A : Option Addr} {n : Nat} {xs : List S34} (h : Kd.C k34 w A n xs) (i : Int) (h0 : 0 ≤ i) (h1 : i < n) : ∃ ad , A = some ad ∧ w.cell? (ad.add (i.toNat * 3)) = some (.int .i64 (rd_T34 xs i).f0) ∧ w.cell? ⟨(ad.add (i.toNat * 3)).block, (ad.add (i.toNat * 3)).off + 1, none⟩ = some (.int .i64 (rd_T34 xs i).f1) ∧ w.cell? ⟨(ad.add (i.toNat * 3)).block, (ad.add (i.toNat * 3)).off + 2, none⟩ = some (.int .i64 (rd_T34 xs i).f2) := by
  obtain ⟨ad, c, e, _, hK, hc0⟩ := Kd.C_get h z34 i h0 h1
  have hc : ∀ j u, c[j]? = some u → w.cell? (ad.add (i.toNat * 3 + j)) = some u := hc0
  obtain rfl := k34_open hK
  exact ⟨ad, e, hc 0 _ rfl, by rw [← add_field _ _ 1 (by omega)]; exact hc 1 _ rfl, by rw [← add_field _ _ 2 (by omega)]; exact hc 2 _ rfl⟩
end Go.Proofs.YtffldajbnhbkkaaDoor.Q

namespace Go.Proofs.YtffldajbnhbkkaaDoor.Q
open Go.RowKit Go.Proofs.YtffldajbnhbkkaaDoorW.PrintWords Go.Proofs.YtffldajbnhbkkaaDoorW.PrintLast Go.Proofs.YtffldajbnhbkkaaDoorW.PrintMore Go.Proofs.YtffldajbnhbkkaaDoor.Opn
set_option linter.unusedVariables false
set_option linter.unusedSimpArgs false
structure S25 where
  f0 : ByteArray
  f1 : List (S31)
def ok34 (x : S34) : Prop := ((Lit.int .i64 x.f0).wf = true) ∧ (((Lit.int .i64 x.f1).wf = true) ∧ ((Lit.int .i64 x.f2).wf = true))
theorem open34 : Opens Tryd.prog 34 k34 ok34 :=
  Opens.struct Tryd.underlying34 (OpensF.cons (Opens.int .i64 (by kernel_rfl)) rfl (by kernel_rfl) (OpensF.cons (Opens.int .i64 (by kernel_rfl)) rfl (by kernel_rfl) (OpensF.one (Opens.int .i64 (by kernel_rfl)) rfl (by kernel_rfl))))
    (by kernel_rfl) (fun x : S34 => (x.f0, x.f1, x.f2)) (fun p => ⟨p.1, p.2.1, p.2.2⟩) (fun _ => rfl)
end Go.Proofs.YtffldajbnhbkkaaDoor.Q

namespace Go.Proofs.YtffldajbnhbkkaaDoor.Q
open Go.RowKit Go.Proofs.YtffldajbnhbkkaaDoorW.PrintWords Go.Proofs.YtffldajbnhbkkaaDoorW.PrintLast Go.Proofs.YtffldajbnhbkkaaDoorW.PrintMore Go.ChangeShapes Go.WideShapes Go.Deep
set_option linter.unusedVariables false
set_option maxRecDepth 100000
set_option linter.unusedSimpArgs false
theorem all_len {H : Type} : ∀ xs : List (DataW H), xs.length ≤ Rows.uptoBulkAll xs
  | [] => Nat.zero_le _
  | x :: xs => by
    have := all_len xs
    have := bulk_pos x
    simp only [Rows.uptoBulkAll, List.length_cons]
    omega
theorem all_len3 {H : Type} : ∀ xs : List (DataW H), (∀ x ∈ xs, 3 ≤ Rows.uptoBulk x) → 3 * xs.length ≤ Rows.uptoBulkAll xs
  | [], _ => Nat.zero_le _
  | x :: xs, h => by
    have := all_len3 xs (fun y hy => h y (List.mem_cons_of_mem _ hy))
    have := h x (List.mem_cons_self ..)
    simp only [Rows.uptoBulkAll, List.length_cons]
    omega
/-- A row of structs of three fields: three times its length is no more than its datum's bulk. -/
theorem bulk_row {H : Type} {enc : TypeId × Value → H} {W : World} {base : Nat} {spare : Nat → Bool} {held : Bool} {fuel : Nat} {e t : TypeId} {fs : Array Field} (ht : Tryd.prog.underlying t = some (.slice e)) (he : Tryd.prog.underlying e = some (.struct fs)) (h3 : fs.size = 3) {a : Option Addr} {len cap : Nat} {x : DataW H × List MemPlace}
    (h : DataW.trod enc Tryd.prog W base spare held fuel t [.slice a len cap] = some x) : 3 * len ≤ Rows.uptoBulk x.1 := by
  rcases DataW.trod_slice ht h with ⟨hcs, hx⟩ | ⟨a', len', cap', elems, rest, n, _, hcs, hx, _, _, _, hel, hi, _, _⟩
  · simp only [List.cons.injEq, Value.slice.injEq, and_true] at hcs
    omega
  · simp only [List.cons.injEq, Value.slice.injEq, and_true] at hcs
    subst hx
    have := all_len3 (elems.map (·.1)) (fun y hy => by
      obtain ⟨z, hz, rfl⟩ := List.mem_map.1 hy
      obtain ⟨i, hil, rfl⟩ := List.getElem_of_mem hz
      have h2 := hi i (by omega)
      rw [List.getElem?_eq_getElem hil] at h2
      obtain ⟨cs, _, htr⟩ := Option.bind_eq_some_iff.1 h2
      obtain ⟨xs, n, _, hx, _, hxl, _⟩ := DataW.trod_struct he htr
      rw [hx]
      have := all_len (xs.map (·.1))
      rw [List.length_map] at this
      simp only [Rows.uptoBulk]
      omega)
    rw [List.length_map] at this
    simp only [Rows.uptoBulk]
    omega
theorem bulk_slice {H : Type} {enc : TypeId × Value → H} {W : World} {base : Nat} {spare : Nat → Bool} {held : Bool} {e t : TypeId} {fs : Array Field} (ht : Tryd.prog.underlying t = some (.slice e)) (he : Tryd.prog.underlying e = some (.struct fs)) (h3 : fs.size = 3) {a : Option Addr} {len cap : Nat} {x : DataW H} {ps : List MemPlace}
    (h : DataW.Trod enc Tryd.prog W base spare held t (.slice a len cap) x ps) : 3 * len ≤ Rows.uptoBulk x := by
  obtain ⟨fuel, h⟩ := h
  exact bulk_row ht he h3 h
end Go.Proofs.YtffldajbnhbkkaaDoor.Q

namespace Go.Proofs.YtffldajbnhbkkaaDoor.Q
open Go.RowKit Go.Proofs.YtffldajbnhbkkaaDoorW.PrintWords Go.Proofs.YtffldajbnhbkkaaDoorW.PrintLast Go.Proofs.YtffldajbnhbkkaaDoorW.PrintMore
set_option linter.unusedVariables false
set_option linter.unusedSimpArgs false
/-- A row of n Bools, by the bits of m. -/
def bN (n m : Nat) : Array Bool := ⟨(List.range n).map fun i => m.testBit i⟩
theorem bce {w w' : World} {a : Addr} {v : Value} (hb : Below w.heap.size w w') (h : w.cell? a = some v) : w'.cell? a = some v := (hb.cell (World.block_lt_of_cell? w _ h)).trans h
end Go.Proofs.YtffldajbnhbkkaaDoor.Q
