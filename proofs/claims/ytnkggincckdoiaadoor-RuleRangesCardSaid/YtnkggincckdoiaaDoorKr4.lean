import Derived.Test.YtnkggincckdoiaaDoorKr3
namespace Go.Proofs.YtnkggincckdoiaaDoor.Q
open Go.RowKit Go.Proofs.YtnkggincckdoiaaDoorW.PrintWords Go.Proofs.YtnkggincckdoiaaDoorW.PrintLast Go.Proofs.YtnkggincckdoiaaDoorW.PrintMore
set_option linter.unusedVariables false
set_option linter.unusedSimpArgs false
/-- The next part, if it is a number of at most nine digits. -/
def numT (ts : List ByteArray) : Option (Int × List ByteArray) :=
  match Lib.atoiAll (ts.headD ByteArray.empty).data.toList with
  | .ok v => if (ts.headD ByteArray.empty).size ≤ 9 then some (v, ts.tail) else none
  | _ => none
theorem Rb.baseB {W0 w w' : World} {r : Nat} {ts : List ByteArray} (h : Rb r w w') (hs : RS W0 w r ts) : Below W0.heap.size W0 w' := h.base hs.hr hs.base
set_option maxHeartbeats 1000000 in
set_option maxRecDepth 100000 in
theorem number_in (W0 w : World) (r : Nat) (ts : List ByteArray) (hG : Gd W0) (h : RS W0 w r ts) :
    Calls Tryd.prog 54 #[.pointer (some ⟨r, 0, none⟩)] w fun e w' => PostR W0 w r ((numT ts).map fun x => (.int .i64 x.1, x.2)) e w' := by
  have NX := Aside0.mk (next_in W0 w r ts h)
  have hsz := h.hd
  have AT := Aside0.mk (fun (w2 : World) (h2 : RS W0 w2 r ts.tail) => atoi_any (ts.headD ByteArray.empty) (by omega) w2 (Gd.below hG h2.base))
  unfold numT
  have H := Aside0.mk h
  generalize ts.headD ByteArray.empty = t at NX AT hsz ⊢
  have MF := Aside0.mk (fun w2 => must_in false w2)
  have MT := Aside0.mk (fun w2 => must_in true w2)
  clear h
  have hlen : (t.size : Int) = (t.size : Int) := rfl
  cases ha : Lib.atoiAll t.data.toList with
  | ok v =>
    simp only [ha] at AT ⊢
    by_cases h9 : t.size ≤ 9
    · rw [if_pos h9]
      have h9i : decide ((t.size : Int) ≤ 9) = true := decide_eq_true (by omega)
      clear ha hsz hlen
      go_enter Tryd.func54, Tryd.ntmps54
      go_wp2_with (first | (go_at_call 36; refine NX.out.mono ?_; rintro e w2 ⟨rfl, hs, hb⟩; have HS := Aside0.mk hs; have HB := Aside0.mk hb; clear hs hb) | (go_at_call 64; refine (AT.out _ HS.out).mono ?_; rintro e w3 ⟨hb, ⟨v', hv, rfl⟩ | ⟨hv, -⟩⟩; (obtain rfl := Lib.NumEnd.ok.inj hv; have HS3 := Aside0.mk (HS.out.below hb); have HB3 := Aside0.mk (HB.out.trans (Rb.of_below hb)); clear hb hv); rotate_left; exact absurd rfl (hv v)) | (go_at_call 28; refine (MT.out _).mono ?_; rintro e w4 ⟨rfl, rfl⟩; skip))
      go_ret
      exact ⟨rfl, HS3.out, HB3.out⟩
    · rw [if_neg h9]
      have h9i : decide ((t.size : Int) ≤ 9) = false := decide_eq_false (by omega)
      clear ha hsz hlen
      go_enter Tryd.func54, Tryd.ntmps54
      go_wp2_with (first | (go_at_call 36; refine NX.out.mono ?_; rintro e w2 ⟨rfl, hs, hb⟩; have HS := Aside0.mk hs; have HB := Aside0.mk hb; clear hs hb) | (go_at_call 64; refine (AT.out _ HS.out).mono ?_; rintro e w3 ⟨hb, ⟨v', hv, rfl⟩ | ⟨hv, -⟩⟩; (obtain rfl := Lib.NumEnd.ok.inj hv; have HS3 := Aside0.mk (HS.out.below hb); have HB3 := Aside0.mk (HB.out.trans (Rb.of_below hb)); clear hb hv); rotate_left; exact absurd rfl (hv v)) | (go_at_call 28; refine (MF.out _).mono ?_; rintro e w4 ⟨rfl, rfl⟩; skip))
      exact ⟨rfl, rfl, HB3.out.baseB H.out⟩
  | «syntax» =>
    simp only [ha] at AT ⊢
    clear ha hsz hlen
    go_enter Tryd.func54, Tryd.ntmps54
    go_wp2_with (first | (go_at_call 36; refine NX.out.mono ?_; rintro e w2 ⟨rfl, hs, hb⟩; have HS := Aside0.mk hs; have HB := Aside0.mk hb; clear hs hb) | (go_at_call 64; refine (AT.out _ HS.out).mono ?_; rintro e w3 ⟨hb, ⟨v', hv, rfl⟩ | ⟨-, v, T, N, rfl⟩⟩; (cases hv); (have HB3 := Aside0.mk (HB.out.trans (Rb.of_below hb)); clear hb)) | (go_at_call 28; refine (MF.out _).mono ?_; rintro e w4 ⟨rfl, rfl⟩; skip))
    exact ⟨rfl, rfl, HB3.out.baseB H.out⟩
  | range =>
    simp only [ha] at AT ⊢
    clear ha hsz hlen
    go_enter Tryd.func54, Tryd.ntmps54
    go_wp2_with (first | (go_at_call 36; refine NX.out.mono ?_; rintro e w2 ⟨rfl, hs, hb⟩; have HS := Aside0.mk hs; have HB := Aside0.mk hb; clear hs hb) | (go_at_call 64; refine (AT.out _ HS.out).mono ?_; rintro e w3 ⟨hb, ⟨v', hv, rfl⟩ | ⟨-, v, T, N, rfl⟩⟩; (cases hv); (have HB3 := Aside0.mk (HB.out.trans (Rb.of_below hb)); clear hb)) | (go_at_call 28; refine (MF.out _).mono ?_; rintro e w4 ⟨rfl, rfl⟩; skip))
    exact ⟨rfl, rfl, HB3.out.baseB H.out⟩
def words6 : List ByteArray := [⟨#[122, 101, 114, 111]⟩, ⟨#[111, 110, 101]⟩, ⟨#[116, 119, 111]⟩, ⟨#[102, 101, 119]⟩, ⟨#[109, 97, 110, 121]⟩, ⟨#[111, 116, 104, 101, 114]⟩]
/-- The next part, if it is a category's word. -/
def catT (ts : List ByteArray) : Option (Int × List ByteArray) :=
  if 0 ≤ Lib.idxOfS words6 (ts.headD ByteArray.empty) then some (Lib.idxOfS words6 (ts.headD ByteArray.empty), ts.tail) else none
theorem words_cells {w w2 : World} {r : Nat} {T : TypeId} (hr : r < w.heap.size) (hb : Rb r (w.alloc (.cells #[.string ⟨#[122, 101, 114, 111]⟩, .string ⟨#[111, 110, 101]⟩, .string ⟨#[116, 119, 111]⟩, .string ⟨#[102, 101, 119]⟩, .string ⟨#[109, 97, 110, 121]⟩, .string ⟨#[111, 116, 104, 101, 114]⟩] T)) w2) :
    ∀ j, j < words6.length → w2.cell? ⟨w.heap.size, 0 + j, none⟩ = some (.string (words6.getD j ByteArray.empty)) := by
  intro j hj
  have h1 := (hb.block w.heap.size (by simp) (by omega)).trans (blk_new w _)
  rw [Nat.zero_add]
  have hj6 : j < 6 := hj
  refine (blk_cell h1 j).trans ?_
  rcases (by omega : j = 0 ∨ j = 1 ∨ j = 2 ∨ j = 3 ∨ j = 4 ∨ j = 5) with rfl | rfl | rfl | rfl | rfl | rfl <;> rfl
set_option maxHeartbeats 1000000 in
set_option maxRecDepth 100000 in
theorem category_in (W0 w : World) (r : Nat) (ts : List ByteArray) (h : RS W0 w r ts) :
    Calls Tryd.prog 27 #[.pointer (some ⟨r, 0, none⟩)] w fun e w' => PostR W0 w r ((catT ts).map fun x => (.int .i64 x.1, x.2)) e w' := by
  have NX := Aside0.mk (fun (w2 : World) (h2 : RS W0 w2 r ts) => next_in W0 w2 r ts h2)
  have H := Aside0.mk h
  have MF := Aside0.mk (fun w2 => must_in false w2)
  have MT := Aside0.mk (fun w2 => must_in true w2)
  unfold catT
  generalize ts.headD ByteArray.empty = t at NX ⊢
  have IX := Aside0.mk (fun (b o : Nat) (w2 : World) hc => Tryd.slices_Index_string b o 6 6 words6 t w2 (Nat.le_refl _) (by omega) hc)
  have hdr : r < w.heap.size := by obtain ⟨_, _, _, _, _, h3, _⟩ := h.mem; exact (Array.getElem?_eq_some_iff.1 h3).1
  have e6 : words6.take 6 = words6 := rfl
  simp only [e6] at IX
  generalize hx : Lib.idxOfS words6 t = x at IX ⊢
  have HDR := Aside0.mk hdr
  clear h hx hdr e6
  by_cases h0 : 0 ≤ x
  · rw [if_pos h0]
    go_enter Tryd.func27, Tryd.ntmps27
    go_wp2_with (first | (go_at_call 36; refine (NX.out _ (H.out.below (below_alloc (Below.refl _ _) _))).mono ?_; rintro e w2 ⟨rfl, hs, hb⟩; have HS := Aside0.mk hs; have HW := Aside0.mk (words_cells HDR.out hb); have HB := Aside0.mk ((Rb.of_below (below_alloc (Below.refl _ _) _)).trans hb); clear hs hb) | (go_at_call 37; refine (IX.out _ _ _ HW.out).mono ?_; rintro e w3 ⟨rfl, rfl⟩; skip) | (go_at_call 28; refine (MT.out _).mono ?_; rintro e w4 ⟨rfl, rfl⟩; skip))
    go_ret
    exact ⟨rfl, HS.out, HB.out⟩
  · rw [if_neg h0]
    have hd : decide (0 ≤ x) = false := decide_eq_false h0
    go_enter Tryd.func27, Tryd.ntmps27
    go_wp2_with (first | (go_at_call 36; refine (NX.out _ (H.out.below (below_alloc (Below.refl _ _) _))).mono ?_; rintro e w2 ⟨rfl, hs, hb⟩; have HS := Aside0.mk hs; have HW := Aside0.mk (words_cells HDR.out hb); have HB := Aside0.mk ((Rb.of_below (below_alloc (Below.refl _ _) _)).trans hb); clear hs hb) | (go_at_call 37; refine (IX.out _ _ _ HW.out).mono ?_; rintro e w3 ⟨rfl, rfl⟩; skip) | (go_at_call 28; refine (MF.out _).mono ?_; rintro e w4 ⟨rfl, rfl⟩; skip))
    exact ⟨rfl, rfl, HB.out.baseB H.out⟩
end Go.Proofs.YtnkggincckdoiaaDoor.Q
