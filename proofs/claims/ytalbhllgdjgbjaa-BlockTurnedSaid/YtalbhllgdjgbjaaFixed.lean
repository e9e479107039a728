import Derived.Test.YtalbhllgdjgbjaaReads
import Derived.Test.YtalbhllgdjgbjaaSeal
namespace Go.Proofs.Ytalbhllgdjgbjaa.Q
open Go.RowKit Go.Proofs.YtalbhllgdjgbjaaW.PrintWords Go.Proofs.YtalbhllgdjgbjaaW.PrintLast Go.Proofs.YtalbhllgdjgbjaaW.PrintMore
set_option linter.unusedVariables false
set_option linter.unusedSimpArgs false


theorem sum_123 : crc ⟨#[49, 50, 51, 52, 53, 54, 55, 56, 57]⟩ = 3421780262 := by decide +kernel
def oneF : S40 := ⟨1, 2, 5, 0⟩
theorem ok_one : okFs [oneF] := fun k hk => by
  obtain rfl : k = 0 := by simpa using hk
  exact ⟨by decide, by decide⟩
theorem r_abc0 : readP ⟨#[97, 98, 99]⟩ [oneF] 0 0 3 = (⟨#[97, 98, 99]⟩, 0) := by decide +kernel
theorem r_abc1 : readP ⟨#[97, 98, 99]⟩ [oneF] 1 0 3 = (⟨#[97, 98]⟩, 0) := by decide +kernel
theorem n_abc0 : readN ⟨#[97, 98, 99]⟩ 0 0 3 = 1 := by decide +kernel
theorem n_abc1 : readN ⟨#[97, 98, 99]⟩ 1 0 3 = 2 := by decide +kernel

theorem lit40 (W : World) (f : S40) : Kd.C k40 (W.alloc (Obj.cells #[.int .i64 f.f0, .int .i64 f.f1, .int .i64 f.f2, .int .i64 f.f3] 40)) (some ⟨W.heap.size, 0, none⟩) [f].length [f] := by
  refine ⟨rfl, by simp, fun _ => ⟨_, rfl, fun j p hj => ?_⟩⟩
  have hj0 : j = 0 := by
    rcases j with _ | j
    · rfl
    · simp at hj
  subst hj0
  obtain rfl : f = p := by simpa using hj
  refine ⟨_, rfl, k40_mk _ f, fun i u hu => ?_⟩
  rw [add_plain]
  have h := blk_cell (blk_new W (Obj.cells #[.int .i64 f.f0, .int .i64 f.f1, .int .i64 f.f2, .int .i64 f.f3] 40)) i
  rw [show 0 * k40.sz + i = i from by omega, h]
  simpa using hu
theorem nilC40 (W : World) : Kd.C k40 W none ([] : List S40).length [] := Kd.C_nil k40 W

/-- New's answer where the faults may be. -/
theorem NewPost.yes {T : Nat} {w w' : World} {img : ByteArray} {fs : List S40} {e : Ending} (h : NewPost T w img fs e w') (hok : okFs fs) :
    ∃ g, e = .returned (.tuple #[.pointer (some ⟨g, 0, none⟩), .int .i64 0]) ∧ Disk T w.heap.size w' g img fs 0 ∧ Below w.heap.size w w' :=
  h.elim (fun h => ⟨_, h.2.1.choose_spec.1, h.2.1.choose_spec.2, h.2.2⟩) (fun h => absurd hok h.1)
theorem Disk.lt {T B g : Nat} {w : World} {img : ByteArray} {fs : List S40} {n : Int} (h : Disk T B w g img fs n) : B ≤ g ∧ g < w.heap.size := by
  obtain ⟨v, hb, hB, _⟩ := h
  exact ⟨hB, blk_lt hb⟩
/-- A disk is as it was where its blocks are. -/
theorem Disk.below {T B g : Nat} {w w' : World} {img : ByteArray} {fs : List S40} {n : Int} (h : Disk T B w g img fs n) (hb : Below w.heap.size w w') : Disk T B w' g img fs n := by
  obtain ⟨v, hb0, hB, hR⟩ := h
  exact ⟨v, (hb.block g (blk_lt hb0)).trans hb0, hB, Kd.R_below hR hb⟩

set_option maxHeartbeats 2000000 in
set_option maxRecDepth 100000 in
theorem fixed_calls (w : World) : Calls Try.prog 13 #[] w fun e w' => e = .returned (.bool true) ∧ Below w.heap.size w w' := by
  have hu40 := Try.underlying40
  have hsz := sealB_size ⟨#[97]⟩
  have hsz1 : (sealB ⟨#[97]⟩).size = 17 := by rw [hsz]; rfl
  clear hsz
  go_enter Try.func13, Try.ntmps13
  go_wp2_with fail
  refine (seal_calls ⟨#[97]⟩ _ (by decide)).mono ?_
  rintro e w1 ⟨rfl, hb1⟩
  have HB1 := Aside0.mk hb1
  clear hb1
  go_wp2_with fail
  refine (new_main ⟨#[97, 98, 99]⟩ _ 1 [oneF] _ (by decide) (by decide) (lit40 w1 oneF)).mono ?_
  intro e w4 hp4
  obtain ⟨g, rfl, hd4, hb4⟩ := hp4.yes ok_one
  clear hp4
  have HD4 := Aside0.mk hd4
  have HB4 := Aside0.mk (below_then (below_alloc HB1.out _) (below_alloc HB1.out _).size hb4)
  have HG4 := Aside0.mk (Nat.le_trans (below_alloc HB1.out _).size hd4.lt.1)
  clear hd4 hb4
  go_wp2_with fail
  refine (sum_calls ⟨#[49, 50, 51, 52, 53, 54, 55, 56, 57]⟩ _ (by decide)).mono ?_
  rintro e w5 ⟨rfl, hb5⟩
  rw [sum_123]
  have HD5 := Aside0.mk (HD4.out.below hb5.below)
  have HB5 := Aside0.mk (below_step HB4.out hb5.below)
  clear hb5
  go_wp2_with fail
  refine (read_any _ g ⟨#[97, 98, 99]⟩ [oneF] 0 0 3 _ HD5.out ok_one (by decide) (by decide) (by decide) (by decide) (by decide)).mono ?_
  rintro e w6 ⟨rfl, hd6, ho6⟩
  rw [r_abc0]
  rw [n_abc0] at hd6
  have HD6 := Aside0.mk hd6
  have HB6 := Aside0.mk (ho6.below HB5.out HG4.out HB5.out.size)
  clear hd6 ho6
  go_wp2_with fail
  refine (read_any _ g ⟨#[97, 98, 99]⟩ [oneF] 1 0 3 _ HD6.out ok_one (by decide) (by decide) (by decide) (by decide) (by decide)).mono ?_
  rintro e w7 ⟨rfl, hd7, ho7⟩
  rw [r_abc1]
  rw [n_abc1] at hd7
  have HD7 := Aside0.mk hd7
  have HB7 := Aside0.mk (ho7.below HB6.out HG4.out HB6.out.size)
  clear hd7 ho7
  go_wp2_with fail
  refine (reads_calls _ g ⟨#[97, 98, 99]⟩ [oneF] 2 _ HD7.out).mono ?_
  rintro e w8 ⟨rfl, rfl⟩
  go_wp2_with fail
  refine (size_calls _ g ⟨#[97, 98, 99]⟩ [oneF] 2 _ HD7.out).mono ?_
  rintro e w8 ⟨rfl, rfl⟩
  go_wp2
  go_ret
  exact ⟨rfl, HB7.out⟩
end Go.Proofs.Ytalbhllgdjgbjaa.Q
