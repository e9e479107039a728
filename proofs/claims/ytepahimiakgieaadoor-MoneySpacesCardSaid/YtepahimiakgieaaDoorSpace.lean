import Derived.Test.YtepahimiakgieaaDoorConcat
import Derived.Test.YtepahimiakgieaaDoorQ47
namespace Go.Proofs.YtepahimiakgieaaDoor.Q
open Go.RowKit Go.Proofs.YtepahimiakgieaaDoorW.PrintWords Go.Proofs.YtepahimiakgieaaDoorW.PrintMore
set_option linter.unusedVariables false
set_option linter.unusedSimpArgs false

/-! ### What stands between a currency and digits -/
theorem C_block {α : Type} {d : Kd α} {w : World} {g t : Nat} {cells : Array Value} {ps : List α} (hb : w.heap[g]? = some (.cells cells t (0, 0))) (hm : ps.length ≤ 9223372036854775807)
    (h : ∀ j p, ps[j]? = some p → ∃ c, c.length = d.sz ∧ d.K w p c ∧ ∀ i u, c[i]? = some u → cells[j * d.sz + i]? = some u) : d.C w (some ⟨g, 0, none⟩) ps.length ps := by
  refine ⟨rfl, hm, fun _ => ⟨⟨g, 0, none⟩, rfl, fun j p hj => ?_⟩⟩
  obtain ⟨c, h1, h2, h3⟩ := h j p hj
  refine ⟨c, h1, h2, fun i u hu => ?_⟩
  have := h3 i u hu
  rw [Addr.add_lit, Nat.zero_add, blk_cell hb]
  exact this
theorem gap_reads {w : World} {g : Nat} {s : ByteArray} (hb : w.heap[g]? = some (.cells #[.string s, .int .i64 0] 43 (0, 0))) : Kd.C k43 w (some ⟨g, 0, none⟩) [(⟨s, 0⟩ : S43)].length [(⟨s, 0⟩ : S43)] := by
  refine C_block hb (by simp) (fun j p hj => ?_)
  cases j with
  | succ j => simp at hj
  | zero =>
    have : (⟨s, 0⟩ : S43) = p := by simpa using hj
    subst this
    refine ⟨[.string s, .int .i64 0], rfl, k43_mk w _, fun i u hu => ?_⟩
    match i, hu with
    | 0, hu => simpa using hu
    | 1, hu => simpa using hu
theorem lists1 {w : World} {g : Nat} {A : Option Addr} {c : Nat} {l : List S43} (hb : w.heap[g]? = some (.cells #[.slice A l.length c] 37 (0, 0))) (h : Kd.C k43 w A l.length l) (hc : l.length ≤ c) :
    Kd.C (Kd.slice 43 k43) w (some ⟨g, 0, none⟩) [l].length [l] := by
  refine C_block hb (by simp) (fun j p hj => ?_)
  cases j with
  | succ j => simp at hj
  | zero =>
    have : l = p := by simpa using hj
    subst this
    refine ⟨[.slice A l.length c], rfl, ⟨A, c, rfl, hc, h⟩, fun i u hu => ?_⟩
    match i, hu with
    | 0, hu => simpa using hu
theorem lists2 {w : World} {g : Nat} {A A' : Option Addr} {c c' : Nat} {l l' : List S43} (hb : w.heap[g]? = some (.cells #[.slice A l.length c, .slice A' l'.length c'] 37 (0, 0))) (h : Kd.C k43 w A l.length l) (hc : l.length ≤ c) (h' : Kd.C k43 w A' l'.length l') (hc' : l'.length ≤ c') :
    Kd.C (Kd.slice 43 k43) w (some ⟨g, 0, none⟩) [l, l'].length [l, l'] := by
  refine C_block hb (by simp) (fun j p hj => ?_)
  match j, hj with
  | 0, hj =>
    have : l = p := by simpa using hj
    subst this
    refine ⟨[.slice A l.length c], rfl, ⟨A, c, rfl, hc, h⟩, fun i u hu => ?_⟩
    match i, hu with
    | 0, hu => simpa using hu
  | 1, hj =>
    have : l' = p := by simpa using hj
    subst this
    refine ⟨[.slice A' l'.length c'], rfl, ⟨A', c', rfl, hc', h'⟩, fun i u hu => ?_⟩
    have e1 : (Kd.slice 43 k43).sz = 1 := rfl
    rw [e1]
    match i, hu with
    | 0, hu => simpa using hu
def letP (c : Int) : Bool := (decide (65 ≤ c) && decide (c ≤ 90)) || (decide (97 ≤ c) && decide (c ≤ 122))
theorem letter_is (c : Int) : money_letter.f c = some (letP c) := by
  unfold money_letter.f letP
  by_cases h1 : c ≥ 65
  · rw [if_pos h1, decide_eq_true h1]
    by_cases h2 : c ≤ 90
    · rw [if_pos h2, decide_eq_true h2]; rfl
    · rw [if_neg h2, decide_eq_false h2]
      by_cases h3 : c ≥ 97
      · rw [if_pos h3, decide_eq_true h3]; rfl
      · rw [if_neg h3, decide_eq_false h3]; rfl
  · rw [if_neg h1, decide_eq_false h1]
    by_cases h3 : c ≥ 97
    · rw [if_pos h3, decide_eq_true h3]; rfl
    · rw [if_neg h3, decide_eq_false h3]; rfl
/-- Is a piece a currency's, and its byte there a letter? -/
def joinsB (p : S43) (i : Int) : Bool := p.f1 == 11 && (!(p.f0.size == 0) && letP (bt p.f0 i))
def leftP (l : List S43) (s : ByteArray) : List S43 := match l.getLast? with | none => l | some p => if joinsB p ((p.f0.size : Int) - 1) = true then l ++ [⟨s, 0⟩] else l
def rightP (l : List S43) (s : ByteArray) : List S43 := match l.head? with | none => l | some p => if joinsB p 0 = true then ⟨s, 0⟩ :: l else l
def leftS (l : List S43) (s : ByteArray) : List S43 := if s.size = 0 then l else leftP l s
def rightS (l : List S43) (s : ByteArray) : List S43 := if s.size = 0 then l else rightP l s
theorem letter_calls (c : Int) (w : World) : Calls Tryd.prog 28 #[.int .u8 c] w fun e w' => e = .returned (.bool (letP c)) ∧ Drawn0 w w' := money_letter.calls c _ w (letter_is c)
theorem row_one {g : Nat} {A : Option Addr} {c : Nat} {l : List S43} (w : World) (hb : w.heap[g]? = some (.cells #[.slice A l.length c] 37 (0, 0))) (h : Kd.C k43 w A l.length l) (hc : l.length ≤ c) (hl : l.length ≤ 5864062014804) :
    Calls Tryd.prog 27 #[.slice (some ⟨g, 0, none⟩) 1 1] w fun e w' => ∃ A' : Option Addr, e = .returned (.slice A' l.length l.length) ∧ Own w' w.heap.size A' l ∧ Below w.heap.size w w' := by
  have e1 : [l].flatten = l := by simp
  have := row_calls (some ⟨g, 0, none⟩) 1 [l] w (lists1 hb h hc) (by simp) (by simp) (by unfold sumL; rw [e1]; exact hl)
  rw [e1] at this
  exact this
theorem row_two {g : Nat} {A A' : Option Addr} {c c' : Nat} {l l' : List S43} (w : World) (hb : w.heap[g]? = some (.cells #[.slice A l.length c, .slice A' l'.length c'] 37 (0, 0))) (h : Kd.C k43 w A l.length l) (hc : l.length ≤ c) (h' : Kd.C k43 w A' l'.length l') (hc' : l'.length ≤ c') (hl : (l ++ l').length ≤ 5864062014804) :
    Calls Tryd.prog 27 #[.slice (some ⟨g, 0, none⟩) 2 2] w fun e w' => ∃ B : Option Addr, e = .returned (.slice B (l ++ l').length (l ++ l').length) ∧ Own w' w.heap.size B (l ++ l') ∧ Below w.heap.size w w' := by
  have e1 : [l, l'].flatten = l ++ l' := by simp
  have := row_calls (some ⟨g, 0, none⟩) 2 [l, l'] w (lists2 hb h hc h' hc') (by simp) (by simp) (by unfold sumL; rw [e1]; exact hl)
  rw [e1] at this
  exact this
theorem blk_new1 (w : World) (o o' : Obj) : ((w.alloc o).alloc o').heap[w.heap.size + 1]? = some o' := by have := blk_new (w.alloc o) o'; simpa using this
theorem own_lt2 {w : World} {base : Nat} {A : Option Addr} {L : List S43} (h : Own w base A L) : ∀ a, A = some a → base ≤ a.block ∧ a.block < w.heap.size := by
  rintro a rfl
  rcases h.2.2 with ⟨e, h3 | ⟨g, e2, h4, h5⟩⟩ | ⟨g, cur, e2, h4, h5, h6⟩
  · cases h3
  · injection e2 with e2; subst e2; exact ⟨h4, h5⟩
  · injection e2 with e2; subst e2; exact ⟨h4, blk_lt h5⟩
set_option maxHeartbeats 2000000 in
set_option maxRecDepth 100000 in
theorem space_calls (A0 : Option Addr) (c0 : Nat) (l0 : List S43) (A1 : Option Addr) (c1 : Nat) (l1 : List S43) (s : ByteArray) (w : World)
    (hr0 : Kd.C k43 w A0 l0.length l0) (hc0 : l0.length ≤ c0) (hr1 : Kd.C k43 w A1 l1.length l1) (hc1 : l1.length ≤ c1) (h0 : l0.length ≤ 5864062014803) (h1 : l1.length ≤ 5864062014803) (hz : ∀ p, p ∈ l0 → p.f0.size ≤ 9223372036854775807) :
    Calls Tryd.prog 17 #[.slice A0 l0.length c0, .slice A1 l1.length c1, .string s] w fun e w' => ∃ B0 B1 : Option Addr, e = .returned (.tuple #[.slice B0 (leftS l0 s).length (leftS l0 s).length, .slice B1 (rightS l1 s).length (rightS l1 s).length]) ∧
      Own w' w.heap.size B0 (leftS l0 s) ∧ Own w' w.heap.size B1 (rightS l1 s) ∧ (∀ a b, B0 = some a → B1 = some b → a.block ≠ b.block) ∧ Below w.heap.size w w' := by
  have HR0 := Aside0.mk hr0
  have HR1 := Aside0.mk hr1
  have HZ := Aside0.mk hz
  clear hr0 hr1 hz
  go_enter Tryd.func17, Tryd.ntmps17
  go_wp2_with fail
  refine (row_one (l := l0) _ (blk_new1 _ _ _) (Kd.C_alloc (Kd.C_alloc HR0.out _) _) hc0 (by omega)).mono ?_
  rintro e w1 ⟨B0, rfl, ho, hb⟩
  have G1 : Aside0 (w1.heap[w.heap.size]? = some (.cells #[.string s, .int .i64 0] 43 (0, 0))) := ⟨blk_below (blk_alloc (blk_new _ _) _) hb⟩
  have HB1 := Aside0.mk (below_step (below_alloc (below_alloc (Below.refl _ _) _) _) hb)
  have hs1 : w.heap.size + 2 ≤ w1.heap.size := by have := hb.size; simpa using this
  have HO := Aside0.mk (Own.lower (base' := w.heap.size) ho (by simp; omega))
  clear ho hb
  go_wp2_with fail
  refine (row_one (l := l1) _ (blk_new _ _) (Kd.C_alloc (Kd.C_below HR1.out HB1.out) _) hc1 (by omega)).mono ?_
  rintro e w2 ⟨B1, rfl, ho, hb⟩
  have G2 : Aside0 (w2.heap[w.heap.size]? = some (.cells #[.string s, .int .i64 0] 43 (0, 0))) := ⟨blk_below (blk_alloc G1.out _) hb⟩
  have HB2 := Aside0.mk (below_step (below_alloc HB1.out _) hb)
  have HO0 := Aside0.mk ((HO.out.below (below_alloc (Below.refl _ _) _)).below hb)
  have HO1 := Aside0.mk (Own.lower (base' := w1.heap.size) ho (by simp))
  have HL0 : Aside0 (∀ a, B0 = some a → a.block < w1.heap.size) := ⟨fun a ha => (own_lt2 HO.out a ha).2⟩
  have hs2 : w1.heap.size + 1 ≤ w2.heap.size := by have := hb.size; simpa using this
  clear ho hb HO G1 HB1
  by_cases hs : s.toList = []
  · have q0 : (s.toList == ([] : List UInt8)) = true := beq_iff_eq.2 hs
    have q1 : (s.toList != ([] : List UInt8)) = false := by rw [bne, q0]; rfl
    have e0 : s.size = 0 := by have := congrArg List.length hs; rw [ByteArray.toList_eq] at this; simpa using this
    have E0 : Aside0 (leftS l0 s = l0 ∧ rightS l1 s = l1) := ⟨if_pos e0, if_pos e0⟩
    clear hs e0
    go_wp2
    go_ret2
    refine ⟨B0, B1, ?_⟩
    rw [E0.out.1, E0.out.2]
    exact ⟨rfl, HO0.out, HO1.out.lower (by omega), fun a b ha hb => by have := HL0.out a ha; have := (own_lt2 HO1.out b hb).1; omega, HB2.out⟩
  · have q0 : (s.toList == ([] : List UInt8)) = false := beq_eq_false_iff_ne.2 hs
    have q1 : (s.toList != ([] : List UInt8)) = true := bne_iff_ne.2 hs
    go_upto_if 30 with (fail)
    go_cut [9] (fun v9 wc => ∃ B : Option Addr, v9 = .slice B (leftP l0 s).length (leftP l0 s).length ∧ Aside0 (Own wc w.heap.size B (leftP l0 s)) ∧ Aside0 (Own wc w1.heap.size B1 l1) ∧ Aside0 (∀ a b, B = some a → B1 = some b → a.block ≠ b.block) ∧ Aside0 (wc.heap[w.heap.size]? = some (.cells #[.string s, .int .i64 0] 43 (0, 0))) ∧ Aside0 (Below w.heap.size w wc))
    case first =>
      by_cases hl : l0 = []
      · have EL2 : Aside0 (leftP l0 s = l0) := ⟨by rw [hl]; rfl⟩
        have hl2 : l0.length ≤ 0 := by rw [hl]; exact Nat.le_refl _
        clear hl
        go_wp2
        go_meet
        case rel => exact ⟨_, by rw [EL2.out], ⟨by rw [EL2.out]; exact HO0.out.below (Below.refl _ _)⟩, ⟨HO1.out.below (Below.refl _ _)⟩, ⟨fun a b ha hb => by have := HL0.out a ha; have := (own_lt2 HO1.out b hb).1; omega⟩, ⟨G2.out⟩, ⟨HB2.out⟩⟩
      · have hp : 0 < l0.length := List.length_pos_iff.2 hl
        clear hl
        obtain ⟨ad, rfl, hx0, hx1⟩ := at_T43 HR0.out ((l0.length : Int) - 1) (by omega) (by omega)
        replace hx0 := (HB2.out.cell (World.block_lt_of_cell? w _ hx0)).trans hx0
        replace hx1 := (HB2.out.cell (World.block_lt_of_cell? w _ hx1)).trans hx1
        have ei : ((l0.length : Int) - 1).toNat = l0.length - 1 := by omega
        obtain ⟨p, hpp⟩ : ∃ p, p = rd_T43 l0 ((l0.length : Int) - 1) := ⟨_, rfl⟩
        rw [← hpp, ei] at hx0 hx1
        have EL : Aside0 (leftP l0 s = if joinsB p ((p.f0.size : Int) - 1) = true then l0 ++ [⟨s, 0⟩] else l0) := ⟨by
          have : l0.getLast? = some p := by
            rw [hpp, rd_T43, ei, List.getLast?_eq_getElem?, List.getD_eq_getElem?_getD, List.getElem?_eq_getElem (by omega)]; rfl
          unfold leftP
          rw [this]⟩
        have z4 : p.f0.size ≤ 9223372036854775807 := HZ.out p (by rw [hpp, rd_T43, ei, List.getD_eq_getElem?_getD, List.getElem?_eq_getElem (by omega)]; exact List.getElem_mem _)
        clear hpp ei
        by_cases h11 : p.f1 = 11
        · have k0 : (p.f1 == 11) = true := beq_iff_eq.2 h11
          by_cases hz : p.f0.toList = []
          · have z0 : (p.f0.toList == ([] : List UInt8)) = true := beq_iff_eq.2 hz
            have z1 : (p.f0.toList != ([] : List UInt8)) = false := by rw [bne, z0]; rfl
            have z2 : (!p.f0.toList.isEmpty) = false := by rw [hz]; rfl
            have EL2 : Aside0 (leftP l0 s = l0) := ⟨by
              rw [EL.out, if_neg]
              unfold joinsB
              have : p.f0.size = 0 := by have := congrArg List.length hz; rw [ByteArray.toList_eq] at this; simpa using this
              rw [this]; simp⟩
            clear h11 hz EL
            go_wp2
            go_meet
            case rel => exact ⟨_, by rw [EL2.out], ⟨by rw [EL2.out]; exact HO0.out.below (below_alloc (Below.refl _ _) _)⟩, ⟨HO1.out.below (below_alloc (Below.refl _ _) _)⟩, ⟨fun a b ha hb => by have := HL0.out a ha; have := (own_lt2 HO1.out b hb).1; omega⟩, ⟨blk_alloc G2.out _⟩, ⟨below_alloc HB2.out _⟩⟩
          · have z0 : (p.f0.toList == ([] : List UInt8)) = false := beq_eq_false_iff_ne.2 hz
            have z1 : (p.f0.toList != ([] : List UInt8)) = true := bne_iff_ne.2 hz
            have z2 : (!p.f0.toList.isEmpty) = true := by cases h : p.f0.toList with | nil => exact absurd h hz | cons _ _ => rfl
            have z3 : 0 < p.f0.size := by
              rcases Nat.eq_zero_or_pos p.f0.size with h | h
              · exact absurd (List.length_eq_zero_iff.1 (by rw [ByteArray.toList_eq, Array.length_toList]; exact h)) hz
              · exact h
            have eb := bt_at p.f0 ((p.f0.size : Int) - 1) (by omega)
            have ej : ((p.f0.size : Int) - 1).toNat = p.f0.size - 1 := by omega
            have EL2 : Aside0 (leftP l0 s = if letP ((p.f0[p.f0.size - 1].toNat : Nat) : Int) = true then l0 ++ [⟨s, 0⟩] else l0) := ⟨by
              rw [EL.out]
              unfold joinsB
              rw [k0, beq_eq_false_iff_ne.2 (show p.f0.size ≠ 0 by omega), ← eb]
              simp only [ej, Bool.not_false, Bool.true_and]⟩
            clear h11 hz EL eb ej
            go_wp2_with fail
            refine (letter_calls _ _).mono ?_
            rintro e w3 ⟨rfl, nd, rfl⟩
            generalize ((p.f0[p.f0.size - 1].toNat : Nat) : Int) = cb at *
            cases hlb : letP cb with
            | false =>
              rw [hlb, if_neg (by simp)] at EL2
              go_wp2
              go_meet
              case rel => exact ⟨_, by rw [EL2.out], ⟨by rw [EL2.out]; exact HO0.out.below (pw_below_drewN (below_alloc (Below.refl _ _) _) nd)⟩, ⟨HO1.out.below (pw_below_drewN (below_alloc (Below.refl _ _) _) nd)⟩, ⟨fun a b ha hb => by have := HL0.out a ha; have := (own_lt2 HO1.out b hb).1; omega⟩, ⟨blk_drewN (blk_alloc G2.out _) nd⟩, ⟨pw_below_drewN (below_alloc HB2.out _) nd⟩⟩
            | true =>
              rw [hlb, if_pos rfl] at EL2
              go_wp2_with fail
              have hbW := below_alloc (pw_below_drewN (below_alloc HB2.out (.cells #[.string p.f0, .int .i64 p.f1] 43)) nd) (.cells #[.slice (some ad) l0.length c0, .slice (some ⟨w.heap.size, 0, none⟩) 1 1] 37)
              refine (row_two (l := l0) (l' := [(⟨s, 0⟩ : S43)]) (g := w2.heap.size + 1) _ (by have := blk_new ((w2.alloc (.cells #[.string p.f0, .int .i64 p.f1] 43)).drewN nd) (.cells #[.slice (some ad) l0.length c0, .slice (some ⟨w.heap.size, 0, none⟩) 1 1] 37); simpa using this) (Kd.C_below HR0.out hbW) hc0 (gap_reads (blk_alloc (blk_drewN (blk_alloc G2.out _) nd) _)) (by simp) (by simp; omega)).mono ?_
              rintro e w4 ⟨B4, rfl, ho, hb⟩
              have G4 : Aside0 (w4.heap[w.heap.size]? = some (.cells #[.string s, .int .i64 0] 43 (0, 0))) := ⟨blk_below (blk_alloc (blk_drewN (blk_alloc G2.out _) nd) _) hb⟩
              have HB4 := Aside0.mk (below_step hbW hb)
              have HX4 : Aside0 (∀ a b, B4 = some a → B1 = some b → a.block ≠ b.block) := ⟨fun a b ha hb' => by
                have h5 := (own_lt2 ho a ha).1
                have h6 := (own_lt2 HO1.out b hb').2
                simp at h5
                omega⟩
              have HO4 : Aside0 (Own w4 w.heap.size B4 (l0 ++ [(⟨s, 0⟩ : S43)])) := ⟨ho.lower (by simp; omega)⟩
              have HO5 : Aside0 (Own w4 w1.heap.size B1 l1) := ⟨(HO1.out.below (below_alloc (pw_below_drewN (below_alloc (Below.refl _ _) _) nd) _)).below hb⟩
              clear ho hb hbW
              have hlen : (l0 ++ [(⟨s, 0⟩ : S43)]).length = l0.length + 1 := by simp
              go_wp2
              go_meet
              case rel => exact ⟨B4, by rw [EL2.out, hlen], ⟨by rw [EL2.out]; exact HO4.out⟩, HO5, HX4, G4, HB4⟩
        · have k0 : (p.f1 == 11) = false := beq_eq_false_iff_ne.2 h11
          have EL2 : Aside0 (leftP l0 s = l0) := ⟨by
            rw [EL.out, if_neg]
            unfold joinsB
            rw [k0]; simp⟩
          clear h11 EL
          go_wp2
          go_meet
          case rel => exact ⟨_, by rw [EL2.out], ⟨by rw [EL2.out]; exact HO0.out.below (below_alloc (Below.refl _ _) _)⟩, ⟨HO1.out.below (below_alloc (Below.refl _ _) _)⟩, ⟨fun a b ha hb => by have := HL0.out a ha; have := (own_lt2 HO1.out b hb).1; omega⟩, ⟨blk_alloc G2.out _⟩, ⟨below_alloc HB2.out _⟩⟩
    case rest =>
      obtain ⟨BL, rfl, HOL, HOR, HAP, GG, HBC⟩ := hcut
      clear HO0 HO1 HL0 G2 HB2
      have EA : Aside0 (leftS l0 s = leftP l0 s ∧ rightS l1 s = rightP l1 s) := ⟨by
        have hne : s.size ≠ 0 := fun h => hs (List.length_eq_zero_iff.1 (by rw [ByteArray.toList_eq, Array.length_toList]; exact h))
        exact ⟨if_neg hne, if_neg hne⟩⟩
      clear hs
      by_cases hl : l1 = []
      · have EL2 : Aside0 (rightP l1 s = l1) := ⟨by rw [hl]; rfl⟩
        have hl2 : l1.length ≤ 0 := by rw [hl]; exact Nat.le_refl _
        clear hl
        go_wp2
        go_ret2
        refine ⟨BL, B1, ?_⟩
        rw [EA.out.1, EA.out.2, EL2.out]
        exact ⟨rfl, HOL.out.below (Below.refl _ _), (HOR.out.lower (by omega)).below (Below.refl _ _), HAP.out, HBC.out⟩
      · have hp : 0 < l1.length := List.length_pos_iff.2 hl
        clear hl
        obtain ⟨ad, rfl, hx0, hx1⟩ := at_T43 HR1.out 0 (by omega) (by omega)
        replace hx0 := (HBC.out.cell (World.block_lt_of_cell? w _ hx0)).trans hx0
        replace hx1 := (HBC.out.cell (World.block_lt_of_cell? w _ hx1)).trans hx1
        obtain ⟨p, hpp⟩ : ∃ p, p = rd_T43 l1 0 := ⟨_, rfl⟩
        rw [← hpp] at hx0 hx1
        simp only [Int.toNat_zero, Nat.zero_mul] at hx0 hx1
        have ea : ad.add 0 = ad := by cases ad; rfl
        rw [ea] at hx0 hx1
        clear ea
        have EL : Aside0 (rightP l1 s = if joinsB p 0 = true then ⟨s, 0⟩ :: l1 else l1) := ⟨by
          have : l1.head? = some p := by
            rw [hpp, rd_T43, List.head?_eq_getElem?, List.getD_eq_getElem?_getD, Int.toNat_zero, List.getElem?_eq_getElem (by omega)]; rfl
          unfold rightP
          rw [this]⟩
        clear hpp
        by_cases h11 : p.f1 = 11
        · have k0 : (p.f1 == 11) = true := beq_iff_eq.2 h11
          by_cases hz : p.f0.toList = []
          · have z0 : (p.f0.toList == ([] : List UInt8)) = true := beq_iff_eq.2 hz
            have z1 : (p.f0.toList != ([] : List UInt8)) = false := by rw [bne, z0]; rfl
            have z2 : (!p.f0.toList.isEmpty) = false := by rw [hz]; rfl
            have EL2 : Aside0 (rightP l1 s = l1) := ⟨by
              rw [EL.out, if_neg]
              unfold joinsB
              have : p.f0.size = 0 := by have := congrArg List.length hz; rw [ByteArray.toList_eq] at this; simpa using this
              rw [this]; simp⟩
            clear h11 hz EL
            go_wp2
            go_ret2
            refine ⟨BL, B1, ?_⟩
            rw [EA.out.1, EA.out.2, EL2.out]
            exact ⟨rfl, HOL.out.below (below_alloc (Below.refl _ _) _), (HOR.out.lower (by omega)).below (below_alloc (Below.refl _ _) _), HAP.out, below_alloc HBC.out _⟩
          · have z0 : (p.f0.toList == ([] : List UInt8)) = false := beq_eq_false_iff_ne.2 hz
            have z1 : (p.f0.toList != ([] : List UInt8)) = true := bne_iff_ne.2 hz
            have z2 : (!p.f0.toList.isEmpty) = true := by cases h : p.f0.toList with | nil => exact absurd h hz | cons _ _ => rfl
            have z3 : 0 < p.f0.size := by
              rcases Nat.eq_zero_or_pos p.f0.size with h | h
              · exact absurd (List.length_eq_zero_iff.1 (by rw [ByteArray.toList_eq, Array.length_toList]; exact h)) hz
              · exact h
            have eb := bt_at p.f0 0 z3
            have EL2 : Aside0 (rightP l1 s = if letP ((p.f0[0].toNat : Nat) : Int) = true then ⟨s, 0⟩ :: l1 else l1) := ⟨by
              rw [EL.out]
              unfold joinsB
              rw [k0, beq_eq_false_iff_ne.2 (show p.f0.size ≠ 0 by omega), ← eb]
              simp only [Int.toNat_zero, Bool.not_false, Bool.true_and]⟩
            clear h11 hz EL eb
            go_wp2_with fail
            refine (letter_calls _ _).mono ?_
            rintro e w3 ⟨rfl, nd, rfl⟩
            generalize ((p.f0[0].toNat : Nat) : Int) = cb at *
            cases hlb : letP cb with
            | false =>
              rw [hlb, if_neg (by simp)] at EL2
              go_wp2
              go_ret2
              refine ⟨BL, B1, ?_⟩
              rw [EA.out.1, EA.out.2, EL2.out]
              exact ⟨rfl, HOL.out.below (pw_below_drewN (below_alloc (Below.refl _ _) _) nd), (HOR.out.lower (by omega)).below (pw_below_drewN (below_alloc (Below.refl _ _) _) nd), HAP.out, pw_below_drewN (below_alloc HBC.out _) nd⟩
            | true =>
              rw [hlb, if_pos rfl] at EL2
              go_wp2_with fail
              have hbW := below_alloc (pw_below_drewN (below_alloc HBC.out (.cells #[.string p.f0, .int .i64 p.f1] 43)) nd) (.cells #[.slice (some ⟨w.heap.size, 0, none⟩) 1 1, .slice (some ad) l1.length c1] 37)
              refine (row_two (l := [(⟨s, 0⟩ : S43)]) (l' := l1) (g := wc.heap.size + 1) _ (by have := blk_new ((wc.alloc (.cells #[.string p.f0, .int .i64 p.f1] 43)).drewN nd) (.cells #[.slice (some ⟨w.heap.size, 0, none⟩) 1 1, .slice (some ad) l1.length c1] 37); simpa using this) (gap_reads (blk_alloc (blk_drewN (blk_alloc GG.out _) nd) _)) (by simp) (Kd.C_below HR1.out hbW) hc1 (by simp; omega)).mono ?_
              rintro e w4 ⟨B4, rfl, ho, hb⟩
              have HB4 := Aside0.mk (below_step hbW hb)
              have HX4 : Aside0 (∀ a b, BL = some a → B4 = some b → a.block ≠ b.block) := ⟨fun a b ha hb' => by
                have h5 := (own_lt2 ho b hb').1
                have h6 := (own_lt2 HOL.out a ha).2
                simp at h5
                omega⟩
              have hws := HBC.out.size
              have HO4 : Aside0 (Own w4 w.heap.size B4 ((⟨s, 0⟩ : S43) :: l1)) := ⟨ho.lower (by simp; omega)⟩
              have HO5 : Aside0 (Own w4 w.heap.size BL (leftP l0 s)) := ⟨(HOL.out.below (below_alloc (pw_below_drewN (below_alloc (Below.refl _ _) _) nd) _)).below hb⟩
              clear ho hb hbW hws
              have hlen : ([(⟨s, 0⟩ : S43)] ++ l1).length = l1.length + 1 := by simp
              go_wp2
              go_ret2
              refine ⟨BL, B4, ?_⟩
              rw [EA.out.1, EA.out.2, EL2.out]
              exact ⟨rfl, HO5.out, HO4.out, HX4.out, HB4.out⟩
        · have k0 : (p.f1 == 11) = false := beq_eq_false_iff_ne.2 h11
          have EL2 : Aside0 (rightP l1 s = l1) := ⟨by
            rw [EL.out, if_neg]
            unfold joinsB
            rw [k0]; simp⟩
          clear h11 EL
          go_wp2
          go_ret2
          refine ⟨BL, B1, ?_⟩
          rw [EA.out.1, EA.out.2, EL2.out]
          exact ⟨rfl, HOL.out.below (below_alloc (Below.refl _ _) _), (HOR.out.lower (by omega)).below (below_alloc (Below.refl _ _) _), HAP.out, below_alloc HBC.out _⟩
end Go.Proofs.YtepahimiakgieaaDoor.Q
