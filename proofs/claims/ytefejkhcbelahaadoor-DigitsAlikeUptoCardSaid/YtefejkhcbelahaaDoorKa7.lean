import Derived.Test.YtefejkhcbelahaaDoorKa1
import Derived.Laws.IdiomCopy
namespace Go.Proofs.YtefejkhcbelahaaDoor.Q
open Go.RowKit Go.Proofs.YtefejkhcbelahaaDoorW.PrintWords Go.Proofs.YtefejkhcbelahaaDoorW.PrintLast Go.Proofs.YtefejkhcbelahaaDoorW.PrintMore
set_option linter.unusedVariables false
set_option linter.unusedSimpArgs false
def emB (x : S34) : Bool := x.f0.toList.isEmpty
def fullL (l : List S34) : List S34 := l.filter fun x => !emB x
set_option maxHeartbeats 1000000 in
theorem em_calls (x : S34) (w : World) : Calls Tryd.prog 40 #[.agg #[.string x.f0, .int .i64 x.f1]] w fun e w' => e = .returned (.bool (emB x)) ∧ Below w.heap.size w w' := by
  have hu := Tryd.underlying34
  unfold emB
  go_enter Tryd.func40, Tryd.ntmps40
  go_wp2
  go_ret
  exact ⟨rfl, below_alloc (Below.refl _ _) _⟩
def cno (l : List S34) (m : Nat) : Prop := ∀ j (h : j < l.length), j < m → emB l[j] = false
theorem cfirst {l : List S34} {m : Nat} (h : m < l.length) (hn : cno l m) (hy : emB l[m] = true) : l.findIdx emB = m :=
  (List.findIdx_eq h).2 ⟨hy, fun j hj => hn j (by omega) hj⟩
theorem cnone {l : List S34} (hn : cno l l.length) : l.findIdx emB = l.length := by
  rw [List.findIdx_eq_length]
  intro x hx
  obtain ⟨j, hj, rfl⟩ := List.getElem_of_mem hx
  exact hn j hj hj
theorem crd (l : List S34) (m : Nat) (h : m < l.length) : rd_T34 l (m : Int) = l[m] := by
  unfold rd_T34; rw [Int.toNat_natCast, List.getD_eq_getElem?_getD, List.getElem?_eq_getElem h]; rfl
def cat (l : List S34) : Int := if l.findIdx emB < l.length then (l.findIdx emB : Int) else -1
set_option maxHeartbeats 2000000 in
set_option maxRecDepth 100000 in
theorem cidx (A : Option Addr) (c : Nat) (l : List S34) (w : World) (hr : Kd.C k34 w A l.length l) :
    Calls Tryd.prog 54 #[.slice A l.length c, .func (.func 40) #[] #[]] w fun e w' => e = .returned (.int .i64 (cat l)) ∧ Below w.heap.size w w' := by
  have HR := Aside0.mk hr
  have hm := Kd.C_max hr
  have hu := Tryd.underlying34
  clear hr
  go_enter Tryd.func54, Tryd.ntmps54
  go_wp2_with fail
  go_loopw [8] (fun v8 wr => ∃ m : Nat, m ≤ l.length ∧ v8 = .int .i64 (m : Int) ∧ Aside0 (cno l m) ∧ Aside0 (Below w.heap.size w wr)) (fun v8 _ => l.length - (intOf v8).toNat)
  case atStart => exact ⟨0, Nat.zero_le _, rfl, ⟨fun j h hj => absurd hj (by omega)⟩, ⟨Below.refl _ _⟩⟩
  case round =>
    obtain ⟨m, hmm, rfl, HN, HB⟩ := hrel
    by_cases hlt : m < l.length
    · obtain ⟨ad, rfl, hx0, hx1⟩ := at_T34 HR.out (m : Int) (by omega) (by omega)
      rw [crd l m hlt, Int.toNat_natCast] at hx0 hx1
      replace hx0 := (HB.out.cell (World.block_lt_of_cell? w _ hx0)).trans hx0
      replace hx1 := (HB.out.cell (World.block_lt_of_cell? w _ hx1)).trans hx1
      have HXE : Aside0 (∀ x, l[m] = x → (emB x = true → cat l = (m : Int)) ∧ (emB x = false → cno l (m + 1))) := ⟨by
        rintro x rfl
        refine ⟨fun hy => ?_, fun hn j h hj => ?_⟩
        · unfold cat
          rw [cfirst hlt HN.out hy, if_pos hlt]
        · rcases Nat.lt_or_ge j m with h1 | h1
          · exact HN.out j h h1
          · obtain rfl : j = m := by omega
            exact hn⟩
      obtain ⟨x, hx⟩ : ∃ x, l[m] = x := ⟨_, rfl⟩
      rw [hx] at hx0 hx1
      obtain ⟨E1, E2⟩ := HXE.out x hx
      have EE1 := Aside0.mk E1
      have EE2 := Aside0.mk E2
      clear hx E1 E2 HXE
      go_wp2_with fail
      refine (em_calls x wr).mono ?_
      rintro e w1 ⟨rfl, hb1⟩
      have HB2 := Aside0.mk (below_step HB.out hb1)
      clear hb1 hx0 hx1
      cases he : emB x with
      | true =>
        have EE := Aside0.mk (EE1.out he)
        clear EE1 EE2 he
        go_wp2
        go_ret
        exact ⟨by rw [EE.out]; rfl, HB2.out⟩
      | false =>
        have EE := Aside0.mk (EE2.out he)
        clear EE1 EE2 he
        go_wp2
        go_roundw
        case rel => exact ⟨m + 1, hlt, by go_num, EE, HB2⟩
        case measure => simp [intOf]; omega
    · have hge : l.length ≤ m := Nat.le_of_not_lt hlt
      have EE : Aside0 (cat l = -1) := ⟨by
        obtain rfl : m = l.length := by omega
        unfold cat
        rw [cnone HN.out, if_neg (Nat.lt_irrefl _)]⟩
      clear hlt
      go_wp2
      go_ret
      exact ⟨by rw [EE.out]; rfl, HB.out⟩
def CellsAt (cur : Array Value) (m : Nat) (p : S34) : Prop := cur[m * 2]? = some (.string p.f0) ∧ cur[m * 2 + 1]? = some (.int .i64 p.f1)
theorem own34 {w : World} {base : Nat} {ok : Nat → Prop} {v : Value} {y : List S34} (h : Kd.R k34 34 w base ok v y) :
    (v = .slice none 0 0 ∧ y = []) ∨ ∃ g cap cur, v = .slice (some ⟨g, 0, none⟩) y.length cap ∧ base ≤ g ∧ ok g ∧ w.heap[g]? = some (.cells cur 34 (0, 0)) ∧ y.length ≤ cap ∧ cap ≤ maxLen ∧ cur.size = cap * 2 ∧ ∀ m p, y[m]? = some p → CellsAt cur m p := by
  have h' := h
  obtain ⟨hok, inner, ⟨hl, ho⟩, _⟩ := h'
  rcases ho with ⟨he, h0⟩ | ⟨g, cap, cur, he, hg, hh, hnc, hcm, hcs, ht⟩
  · exact .inl ⟨he, List.length_eq_zero_iff.1 h0⟩
  · subst he
    refine .inr ⟨g, cap, cur, rfl, hg, hok g rfl, hh, hnc, hcm, hcs, fun m p hm => ?_⟩
    have hlt : m < y.length := (List.getElem?_eq_some_iff.1 hm).1
    obtain ⟨ce, hcl, hM, hcc, _⟩ := Kd.R_elem h z34 (m : Int) (by omega) (by omega)
    obtain rfl := k34_openM hM
    have e : y.getD (m : Int).toNat z34 = p := by rw [Int.toNat_natCast, List.getD_eq_getElem?_getD, hm]; rfl
    rw [e] at hcc
    have a0 := hcc 0 _ rfl
    have a1 := hcc 1 _ rfl
    rw [blk_cell hh] at a0 a1
    exact ⟨a0, a1⟩
theorem drop2 {l : List Value} {n : Nat} {a b : Value} (h0 : l[n]? = some a) (h1 : l[n + 1]? = some b) : (l.drop n).take 2 = [a, b] := by
  obtain ⟨k0, e0⟩ := List.getElem?_eq_some_iff.1 h0
  obtain ⟨k1, e1⟩ := List.getElem?_eq_some_iff.1 h1
  rw [List.drop_eq_getElem_cons k0, List.drop_eq_getElem_cons k1, e0, e1]
  rfl
theorem pack34 {w : World} {base g cap : Nat} {ok : Nat → Prop} {cur : Array Value} {r : List S34} (hg : base ≤ g) (ho : ok g) (hh : w.heap[g]? = some (.cells cur 34 (0, 0))) (hnc : r.length ≤ cap) (hcm : cap ≤ maxLen) (hcs : cur.size = cap * 2)
    (hc : ∀ m p, r[m]? = some p → CellsAt cur m p) : Kd.R k34 34 w base ok (.slice (some ⟨g, 0, none⟩) r.length cap) r := by
  have hl : (cur.toList.take (r.length * 2)).length = r.length * 2 := by
    have e : cur.toList.length = cur.size := Array.length_toList
    rw [List.length_take]
    omega
  refine ⟨fun k hk => ?_, cur.toList.take (r.length * 2), ⟨hl, .inr ⟨g, cap, cur, rfl, hg, hh, hnc, hcm, hcs, rfl⟩⟩, hl, fun j p hj => ?_⟩
  · have : g = k := by simpa [Value.ownBlock] using hk
    exact this ▸ ho
  · have hlt : j < r.length := (List.getElem?_eq_some_iff.1 hj).1
    obtain ⟨a0, a1⟩ := hc j p hj
    have e := drop2 (l := cur.toList.take (r.length * 2)) (n := j * 2) (a := .string p.f0) (b := .int .i64 p.f1)
      (by rw [List.getElem?_take, if_pos (by omega), Array.getElem?_toList]; exact a0) (by rw [List.getElem?_take, if_pos (by omega), Array.getElem?_toList]; exact a1)
    have e2 : k34.sz = 2 := rfl
    rw [e2, e]
    exact k34_mkM _ _ _ p
end Go.Proofs.YtefejkhcbelahaaDoor.Q
