import Derived.Test.YtffldajbnhbkkaaDoorKv31
import Derived.Lib.LazyBuf
import Derived.Laws.CopyOwn
import Derived.Lib.AppendZerosOnto
import Derived.Lib.Overlaps
namespace Go.Proofs.YtffldajbnhbkkaaDoor.Q
open Go.RowKit Go.Proofs.YtffldajbnhbkkaaDoorW.PrintWords Go.Proofs.YtffldajbnhbkkaaDoorW.PrintLast Go.Proofs.YtffldajbnhbkkaaDoorW.PrintMore
set_option linter.unusedVariables false
set_option linter.unusedSimpArgs false
theorem KM31 {w W : World} {base : Nat} {ok : Nat → Prop} (x : S31) (cs : List Value) (h : k31.K w x cs) : k31.M W base ok x cs := by
  obtain rfl := k31_open h
  exact k31_mkM _ _ _ _
theorem R_empty (W : World) (base : Nat) (hb : base ≤ W.heap.size) (ok : Nat → Prop) (hok : ok W.heap.size) : Kd.R k31 31 (W.alloc (.cells #[] 31)) base ok (.slice (some ⟨W.heap.size, 0, none⟩) 0 0) [] :=
  ⟨fun k hk => by injection hk with hk; rw [← hk]; exact hok, [], World.ownsRow_lit W #[] 0 hb (Nat.zero_le _) rfl, Reps.none _ _⟩
set_option maxHeartbeats 8000000 in
set_option maxRecDepth 100000 in
theorem clone_walk (A : Option Addr) (c : Nat) (l : List S31) (W : World) (hr : Kd.C k31 W A l.length l) (hc : l.length ≤ c) (hl : l.length < 1000000000) :
    Calls Tryd.prog 34 #[.slice A l.length c] W fun e w' => ∃ v, e = .returned v ∧ Kd.R k31 31 w' W.heap.size (fun _ => True) v l ∧ Below W.heap.size W w' := by
  have hu31 := Tryd.underlying31
  have hu23 := Tryd.underlying23
  have heq := fun (w : World) (a : Option Addr) (n c : Nat) => run_eql_slice_nil (P := Tryd.prog) w 23 31 a n c Tryd.underlying23
  cases A with
  | none =>
    have h0 : l = [] := by
      rcases Nat.eq_zero_or_pos l.length with h | h
      · exact List.length_eq_zero_iff.1 h
      · obtain ⟨ad, e, _⟩ := hr.2.2 h
        cases e
    subst h0
    clear hr
    go_enter Tryd.func34, Tryd.ntmps34
    go_wp2
    go_ret
    exact ⟨.slice none 0 0, rfl, Kd.R_nil _ _ _ _ _, Below.refl _ _⟩
  | some ad =>
    have HR := Aside0.mk hr
    have HL := Aside0.mk hl
    have HE := Aside0.mk (R_empty W W.heap.size (Nat.le_refl _) (fun _ => True) trivial)
    have HB := Aside0.mk (below_alloc (Below.refl W.heap.size W) (Obj.cells #[] 31))
    clear hr hl
    go_enter Tryd.func34, Tryd.ntmps34
    go_wp2_with (at_builtin; refine Kd.R_append_rows k31 (Rr := k31.K (W.alloc (Obj.cells #[] 31))) (w0 := W) W.heap.size rfl (.tmp 5) (.tmp 6) 23 31 (.agg #[.int .i64 0, .int .i64 0, .int .i64 0]) 24 rfl Tryd.underlying23 info31 rfl (by decide) (by omega) (.slice (some ⟨W.heap.size, 0, none⟩) 0 0) [] l (some ad) l.length c (fun _ => True) (fun _ => False) rfl rfl ?aO ?aR (fun x cs h => KM31 x cs h) (fun _ hk => hk.elim) (fun _ _ => trivial) ?aB ?aS ?aL ?_; (case aO => exact HE.out); (case aR => exact Kd.C_below HR.out (below_alloc (Below.refl _ _) _)); (case aB => exact HB.out); (case aS => exact HB.out.size); (case aL => have := HL.out; simp; omega); intro v1 w1 ho hb hg hat)
    go_ret
    exact ⟨v1, rfl, ho, hb⟩
end Go.Proofs.YtffldajbnhbkkaaDoor.Q

namespace Go.Proofs.YtffldajbnhbkkaaDoor.Q
open Go.RowKit Go.Proofs.YtffldajbnhbkkaaDoorW.PrintWords Go.Proofs.YtffldajbnhbkkaaDoorW.PrintLast Go.Proofs.YtffldajbnhbkkaaDoorW.PrintMore
set_option linter.unusedVariables false
set_option linter.unusedSimpArgs false
/-- The cells of spans, one behind the other. -/
def C3 (l : List S31) : List Value := l.flatMap fun x => [.int .i64 x.f0, .int .i64 x.f1, .int .i64 x.f2]
theorem C3_cons (x : S31) (l : List S31) : C3 (x :: l) = [.int .i64 x.f0, .int .i64 x.f1, .int .i64 x.f2] ++ C3 l := rfl
theorem C3_app (a b : List S31) : C3 (a ++ b) = C3 a ++ C3 b := List.flatMap_append
theorem C3_len (l : List S31) : (C3 l).length = l.length * 3 := by
  induction l with
  | nil => rfl
  | cons x l ih => rw [C3_cons, List.length_append, ih, List.length_cons]; simp; omega
theorem C3_one (l : List S31) : ∀ u ∈ C3 l, u.oneCell' = true := by
  induction l with
  | nil => intro u hu; cases hu
  | cons x l ih =>
    intro u hu
    rw [C3_cons, List.mem_append] at hu
    rcases hu with hu | hu
    · simp only [List.mem_cons, List.not_mem_nil, or_false] at hu
      rcases hu with rfl | rfl | rfl <;> rfl
    · exact ih u hu
theorem C3_drop : ∀ (l : List S31) (i : Nat), (C3 l).drop (i * 3) = C3 (l.drop i)
  | l, 0 => by rw [Nat.zero_mul, List.drop_zero, List.drop_zero]
  | [], i + 1 => by rw [List.drop_nil]; rfl
  | x :: l, i + 1 => by
    rw [List.drop_succ_cons, ← C3_drop l i, C3_cons, show (i + 1) * 3 = 3 + i * 3 from by omega, ← List.drop_drop]
    rfl
theorem C3_take : ∀ (l : List S31) (i : Nat), (C3 l).take (i * 3) = C3 (l.take i)
  | l, 0 => by rw [Nat.zero_mul, List.take_zero, List.take_zero]; rfl
  | [], i + 1 => by rw [List.take_nil]; exact List.take_nil
  | x :: l, i + 1 => by
    rw [List.take_succ_cons, C3_cons, C3_cons, ← C3_take l i, show (i + 1) * 3 = 3 + i * 3 from by omega, List.take_append]
    rw [List.take_of_length_le (by simp)]
    congr 2
    simp
theorem reps31 {W : World} {base : Nat} {ok : Nat → Prop} : ∀ (l : List S31) (inner : List Value), Reps (k31.M W base ok) 3 l inner → inner = C3 l
  | [], inner, h => List.eq_nil_of_length_eq_zero (by simpa using h.1)
  | x :: l, inner, h => by
    have h0 := k31_openM (h.2 0 x rfl)
    rw [Nat.zero_mul, List.drop_zero] at h0
    have ht : Reps (k31.M W base ok) 3 l (inner.drop 3) := by
      refine ⟨by rw [List.length_drop, h.1, List.length_cons]; omega, fun j p hp => ?_⟩
      have := h.2 (j + 1) p (by simpa using hp)
      rw [List.drop_drop, show 3 + j * 3 = (j + 1) * 3 from by omega]
      exact this
    rw [C3_cons, ← h0, ← reps31 l _ ht, List.take_append_drop]
theorem C3_reps {W : World} {base : Nat} {ok : Nat → Prop} (l : List S31) : Reps (k31.M W base ok) 3 l (C3 l) := by
  refine ⟨C3_len l, fun j p hp => ?_⟩
  obtain ⟨hj, rfl⟩ := List.getElem?_eq_some_iff.1 hp
  rw [C3_drop, List.drop_eq_getElem_cons hj, C3_cons]
  exact k31_mkM _ _ _ _
theorem own31 {W : World} {base : Nat} {ok : Nat → Prop} {v : Value} {l : List S31} (h : Kd.R k31 31 W base ok v l) : W.ownsRow base 31 3 v l.length (C3 l) := by
  obtain ⟨_, inner, ho, hr⟩ := h
  rw [← reps31 l inner hr]; exact ho
theorem R31 {W : World} {base : Nat} {ok : Nat → Prop} {v : Value} {l : List S31} (h : W.ownsRow base 31 3 v l.length (C3 l)) (hok : ∀ k, v.ownBlock = some k → ok k) : Kd.R k31 31 W base ok v l := ⟨hok, C3 l, h, C3_reps l⟩
/-- A row of spans, as_ its block has it. -/
structure Blk (W : World) (base g cap : Nat) (cur : Array Value) (l : List S31) : Prop where
  blk : W.heap[g]? = some (.cells cur 31 (0, 0))
  bas : base ≤ g
  len : l.length ≤ cap
  max : cap ≤ maxLen
  size : cur.size = cap * 3
  take : cur.toList.take (l.length * 3) = C3 l
theorem blk31 {W : World} {base g n cap : Nat} {ok : Nat → Prop} {l : List S31} (h : Kd.R k31 31 W base ok (.slice (some ⟨g, 0, none⟩) n cap) l) : ∃ cur, Blk W base g cap cur l ∧ n = l.length := by
  obtain ⟨h1, h2⟩ := own31 h
  rcases h2 with ⟨e, _⟩ | ⟨g', cap', cur, e, hb, hc, hn, hm, hs, ht⟩
  · cases e
  · injection e with e1 e2 e3
    injection e1 with e1; injection e1 with e1
    subst e1 e2 e3
    exact ⟨cur, ⟨hc, hb, hn, hm, hs, ht⟩, rfl⟩
theorem Blk.row {W : World} {base g cap : Nat} {cur : Array Value} {l : List S31} (h : Blk W base g cap cur l) : Kd.R k31 31 W base (fun _ => True) (.slice (some ⟨g, 0, none⟩) l.length cap) l :=
  R31 ⟨C3_len l, Or.inr ⟨g, cap, cur, rfl, h.bas, h.blk, h.len, h.max, h.size, h.take⟩⟩ (fun _ _ => trivial)
theorem Blk.at {W : World} {base g cap : Nat} {cur : Array Value} {l : List S31} (h : Blk W base g cap cur l) (i : Nat) (j : Nat) (u : Value) (hu : (C3 (l.drop i))[j]? = some u) : W.cell? ⟨g, i * 3 + j, none⟩ = some u := by
  rw [blk_cell h.blk, ← hu, ← C3_drop, List.getElem?_drop, ← h.take, List.getElem?_take]
  have hj := (List.getElem?_eq_some_iff.1 hu).1
  rw [C3_len, List.length_drop] at hj
  rw [if_pos (by omega), Array.getElem?_toList]
theorem run_copy3 {P : Program} (w : World) (dT sT ty elem : TypeId) (k g o dLen dCap : Nat) (a : Addr) (sLen sCap : Nat) (cur : Array Value) (t : TypeId) (cs : List Value)
    (hu : P.underlying dT = some (.slice elem)) (hs : (P.info? elem).map (·.size) = some k)
    (hg : w.heap[g]? = some (.cells cur t (0, 0))) (n : Nat) (hn : Nat.min sLen dLen = n) (hnk : cs.length = n * k)
    (hsrc : ∀ j v, cs[j]? = some v → w.cell? (a.add j) = some v) (hfit : o + cs.length ≤ cur.size) (h1 : ∀ v ∈ cs, v.oneCell' = true) :
    (Builtin.copy_ #[dT, sT] ty #[.slice (some ⟨g, o, none⟩) dLen dCap, .slice (some a) sLen sCap]).run P w =
      .ok (goInt n) (w.setRow g (cur.toList.take o ++ cs ++ cur.toList.drop (o + cs.length)).toArray) := by
  have hl := run_loadCells_list (P := P) w a cs hsrc
  have hst := run_storeCells_at P g o t cs 0 cur w hg (by simpa using hfit) h1
  cases hq : P.info? elem with
  | none => simp [hq] at hs
  | some i =>
    have hi : i.size = k := by simpa [hq] using hs
    simp [Builtin.copy_, run_underlying hu, Builtin.lenOf, Builtin.firstCells, sizeOf, typeInfo, hq, hi, hn, ← hnk, hl, hst]
end Go.Proofs.YtffldajbnhbkkaaDoor.Q
