import Derived.Test.YtefejkhcbelahaaDoorKa1
namespace Go.Proofs.YtefejkhcbelahaaDoor.Q
open Go.RowKit Go.Proofs.YtefejkhcbelahaaDoorW.PrintWords Go.Proofs.YtefejkhcbelahaaDoorW.PrintLast Go.Proofs.YtefejkhcbelahaaDoorW.PrintMore
attribute [local go_sem] max2_int min2_int max_two min_two max_three min_three max_four min_four
set_option linter.unusedVariables false
set_option linter.unusedSimpArgs false
abbrev Tr := Option Addr × Nat × Nat
def encT (t : Tr) : Value := .slice t.1 t.2.1 t.2.2
def TrOk (w : World) (t : Tr) (g : List ByteArray) : Prop := t.2.1 = g.length ∧ g.length ≤ t.2.2 ∧ Kd.string.C w t.1 g.length g
def chunksL (l : List ByteArray) (f : Nat) : Nat → Nat → List (List ByteArray)
  | 0, _ => []
  | k + 1, e => if e = 0 then [] else (l.take e).drop (e - f) :: chunksL l f k (e - f)
theorem chunks_fuel (l : List ByteArray) (f : Nat) (hf : 0 < f) : ∀ (k k' e : Nat), e ≤ k → e ≤ k' → chunksL l f k e = chunksL l f k' e
  | 0, 0, _, _, _ => rfl
  | 0, k' + 1, e, h, _ => by obtain rfl : e = 0 := by omega
                             simp [chunksL]
  | k + 1, 0, e, _, h => by obtain rfl : e = 0 := by omega
                            simp [chunksL]
  | k + 1, k' + 1, e, h, h' => by
    simp only [chunksL]
    by_cases c : e = 0
    · rw [if_pos c, if_pos c]
    · rw [if_neg c, if_neg c, chunks_fuel l f hf k k' (e - f) (by omega) (by omega)]
def groupedL (l : List ByteArray) (first further least : Int) : List (List ByteArray) :=
  if first ≤ 0 ∨ (l.length : Int) - first < (if 1 < least then least else 1) then [l]
  else (l.drop (l.length - first.toNat) :: chunksL l (if further ≤ 0 then first else further).toNat (l.length - first.toNat) (l.length - first.toNat)).reverse
theorem reps_one {R : List Value → List Value → Prop} (v : Value) (h : R [v] [v]) : Reps R 1 [[v]] [v] := by
  refine ⟨rfl, fun j p hj => ?_⟩
  match j, hj with
  | 0, hj => obtain rfl : [v] = p := by simpa using hj
             exact h
theorem info9g : (Tryd.prog.info? 9).map (fun i => (i.zero, i.size, i.bytes)) = some (some (.string ⟨#[]⟩), 1, 16) := by kernel_rfl
theorem info56 : (Tryd.prog.info? 56).map (fun i => (i.zero, i.size, i.bytes)) = some (some (.slice none 0 0), 1, 24) := by kernel_rfl
theorem cut_lhm (A : Option Addr) (n c : Nat) (lo hi : Int) (h0 : 0 ≤ lo) (h1 : lo ≤ hi) (h2 : hi ≤ c) :
    ∀ W, (Instr.slice 56 (.slice A n c) (some (.int .i64 lo)) (some (.int .i64 hi)) (some (.int .i64 hi))).run Tryd.prog W = .ok (.slice (if hi.toNat = lo.toNat then A else A.map (·.add lo.toNat)) (hi.toNat - lo.toNat) (hi.toNat - lo.toNat)) W := by
  intro W
  obtain ⟨i, hi', _, hsz, _⟩ := info_parts info9g
  have hel : Tryd.prog.elem 56 = 9 := by simp [Program.elem, Tryd.underlying56]
  have hu : Tryd.prog.underlying 56 = some (.slice (Tryd.prog.elem 56)) := by rw [hel]; exact Tryd.underlying56
  rw [run_slice_lhm W 56 A n c hu .i64 .i64 .i64 lo hi hi h0 h1 (Int.le_refl _) h2, hel]
  simp [sizeOf, typeInfo, hi', hsz, sliced, Result.andThen]
theorem raw_C {w : World} {base : Nat} {ok : Nat → Prop} {v : Value} {T : List Tr} {G : List (List ByteArray)} (h : Kd.R (Kd.raw 1) 56 w base ok v (T.map fun t => [encT t])) (hT : T.length = G.length) (hk : ∀ (j : Nat) (t : Tr) (g : List ByteArray), T[j]? = some t → G[j]? = some g → TrOk w t g) :
    ∃ (B : Option Addr) (cb : Nat), v = .slice B G.length cb ∧ G.length ≤ cb ∧ Kd.C (Kd.slice 9 Kd.string) w B G.length G := by
  obtain ⟨B, cb, rfl⟩ := Kd.R_slice h
  obtain ⟨_, hle, hC⟩ := Kd.R_reads' h
  have e : (T.map fun t => [encT t]).length = G.length := by rw [List.length_map, hT]
  rw [e] at hle hC ⊢
  refine ⟨B, cb, rfl, hle, ?_⟩
  obtain ⟨_, hb, hc⟩ := hC
  refine ⟨rfl, hb, fun hp => ?_⟩
  obtain ⟨ad, eA, hx⟩ := hc hp
  refine ⟨ad, eA, fun j g hg => ?_⟩
  have hj : j < G.length := (List.getElem?_eq_some_iff.1 hg).1
  obtain ⟨t, ht⟩ : ∃ t, T[j]? = some t := ⟨T[j]'(by omega), List.getElem?_eq_getElem (by omega)⟩
  obtain ⟨k1, k2, k3⟩ := hk j t g ht hg
  obtain ⟨c, c1, c2, c3⟩ := hx j [encT t] (by rw [List.getElem?_map, ht]; rfl)
  obtain rfl : c = [encT t] := c2.1
  exact ⟨[encT t], rfl, ⟨t.1, t.2.2, by unfold encT; rw [k1], k2, k3⟩, c3⟩
theorem oneT : OneCell encT := fun _ => rfl
instance : Inhabited Tr := ⟨(none, 0, 0)⟩
theorem own_holds {w : World} {base : Nat} {ok : Nat → Prop} {A : Option Addr} {c : Nat} {T : List Tr} (h : Kd.R (Kd.raw 1) 56 w base ok (.slice A T.length c) (T.map fun t => [encT t])) (hp : 0 < T.length) :
    ∃ g, A = some ⟨g, 0, none⟩ ∧ base ≤ g ∧ g < w.heap.size ∧ Sort.Holds encT w g 0 T.toArray := by
  have h' := h
  obtain ⟨_, inner, ⟨hl, ho⟩, hr⟩ := h'
  rcases ho with ⟨he, _⟩ | ⟨g, cap, cur, he, hg, hh, hnc, hcm, hcs, ht⟩
  · injection he with _ e2 _
    omega
  · injection he with e1 e2 e3
    subst e1
    refine ⟨g, rfl, hg, blk_lt hh, fun j hj => ⟨?_, blk_frozen hh _⟩⟩
    have hj2 : j < T.length := by simpa using hj
    have h1 := hr.2 j [encT T[j]] (by rw [List.getElem?_map, List.getElem?_eq_getElem hj2]; rfl)
    have h2 : (inner.drop (j * 1)).take 1 = [encT T[j]] := h1.1
    rw [Nat.mul_one] at h2
    have h3 : inner[j]? = some (encT T[j]) := by
      have h4 := congrArg (fun x => x[0]?) h2
      simpa [List.getElem?_take, List.getElem?_drop] using h4
    rw [blk_cell hh, Nat.zero_add, ← Array.getElem?_toList]
    rw [← ht, List.getElem?_take] at h3
    split at h3
    · rw [h3]; simp [hj2]
    · cases h3
theorem put_below {w wr : World} {g n : Nat} (h : Below w.heap.size w wr) (hg : w.heap.size ≤ g) (T : Array Tr) (o : Nat) : Below w.heap.size w (Sort.putRow encT (Sort.ahead wr n) g o T) :=
  ⟨h.os, h.tape, h.output, by simpa using h.size, fun k hk => by
    have hne : g ≠ k := by omega
    have e : (Sort.putRow encT (Sort.ahead wr n) g o T).heap[k]? = wr.heap[k]? := by simp [Sort.putRow, Sort.mapBlock, Sort.ahead, Array.getElem?_modify, hne]
    exact e.trans (h.block k hk)⟩
theorem put_C {wr : World} {g n : Nat} {T : List Tr} {D : List (List ByteArray)} (hH : Sort.Holds encT wr g 0 T.toArray) (hb : T.length ≤ 9223372036854775807) (hl : T.length = D.length)
    (hk : ∀ (j : Nat) (t : Tr) (p : List ByteArray), T[j]? = some t → D[j]? = some p → TrOk (Sort.putRow encT (Sort.ahead wr n) g 0 T.reverse.toArray) t p) :
    Kd.C (Kd.slice 9 Kd.string) (Sort.putRow encT (Sort.ahead wr n) g 0 T.reverse.toArray) (some ⟨g, 0, none⟩) D.reverse.length D.reverse := by
  refine ⟨rfl, by rw [List.length_reverse, ← hl]; exact hb, fun _ => ⟨⟨g, 0, none⟩, rfl, fun j p hp => ?_⟩⟩
  have hj : j < D.length := by have := (List.getElem?_eq_some_iff.1 hp).1; simpa using this
  have hjT : j < T.reverse.length := by rw [List.length_reverse]; omega
  obtain ⟨t, ht⟩ : ∃ t, T.reverse[j]? = some t := ⟨_, List.getElem?_eq_getElem hjT⟩
  have ht2 := ht
  rw [List.getElem?_reverse (by omega)] at ht hp
  rw [hl] at ht
  obtain ⟨k1, k2, k3⟩ := hk _ t p ht hp
  have hc := Sort.cell?_putRow encT (Sort.ahead wr n) g 0 T.toArray T.reverse.toArray hH (by simp) j (by simpa using hjT)
  refine ⟨[encT t], rfl, ⟨t.1, t.2.2, by unfold encT; rw [k1], k2, k3⟩, fun i u hu => ?_⟩
  match i, hu with
  | 0, hu =>
    obtain rfl : encT t = u := by simpa using hu
    have e1 : (Kd.slice 9 Kd.string).sz = 1 := rfl
    rw [Addr.add_lit, e1, Nat.mul_one, Nat.add_zero]
    rw [hc]
    have e2 : T.reverse.toArray[j]! = t := by
      rw [getElem!_pos _ j (by simpa using hjT)]
      have := List.getElem?_eq_some_iff.1 ht2
      obtain ⟨_, h⟩ := this
      simpa using h
    rw [e2]
set_option maxHeartbeats 4000000 in
set_option maxRecDepth 100000 in
theorem grouped_walk (A0 : Option Addr) (c0 : Nat) (l : List ByteArray) (first further least : Int) (w : World) (hr0 : Kd.string.C w A0 l.length l) (hc0 : l.length ≤ c0) (hn : l.length ≤ 1000000)
    (h1 : -9223372036854775808 ≤ first ∧ first ≤ 9223372036854775807) (h2 : -9223372036854775808 ≤ further ∧ further ≤ 9223372036854775807) (h3 : -9223372036854775808 ≤ least ∧ least ≤ 9223372036854775807) :
    Calls Tryd.prog 30 #[.slice A0 l.length c0, .int .i64 first, .int .i64 further, .int .i64 least] w fun e w' => ∃ (B : Option Addr) (cb : Nat), e = .returned (.slice B (groupedL l first further least).length cb) ∧
      (groupedL l first further least).length ≤ cb ∧ Kd.C (Kd.slice 9 Kd.string) w' B (groupedL l first further least).length (groupedL l first further least) ∧ Below w.heap.size w w' := by
  have HR0 := Aside0.mk hr0
  clear hr0
  have one : ∀ (v9 : Value) (w9 : World), Kd.R (Kd.raw 1) 56 w9 w.heap.size (fun _ => True) v9 [[.slice A0 l.length c0]] → Below w.heap.size w w9 → groupedL l first further least = [l] →
      ∃ (B : Option Addr) (cb : Nat), Ending.returned v9 = .returned (.slice B (groupedL l first further least).length cb) ∧
      (groupedL l first further least).length ≤ cb ∧ Kd.C (Kd.slice 9 Kd.string) w9 B (groupedL l first further least).length (groupedL l first further least) ∧ Below w.heap.size w w9 := by
    intro v9 w9 ho hb hG
    obtain ⟨B, cb, e1, e2, e3⟩ := raw_C (T := [(A0, l.length, c0)]) (G := [l]) ho rfl (fun j t g ht hg => by
      match j, ht, hg with
      | 0, ht, hg =>
        obtain rfl : (A0, l.length, c0) = t := by simpa using ht
        obtain rfl : l = g := by simpa using hg
        exact ⟨rfl, hc0, Kd.C_below HR0.out hb⟩)
    rw [hG]
    exact ⟨B, cb, by rw [e1], e2, e3, hb⟩
  have ONE := Aside0.mk one
  clear one
  by_cases f0 : first ≤ 0
  · have HG : Aside0 (groupedL l first further least = [l]) := ⟨by unfold groupedL; rw [if_pos (Or.inl f0)]⟩
    have q0 := decide_eq_true f0
    clear f0
    go_enter Tryd.func30, Tryd.ntmps30
    go_wp2_with ((with_reducible refine gate_dst (N := 23) rfl ?_); refine Kd.R_lit (Kd.raw 1) _ 56 ?hg (N := 23) ?hd (xs := ([[.slice A0 l.length c0]] : List (List Value))) (inner := [.slice A0 l.length c0]) (ok := fun _ => True) (okp := fun _ => True) ?hr ?hp (fun _ hk => hk) trivial (Below.refl _ _) (Nat.le_refl _) (by simp) ?_; (case hd => rfl); (case hg => rfl); (case hr => first | (go_simp; done) | (go_simp; rfl)); (case hp => exact reps_one _ ⟨rfl, rfl, fun u hu => by simp at hu; subst hu; rfl⟩); intro v9 w9 ho hb hg_ hnew_; have HR9 := Aside0.mk ho; have HB9 := Aside0.mk hb; clear ho hb hg_ hnew_)
    go_ret
    exact ONE.out _ _ HR9.out HB9.out HG.out
  · have q0 := decide_eq_false f0
    obtain ⟨ji, hji⟩ : ∃ ji : Int, IntKind.i64.wrap ((l.length : Int) - first) = ji := ⟨_, rfl⟩
    have eji : ji = (l.length : Int) - first := by rw [← hji, i64_w]; unfold wrap64; omega
    obtain ⟨mv, hmv⟩ : ∃ mv : Int, (if 1 < least then least else 1) = mv := ⟨_, rfl⟩
    by_cases f1 : ji < mv
    · have HG : Aside0 (groupedL l first further least = [l]) := ⟨by unfold groupedL; rw [if_pos (Or.inr (by rw [hmv, ← eji]; exact f1))]⟩
      have q1 := decide_eq_true f1
      clear f0 f1 eji
      go_enter Tryd.func30, Tryd.ntmps30
      go_wp2_with ((with_reducible refine gate_dst (N := 23) rfl ?_); refine Kd.R_lit (Kd.raw 1) _ 56 ?hg (N := 23) ?hd (xs := ([[.slice A0 l.length c0]] : List (List Value))) (inner := [.slice A0 l.length c0]) (ok := fun _ => True) (okp := fun _ => True) ?hr ?hp (fun _ hk => hk) trivial (Below.refl _ _) (Nat.le_refl _) (by simp) ?_; (case hd => rfl); (case hg => rfl); (case hr => first | (go_simp; done) | (go_simp; rfl)); (case hp => exact reps_one _ ⟨rfl, rfl, fun u hu => by simp at hu; subst hu; rfl⟩); intro v9 w9 ho hb hg_ hnew_; have HR9 := Aside0.mk ho; have HB9 := Aside0.mk hb; clear ho hb hg_ hnew_)
      go_ret
      exact ONE.out _ _ HR9.out HB9.out HG.out
    · have q1 := decide_eq_false f1
      clear ONE
      have hm1 : 1 ≤ mv := by rw [← hmv]; split <;> omega
      have hji2 : ∃ n0 : Nat, ji = (n0 : Int) := ⟨ji.toNat, by omega⟩
      obtain ⟨n0, hn0⟩ := hji2
      subst hn0
      obtain ⟨i9, hi9, _, hsz9, _⟩ := info_parts info9g
      have hcut := cut_from (P := Tryd.prog) 56 9 .i64 Tryd.underlying56 hi9 1 hsz9 A0 l.length c0 (n0 : Int) (by omega) (by omega)
      rw [Int.toNat_natCast, Nat.mul_one] at hcut
      obtain ⟨A1, hA1⟩ : ∃ A1, (if c0 = n0 then A0 else A0.map (·.add n0)) = A1 := ⟨_, rfl⟩
      obtain ⟨c1, hc1⟩ : ∃ c1, c0 - n0 = c1 := ⟨_, rfl⟩
      rw [hA1, hc1] at hcut
      have HT1 : Aside0 (TrOk w (A1, l.length - n0, c1) (l.drop n0)) := ⟨by
        refine ⟨by simp, by simp; omega, ?_⟩
        have k := Kd.C_drop (m := n0) (c := c0) HR0.out (by omega) hc0
        have es : (Kd.string).sz = 1 := rfl
        rw [es, Nat.mul_one, hA1] at k
        exact k⟩
      clear hi9 hsz9 hA1 hc1
      have P0 : Aside0 (n0 ≤ l.length) := ⟨by omega⟩
      have p0 := eq_true (show (n0 : Int) ≤ (l.length : Int) from by omega)
      by_cases f2 : further ≤ 0
      · have q2 := decide_eq_true f2
        obtain ⟨f, hf⟩ : ∃ f : Nat, (first).toNat = f := ⟨_, rfl⟩
        have hf0 : 0 < f := by omega
        have hfI : first = (f : Int) := by omega
        have HG : Aside0 (groupedL l first further least = (l.drop n0 :: chunksL l f n0 n0).reverse) := ⟨by
          unfold groupedL
          rw [if_neg (by rw [hmv, ← eji]; omega), if_pos f2, show l.length - first.toNat = n0 by omega, hf]⟩
        have HF := Aside0.mk hfI
        have HF0 := Aside0.mk hf0
        clear f0 f1 f2 eji hf hfI hf0
        go_enter Tryd.func30, Tryd.ntmps30
        go_wp2_with ((with_reducible refine gate_dst (N := 33) rfl ?_); refine Kd.R_lit (Kd.raw 1) _ 56 ?hg (N := 33) ?hd (xs := ([[.slice A1 (l.length - n0) c1]] : List (List Value))) (inner := [.slice A1 (l.length - n0) c1]) (ok := fun _ => True) (okp := fun _ => True) ?hr ?hp (fun _ hk => hk) trivial (Below.refl _ _) (Nat.le_refl _) (by simp) ?_; (case hd => rfl); (case hg => rfl); (case hr => first | (go_simp; done) | (go_simp; rfl)); (case hp => exact reps_one _ ⟨rfl, rfl, fun u hu => by simp at hu; subst hu; rfl⟩); intro v9 w9 ho hb hg_ hnew_; have HR9 := Aside0.mk ho; have HB9 := Aside0.mk hb; clear ho hb hg_ hnew_)
        go_loopg [9, 10] n0 (fun kq v9 v10 wr => ∃ (D : List (List ByteArray)) (T : List Tr) (e : Nat) (eI : Int), v10 = .int .i64 eI ∧ Aside0 (eI.toNat = e) ∧ Aside0 (eI ≤ 1000000 ∧ -9223372036854775808 ≤ eI) ∧ e ≤ l.length ∧ Aside0 (e ≤ kq) ∧ Aside0 (D ++ chunksL l f e e = l.drop n0 :: chunksL l f n0 n0) ∧ Aside0 (T.length + e ≤ n0 + 1) ∧
          Aside0 (T.length = D.length ∧ ∀ (j : Nat) (t : Tr) (g : List ByteArray), T[j]? = some t → D[j]? = some g → TrOk w t g) ∧ Aside0 (Kd.R (Kd.raw 1) 56 wr w.heap.size (fun _ => True) v9 (T.map fun t => [encT t])) ∧ Aside0 (Below w.heap.size w wr))
        case atStart => exact ⟨[l.drop n0], [(A1, l.length - n0, c1)], n0, (n0 : Int), rfl, ⟨by omega⟩, ⟨by have := P0.out; omega⟩, P0.out, ⟨Nat.le_refl _⟩, ⟨rfl⟩, ⟨by simp; omega⟩, ⟨⟨rfl, fun j t g ht hg => by
          match j, ht, hg with
          | 0, ht, hg =>
            obtain rfl : (A1, l.length - n0, c1) = t := by simpa using ht
            obtain rfl : l.drop n0 = g := by simpa using hg
            exact HT1.out⟩⟩, HR9, HB9⟩
        case round =>
          clear HR9 HB9
          obtain ⟨D, T, e, eI, rfl, HE, HEB, hel, HK, HD, HLT, HT, HR, HB⟩ := hrel
          obtain ⟨A9, c9, eA⟩ := Kd.R_slice HR.out
          rw [List.length_map] at eA
          subst eA
          by_cases he : eI > 0
          · obtain rfl : eI = (e : Int) := by have := HE.out; omega
            obtain ⟨k3, rfl⟩ : ∃ k3, gk = k3 + 1 := ⟨gk - 1, by have := HK.out; omega⟩
            have b0 := decide_eq_true he
            have b1 : decide (0 < e) = true := decide_eq_true (by omega)
            have b2 := eq_true (show 0 < e by omega)
            obtain ⟨lo, hlo⟩ : ∃ lo : Int, IntKind.i64.wrap ((e : Int) - first) = lo := ⟨_, rfl⟩
            have elo : lo = (e : Int) - first := by have := HF.out; have := HEB.out; rw [← hlo, i64_w]; unfold wrap64; omega
            obtain ⟨m, hm⟩ : ∃ m : Int, (if 0 < lo then lo else 0) = m := ⟨_, rfl⟩
            have em : m = ((e - f : Nat) : Int) := by have := HF.out; rw [← hm]; split <;> omega
            have hcl := cut_lhm A0 l.length c0 m (e : Int) (by omega) (by omega) (by omega)
            have e1 : m.toNat = e - f := by omega
            rw [e1, Int.toNat_natCast] at hcl
            have hne : ¬ e = e - f := by have := HF0.out; omega
            rw [if_neg hne] at hcl
            obtain ⟨A2, hA2⟩ : ∃ A2, (A0.map (·.add (e - f))) = A2 := ⟨_, rfl⟩
            rw [hA2] at hcl
            have HT2 : Aside0 (TrOk w (A2, e - (e - f), e - (e - f)) ((l.take e).drop (e - f))) := ⟨by
              have hlen : ((l.take e).drop (e - f)).length = e - (e - f) := by rw [List.length_drop, List.length_take]; omega
              refine ⟨hlen.symm, by rw [hlen]; exact Nat.le_refl _, ?_⟩
              have k1 := Kd.C_take (m := e) HR0.out hel
              have el : (l.take e).length = e := by rw [List.length_take]; omega
              have k2 := Kd.C_drop (m := e - f) (c := e) k1 (by omega) (by omega)
              rw [if_neg hne] at k2
              have es : (Kd.string).sz = 1 := rfl
              rw [es, Nat.mul_one, hA2] at k2
              exact k2⟩
            have HNX : Aside0 (chunksL l f e e = (l.take e).drop (e - f) :: chunksL l f (e - f) (e - f)) := ⟨by
              obtain ⟨e', rfl⟩ : ∃ e', e = e' + 1 := ⟨e - 1, by omega⟩
              have := HF0.out
              rw [chunksL, if_neg (by omega), chunks_fuel l f HF0.out e' (e' + 1 - f) (e' + 1 - f) (by omega) (Nat.le_refl _)]⟩
            have HLO : Aside0 (lo.toNat = e - f ∧ lo ≤ 1000000 ∧ -9223372036854775808 ≤ lo) := ⟨by have := HF.out; have := HEB.out; omega⟩
            have HLL : Aside0 (e - f ≤ l.length ∧ e - f ≤ k3 ∧ T.length + 1 + (e - f) ≤ n0 + 1) := ⟨by have := HF0.out; have := HK.out; have := HLT.out; omega⟩
            clear elo e1 hne hA2 he HK em
            go_wp2_with ((with_reducible refine gate_builtin (b := .append) (xs := #[.tmp 43, .tmp 52]) rfl ?_); at_builtin; refine Kd.R_append (Kd.raw 1) (w0 := w) w.heap.size rfl (.tmp 43) (.tmp 52) 65 56 (.slice none 0 0) 24 rfl Tryd.underlying65 info56 rfl (by decide) (by omega) _ (T.map fun t => [encT t]) [.slice A2 (e - (e - f)) (e - (e - f))] [.slice A2 (e - (e - f)) (e - (e - f))] (fun _ => True) (fun _ => False) rfl rfl ?aP (fun _ hk => hk.elim) ?aF ?aO ?aB ?aS ?aL ?_; (case aP => exact ⟨rfl, rfl, fun u hu => by simp at hu; subst hu; rfl⟩); (case aB => exact HB.out); (case aF => exact fun _ _ => trivial); (case aO => exact HR.out); (case aS => exact below_size HB.out); (case aL => have := HLT.out; have := P0.out; rw [List.length_map]; omega); intro v10 w10 ho hb hg hat; have n0_ := Aside0.mk hb; have n1_ := Aside0.mk ho; clear ho hb hg hat)
            go_roundg k3
            case measure => omega
            case rel => exact ⟨D ++ [(l.take e).drop (e - f)], T ++ [(A2, e - (e - f), e - (e - f))], e - f, lo, rfl, ⟨HLO.out.1⟩, ⟨HLO.out.2⟩, HLL.out.1, ⟨HLL.out.2.1⟩, ⟨by rw [List.append_assoc, List.singleton_append, ← HNX.out]; exact HD.out⟩, ⟨by rw [List.length_append, List.length_singleton]; exact HLL.out.2.2⟩, ⟨by
              obtain ⟨k1, k2⟩ := HT.out
              refine ⟨by rw [List.length_append, List.length_append, k1]; rfl, fun j t g ht hg => ?_⟩
              rcases Nat.lt_or_ge j T.length with hj | hj
              · rw [List.getElem?_append_left hj] at ht
                rw [List.getElem?_append_left (by omega)] at hg
                exact k2 j t g ht hg
              · rw [List.getElem?_append_right hj] at ht
                rw [List.getElem?_append_right (by omega)] at hg
                have hj0 : j - T.length = 0 := by have := (List.getElem?_eq_some_iff.1 ht).1; simp at this; omega
                rw [hj0] at ht
                rw [← k1, hj0] at hg
                obtain rfl : (A2, e - (e - f), e - (e - f)) = t := by simpa using ht
                obtain rfl : (l.take e).drop (e - f) = g := by simpa using hg
                exact HT2.out⟩, ⟨by rw [List.map_append]; exact n1_.out⟩, n0_⟩
          · have b0 := decide_eq_false he
            obtain rfl : e = 0 := by have := HE.out; omega
            have HDD : Aside0 (D = l.drop n0 :: chunksL l f n0 n0) := ⟨by have h := HD.out; rw [show chunksL l f 0 0 = [] from rfl, List.append_nil] at h; exact h⟩
            have hTl : 0 < T.length := by rw [HT.out.1, HDD.out]; simp
            obtain ⟨g, rfl, hg1, hg2, hH⟩ := own_holds HR.out hTl
            have HH := Aside0.mk hH
            have HG1 := Aside0.mk hg1
            have HTL := Aside0.mk hTl
            clear hH hg1 hTl HD HE HEB he
            go_wp2_with fail
            refine (Tryd.slices_Reverse encT oneT g 0 c9 T wr HH.out (by have := HLT.out; have := P0.out; omega)).mono ?_
            rintro e2 w5 ⟨rfl, nq, rfl⟩
            have HB5 : Aside0 (Below w.heap.size w (Sort.putRow encT (Sort.ahead wr nq) g 0 T.reverse.toArray)) := ⟨put_below HB.out HG1.out _ _⟩
            have HC5 : Aside0 (Kd.C (Kd.slice 9 Kd.string) (Sort.putRow encT (Sort.ahead wr nq) g 0 T.reverse.toArray) (some ⟨g, 0, none⟩) D.reverse.length D.reverse) := ⟨put_C HH.out (by have := HLT.out; have := P0.out; omega) HT.out.1 (fun j t p ht hp => by
              obtain ⟨k1, k2, k3⟩ := HT.out.2 j t p ht hp
              exact ⟨k1, k2, Kd.C_below k3 HB5.out⟩)⟩
            have hlc : D.reverse.length = T.length := by rw [List.length_reverse, HT.out.1]
            have hle := (Kd.R_reads' HR.out).2.1
            have HCL : Aside0 (T.length ≤ c9) := ⟨hle⟩
            generalize Sort.putRow encT (Sort.ahead wr nq) g 0 T.reverse.toArray = W5 at *
            clear hle hg2
            go_wp2
            go_ret
            refine ⟨some ⟨g, 0, none⟩, c9, ?_, ?_, ?_, HB5.out⟩
            · rw [HG.out, ← HDD.out, hlc]; rfl
            · rw [HG.out, ← HDD.out, hlc]; exact HCL.out
            · rw [HG.out, ← HDD.out]; exact HC5.out
      · have q2 := decide_eq_false f2
        obtain ⟨f, hf⟩ : ∃ f : Nat, (further).toNat = f := ⟨_, rfl⟩
        have hf0 : 0 < f := by omega
        have hfI : further = (f : Int) := by omega
        have HG : Aside0 (groupedL l first further least = (l.drop n0 :: chunksL l f n0 n0).reverse) := ⟨by
          unfold groupedL
          rw [if_neg (by rw [hmv, ← eji]; omega), if_neg f2, show l.length - first.toNat = n0 by omega, hf]⟩
        have HF := Aside0.mk hfI
        have HF0 := Aside0.mk hf0
        clear f0 f1 f2 eji hf hfI hf0
        go_enter Tryd.func30, Tryd.ntmps30
        go_wp2_with ((with_reducible refine gate_dst (N := 33) rfl ?_); refine Kd.R_lit (Kd.raw 1) _ 56 ?hg (N := 33) ?hd (xs := ([[.slice A1 (l.length - n0) c1]] : List (List Value))) (inner := [.slice A1 (l.length - n0) c1]) (ok := fun _ => True) (okp := fun _ => True) ?hr ?hp (fun _ hk => hk) trivial (Below.refl _ _) (Nat.le_refl _) (by simp) ?_; (case hd => rfl); (case hg => rfl); (case hr => first | (go_simp; done) | (go_simp; rfl)); (case hp => exact reps_one _ ⟨rfl, rfl, fun u hu => by simp at hu; subst hu; rfl⟩); intro v9 w9 ho hb hg_ hnew_; have HR9 := Aside0.mk ho; have HB9 := Aside0.mk hb; clear ho hb hg_ hnew_)
        go_loopg [9, 10] n0 (fun kq v9 v10 wr => ∃ (D : List (List ByteArray)) (T : List Tr) (e : Nat) (eI : Int), v10 = .int .i64 eI ∧ Aside0 (eI.toNat = e) ∧ Aside0 (eI ≤ 1000000 ∧ -9223372036854775808 ≤ eI) ∧ e ≤ l.length ∧ Aside0 (e ≤ kq) ∧ Aside0 (D ++ chunksL l f e e = l.drop n0 :: chunksL l f n0 n0) ∧ Aside0 (T.length + e ≤ n0 + 1) ∧
          Aside0 (T.length = D.length ∧ ∀ (j : Nat) (t : Tr) (g : List ByteArray), T[j]? = some t → D[j]? = some g → TrOk w t g) ∧ Aside0 (Kd.R (Kd.raw 1) 56 wr w.heap.size (fun _ => True) v9 (T.map fun t => [encT t])) ∧ Aside0 (Below w.heap.size w wr))
        case atStart => exact ⟨[l.drop n0], [(A1, l.length - n0, c1)], n0, (n0 : Int), rfl, ⟨by omega⟩, ⟨by have := P0.out; omega⟩, P0.out, ⟨Nat.le_refl _⟩, ⟨rfl⟩, ⟨by simp; omega⟩, ⟨⟨rfl, fun j t g ht hg => by
          match j, ht, hg with
          | 0, ht, hg =>
            obtain rfl : (A1, l.length - n0, c1) = t := by simpa using ht
            obtain rfl : l.drop n0 = g := by simpa using hg
            exact HT1.out⟩⟩, HR9, HB9⟩
        case round =>
          clear HR9 HB9
          obtain ⟨D, T, e, eI, rfl, HE, HEB, hel, HK, HD, HLT, HT, HR, HB⟩ := hrel
          obtain ⟨A9, c9, eA⟩ := Kd.R_slice HR.out
          rw [List.length_map] at eA
          subst eA
          by_cases he : eI > 0
          · obtain rfl : eI = (e : Int) := by have := HE.out; omega
            obtain ⟨k3, rfl⟩ : ∃ k3, gk = k3 + 1 := ⟨gk - 1, by have := HK.out; omega⟩
            have b0 := decide_eq_true he
            have b1 : decide (0 < e) = true := decide_eq_true (by omega)
            have b2 := eq_true (show 0 < e by omega)
            obtain ⟨lo, hlo⟩ : ∃ lo : Int, IntKind.i64.wrap ((e : Int) - further) = lo := ⟨_, rfl⟩
            have elo : lo = (e : Int) - further := by have := HF.out; have := HEB.out; rw [← hlo, i64_w]; unfold wrap64; omega
            obtain ⟨m, hm⟩ : ∃ m : Int, (if 0 < lo then lo else 0) = m := ⟨_, rfl⟩
            have em : m = ((e - f : Nat) : Int) := by have := HF.out; rw [← hm]; split <;> omega
            have hcl := cut_lhm A0 l.length c0 m (e : Int) (by omega) (by omega) (by omega)
            have e1 : m.toNat = e - f := by omega
            rw [e1, Int.toNat_natCast] at hcl
            have hne : ¬ e = e - f := by have := HF0.out; omega
            rw [if_neg hne] at hcl
            obtain ⟨A2, hA2⟩ : ∃ A2, (A0.map (·.add (e - f))) = A2 := ⟨_, rfl⟩
            rw [hA2] at hcl
            have HT2 : Aside0 (TrOk w (A2, e - (e - f), e - (e - f)) ((l.take e).drop (e - f))) := ⟨by
              have hlen : ((l.take e).drop (e - f)).length = e - (e - f) := by rw [List.length_drop, List.length_take]; omega
              refine ⟨hlen.symm, by rw [hlen]; exact Nat.le_refl _, ?_⟩
              have k1 := Kd.C_take (m := e) HR0.out hel
              have el : (l.take e).length = e := by rw [List.length_take]; omega
              have k2 := Kd.C_drop (m := e - f) (c := e) k1 (by omega) (by omega)
              rw [if_neg hne] at k2
              have es : (Kd.string).sz = 1 := rfl
              rw [es, Nat.mul_one, hA2] at k2
              exact k2⟩
            have HNX : Aside0 (chunksL l f e e = (l.take e).drop (e - f) :: chunksL l f (e - f) (e - f)) := ⟨by
              obtain ⟨e', rfl⟩ : ∃ e', e = e' + 1 := ⟨e - 1, by omega⟩
              have := HF0.out
              rw [chunksL, if_neg (by omega), chunks_fuel l f HF0.out e' (e' + 1 - f) (e' + 1 - f) (by omega) (Nat.le_refl _)]⟩
            have HLO : Aside0 (lo.toNat = e - f ∧ lo ≤ 1000000 ∧ -9223372036854775808 ≤ lo) := ⟨by have := HF.out; have := HEB.out; omega⟩
            have HLL : Aside0 (e - f ≤ l.length ∧ e - f ≤ k3 ∧ T.length + 1 + (e - f) ≤ n0 + 1) := ⟨by have := HF0.out; have := HK.out; have := HLT.out; omega⟩
            clear elo e1 hne hA2 he HK em
            go_wp2_with ((with_reducible refine gate_builtin (b := .append) (xs := #[.tmp 43, .tmp 52]) rfl ?_); at_builtin; refine Kd.R_append (Kd.raw 1) (w0 := w) w.heap.size rfl (.tmp 43) (.tmp 52) 65 56 (.slice none 0 0) 24 rfl Tryd.underlying65 info56 rfl (by decide) (by omega) _ (T.map fun t => [encT t]) [.slice A2 (e - (e - f)) (e - (e - f))] [.slice A2 (e - (e - f)) (e - (e - f))] (fun _ => True) (fun _ => False) rfl rfl ?aP (fun _ hk => hk.elim) ?aF ?aO ?aB ?aS ?aL ?_; (case aP => exact ⟨rfl, rfl, fun u hu => by simp at hu; subst hu; rfl⟩); (case aB => exact HB.out); (case aF => exact fun _ _ => trivial); (case aO => exact HR.out); (case aS => exact below_size HB.out); (case aL => have := HLT.out; have := P0.out; rw [List.length_map]; omega); intro v10 w10 ho hb hg hat; have n0_ := Aside0.mk hb; have n1_ := Aside0.mk ho; clear ho hb hg hat)
            go_roundg k3
            case measure => omega
            case rel => exact ⟨D ++ [(l.take e).drop (e - f)], T ++ [(A2, e - (e - f), e - (e - f))], e - f, lo, rfl, ⟨HLO.out.1⟩, ⟨HLO.out.2⟩, HLL.out.1, ⟨HLL.out.2.1⟩, ⟨by rw [List.append_assoc, List.singleton_append, ← HNX.out]; exact HD.out⟩, ⟨by rw [List.length_append, List.length_singleton]; exact HLL.out.2.2⟩, ⟨by
              obtain ⟨k1, k2⟩ := HT.out
              refine ⟨by rw [List.length_append, List.length_append, k1]; rfl, fun j t g ht hg => ?_⟩
              rcases Nat.lt_or_ge j T.length with hj | hj
              · rw [List.getElem?_append_left hj] at ht
                rw [List.getElem?_append_left (by omega)] at hg
                exact k2 j t g ht hg
              · rw [List.getElem?_append_right hj] at ht
                rw [List.getElem?_append_right (by omega)] at hg
                have hj0 : j - T.length = 0 := by have := (List.getElem?_eq_some_iff.1 ht).1; simp at this; omega
                rw [hj0] at ht
                rw [← k1, hj0] at hg
                obtain rfl : (A2, e - (e - f), e - (e - f)) = t := by simpa using ht
                obtain rfl : (l.take e).drop (e - f) = g := by simpa using hg
                exact HT2.out⟩, ⟨by rw [List.map_append]; exact n1_.out⟩, n0_⟩
          · have b0 := decide_eq_false he
            obtain rfl : e = 0 := by have := HE.out; omega
            have HDD : Aside0 (D = l.drop n0 :: chunksL l f n0 n0) := ⟨by have h := HD.out; rw [show chunksL l f 0 0 = [] from rfl, List.append_nil] at h; exact h⟩
            have hTl : 0 < T.length := by rw [HT.out.1, HDD.out]; simp
            obtain ⟨g, rfl, hg1, hg2, hH⟩ := own_holds HR.out hTl
            have HH := Aside0.mk hH
            have HG1 := Aside0.mk hg1
            have HTL := Aside0.mk hTl
            clear hH hg1 hTl HD HE HEB he
            go_wp2_with fail
            refine (Tryd.slices_Reverse encT oneT g 0 c9 T wr HH.out (by have := HLT.out; have := P0.out; omega)).mono ?_
            rintro e2 w5 ⟨rfl, nq, rfl⟩
            have HB5 : Aside0 (Below w.heap.size w (Sort.putRow encT (Sort.ahead wr nq) g 0 T.reverse.toArray)) := ⟨put_below HB.out HG1.out _ _⟩
            have HC5 : Aside0 (Kd.C (Kd.slice 9 Kd.string) (Sort.putRow encT (Sort.ahead wr nq) g 0 T.reverse.toArray) (some ⟨g, 0, none⟩) D.reverse.length D.reverse) := ⟨put_C HH.out (by have := HLT.out; have := P0.out; omega) HT.out.1 (fun j t p ht hp => by
              obtain ⟨k1, k2, k3⟩ := HT.out.2 j t p ht hp
              exact ⟨k1, k2, Kd.C_below k3 HB5.out⟩)⟩
            have hlc : D.reverse.length = T.length := by rw [List.length_reverse, HT.out.1]
            have hle := (Kd.R_reads' HR.out).2.1
            have HCL : Aside0 (T.length ≤ c9) := ⟨hle⟩
            generalize Sort.putRow encT (Sort.ahead wr nq) g 0 T.reverse.toArray = W5 at *
            clear hle hg2
            go_wp2
            go_ret
            refine ⟨some ⟨g, 0, none⟩, c9, ?_, ?_, ?_, HB5.out⟩
            · rw [HG.out, ← HDD.out, hlc]; rfl
            · rw [HG.out, ← HDD.out, hlc]; exact HCL.out
            · rw [HG.out, ← HDD.out]; exact HC5.out
end Go.Proofs.YtefejkhcbelahaaDoor.Q
