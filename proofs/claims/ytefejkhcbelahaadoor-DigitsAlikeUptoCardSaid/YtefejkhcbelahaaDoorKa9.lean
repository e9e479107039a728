import Derived.Test.YtefejkhcbelahaaDoorKa1
namespace Go.Proofs.YtefejkhcbelahaaDoor.Q
open Go.RowKit Go.Proofs.YtefejkhcbelahaaDoorW.PrintWords Go.Proofs.YtefejkhcbelahaaDoorW.PrintLast Go.Proofs.YtefejkhcbelahaaDoorW.PrintMore
set_option linter.unusedVariables false
set_option linter.unusedSimpArgs false
def setIt (W : World) (it : Nat) (o : Obj) : World := { W with heap := W.heap.setIfInBounds it o }
theorem next_asc (W : World) (it : Nat) (s : ByteArray) (pos : Nat) (ty : TypeId) (hi : W.heap[it]? = some (.stringIter s pos)) (h : pos < s.size) (ha : (s[pos]'h).toNat < 128) :
    (Instr.next (.pointer (some ⟨it, 0, none⟩)) true ty).run Tryd.prog W = .ok (.tuple #[.bool true, .int .i64 pos, .int .i32 (s[pos]'h).toNat]) (setIt W it (.stringIter s (pos + 1))) := by
  simp only [Instr.next, getObj, setObj, Sem.run_bind, Sem.run, hi, Result.andThen, h, if_true, decode_ascii s pos h ha]
  simp [goInt, Sem.run, hi, setIt]
theorem next_over (W : World) (it : Nat) (s : ByteArray) (pos : Nat) (ty : TypeId) (hi : W.heap[it]? = some (.stringIter s pos)) (h : ¬ pos < s.size) :
    (Instr.next (.pointer (some ⟨it, 0, none⟩)) true ty).run Tryd.prog W = .ok (.tuple #[.bool false]) W := by
  simp [Instr.next, getObj, Sem.run, hi, h]
theorem setIt_here {W : World} {it : Nat} {o : Obj} (h : it < W.heap.size) : (setIt W it o).heap[it]? = some o := by
  unfold setIt
  exact Array.getElem?_setIfInBounds_self_of_lt h
theorem setIt_far {W : World} {it k : Nat} {o : Obj} (h : k ≠ it) : (setIt W it o).heap[k]? = W.heap[k]? := by
  unfold setIt
  exact Array.getElem?_setIfInBounds_ne (fun e => h e.symm)
theorem setIt_below {w W : World} {it : Nat} {o : Obj} (h : Below w.heap.size w W) (hi : w.heap.size ≤ it) : Below w.heap.size w (setIt W it o) :=
  ⟨h.os, h.tape, h.output, by unfold setIt; simpa using h.size, fun k hk => (setIt_far (by omega)).trans (h.block k hk)⟩
theorem info9 : (Tryd.prog.info? 9).map (fun i => (i.zero, i.size, i.bytes)) = some (some (.string ⟨#[]⟩), 1, 16) := by kernel_rfl
/-- The symbol of a digit. -/
def sym (D : List ByteArray) (b : UInt8) : ByteArray := D.getD (b.toNat - 48) ⟨#[]⟩
def writtenL (D : List ByteArray) (l : List UInt8) : List ByteArray := l.map (sym D)
def symsOf (a0 a1 a2 a3 a4 a5 a6 a7 a8 a9 : ByteArray) : List ByteArray := [a0, a1, a2, a3, a4, a5, a6, a7, a8, a9]
theorem iter_lt {W : World} {it : Nat} {o : Obj} (h : W.heap[it]? = some o) : it < W.heap.size := by
  obtain ⟨h1, _⟩ := Array.getElem?_eq_some_iff.1 h
  exact h1
theorem dig_cell {W : World} {gb d : Nat} {a0 a1 a2 a3 a4 a5 a6 a7 a8 a9 a10 a11 a12 a13 a14 a15 a16 a17 a18 a19 a20 : ByteArray} (h : W.heap[gb]? = some (.cells #[.string a0, .string a1, .string a2, .string a3, .string a4, .string a5, .string a6, .string a7, .string a8, .string a9, .string a10, .string a11, .string a12, .string a13, .string a14, .string a15, .string a16, .string a17, .string a18, .string a19, .string a20] 26 (0, 0))) (hd : d < 10) : W.cell? ⟨gb, d, none⟩ = some (.string ((symsOf a0 a1 a2 a3 a4 a5 a6 a7 a8 a9).getD d ⟨#[]⟩)) := by
  rw [blk_cell h]
  match d, hd with
  | 0, _ => rfl
  | 1, _ => rfl
  | 2, _ => rfl
  | 3, _ => rfl
  | 4, _ => rfl
  | 5, _ => rfl
  | 6, _ => rfl
  | 7, _ => rfl
  | 8, _ => rfl
  | 9, _ => rfl
set_option maxHeartbeats 4000000 in
set_option maxRecDepth 100000 in
theorem written_calls (s : ByteArray) (a0 a1 a2 a3 a4 a5 a6 a7 a8 a9 a10 a11 a12 a13 a14 a15 a16 a17 a18 a19 a20 : ByteArray) (w : World) (hd : digB s.data.toList = true) (hs : s.size ≤ 1000000) :
    Calls Tryd.prog 26 #[.string s, .agg #[.string a0, .string a1, .string a2, .string a3, .string a4, .string a5, .string a6, .string a7, .string a8, .string a9, .string a10, .string a11, .string a12, .string a13, .string a14, .string a15, .string a16, .string a17, .string a18, .string a19, .string a20]] w fun e w' => ∃ v0_ : Value, e = .returned (v0_) ∧ Kd.R Kd.string 9 w' w.heap.size (fun _ => True) v0_ (writtenL (symsOf a0 a1 a2 a3 a4 a5 a6 a7 a8 a9) s.data.toList) ∧ Below w.heap.size w w' := by
  have HD := Aside0.mk hd
  clear hd
  obtain ⟨i9, hi9, hz9, hsz9, hby9⟩ := info_parts info9
  have I9 := Aside0.mk (And.intro hi9 (And.intro hz9 (And.intro hsz9 hby9)))
  clear hi9 hz9 hsz9 hby9
  go_enter Tryd.func26, Tryd.ntmps26
  go_wp2_with ((with_reducible refine gate_dst (N := 10) rfl ?_); refine wpList_make_own _ rfl _ _ 56 rfl w.heap.size 9 i9 (.string ⟨#[]⟩) 1 Tryd.underlying56 I9.out.1 I9.out.2.1 I9.out.2.2.1 .i64 .i64 (s.size : Int) s.size rfl rfl rfl ?b2 ?b3 ?b4 ?_; (case b2 => rw [I9.out.2.2.2]; omega); (case b3 => unfold maxLen; omega); (case b4 => simp); intro w1 hown hgr; have HO := Aside0.mk hown; have HGR := Aside0.mk hgr; clear hown hgr)
  have hgb : w.heap.size ≠ w1.heap.size := by have := HGR.out.size; simp at this; omega
  have HB0 : Aside0 (Below w.heap.size w w1) := ⟨(below_alloc (Below.refl _ _) _).grown HGR.out (by simp) (fun k hk => by cases hk)⟩
  have BX0 : Aside0 (w1.heap[w.heap.size]? = some (.cells #[.string a0, .string a1, .string a2, .string a3, .string a4, .string a5, .string a6, .string a7, .string a8, .string a9, .string a10, .string a11, .string a12, .string a13, .string a14, .string a15, .string a16, .string a17, .string a18, .string a19, .string a20] 26 (0, 0))) := ⟨(HGR.out.block w.heap.size (by simp) (fun e => by cases e)).trans (blk_new _ _)⟩
  have HR0 : Aside0 (Kd.R Kd.string 9 w1 w.heap.size (fun k => k ≠ w1.heap.size) (.slice (some ⟨(w.alloc (.cells #[.string a0, .string a1, .string a2, .string a3, .string a4, .string a5, .string a6, .string a7, .string a8, .string a9, .string a10, .string a11, .string a12, .string a13, .string a14, .string a15, .string a16, .string a17, .string a18, .string a19, .string a20] 26)).heap.size, 0, none⟩) 0 s.size) []) := ⟨⟨fun k hk => by
    have e : (w.alloc (.cells #[.string a0, .string a1, .string a2, .string a3, .string a4, .string a5, .string a6, .string a7, .string a8, .string a9, .string a10, .string a11, .string a12, .string a13, .string a14, .string a15, .string a16, .string a17, .string a18, .string a19, .string a20] 26)).heap.size = k := by simpa [Value.ownBlock] using hk
    obtain ⟨_, ho⟩ := HO.out
    rcases ho with ⟨h, _⟩ | ⟨g, cap, cur, h, _, h2, _⟩
    · cases h
    · injection h with h3 h4 h5
      injection h3 with h3
      injection h3 with h3
      have := blk_lt h2
      omega, [], HO.out, Reps.none _ _⟩⟩
  obtain ⟨it, hit⟩ : ∃ it, w1.heap.size = it := ⟨_, rfl⟩
  have IT0 : Aside0 ((w1.iter s 0).heap[it]? = some (.stringIter s 0)) := ⟨hit ▸ w1.iter_heap s 0⟩
  have HB1 : Aside0 (Below w.heap.size w (w1.iter s 0)) := ⟨below_alloc HB0.out _⟩
  have BX1 : Aside0 ((w1.iter s 0).heap[w.heap.size]? = some (.cells #[.string a0, .string a1, .string a2, .string a3, .string a4, .string a5, .string a6, .string a7, .string a8, .string a9, .string a10, .string a11, .string a12, .string a13, .string a14, .string a15, .string a16, .string a17, .string a18, .string a19, .string a20] 26 (0, 0))) := ⟨blk_alloc BX0.out _⟩
  have HR1 := Aside0.mk (Kd.R_alloc HR0.out (.stringIter s 0))
  rw [hit] at HR1 hgb
  have HIT : Aside0 (w.heap.size ≤ it) := ⟨by have := HB0.out.size; omega⟩
  rw [show (w.alloc (.cells #[.string a0, .string a1, .string a2, .string a3, .string a4, .string a5, .string a6, .string a7, .string a8, .string a9, .string a10, .string a11, .string a12, .string a13, .string a14, .string a15, .string a16, .string a17, .string a18, .string a19, .string a20] 26)).heap.size = w.heap.size + 1 by simp] at HR1
  rw [hit]
  have HGB := Aside0.mk hgb
  clear HGR HO HB0 BX0 HR0 hgb
  go_loopg [5] s.size (fun kq v5 wr => ∃ pos : Nat, pos ≤ s.size ∧ Aside0 (s.size - pos ≤ kq) ∧ Aside0 (wr.heap[it]? = some (.stringIter s pos)) ∧ Aside0 (Kd.R Kd.string 9 wr w.heap.size (fun k => k ≠ it) v5 (writtenL (symsOf a0 a1 a2 a3 a4 a5 a6 a7 a8 a9) (s.data.toList.take pos))) ∧ Aside0 (wr.heap[w.heap.size]? = some (.cells #[.string a0, .string a1, .string a2, .string a3, .string a4, .string a5, .string a6, .string a7, .string a8, .string a9, .string a10, .string a11, .string a12, .string a13, .string a14, .string a15, .string a16, .string a17, .string a18, .string a19, .string a20] 26 (0, 0))) ∧ Aside0 (Below w.heap.size w wr))
  case atStart => exact ⟨0, Nat.zero_le _, ⟨by omega⟩, IT0, HR1, BX1, HB1⟩
  case round =>
    clear IT0 HB1 BX1 HR1
    obtain ⟨pos, hle, HK, IT, HR, BX, HB⟩ := hrel
    obtain ⟨A5, c5, rfl⟩ := Kd.R_slice HR.out
    by_cases hp : pos < s.size
    · obtain ⟨k3, rfl⟩ : ∃ k3, gk = k3 + 1 := ⟨gk - 1, by have := HK.out; omega⟩
      have hok : okd s[pos] := by
        have h := HD.out
        unfold digB at h
        rw [List.all_eq_true] at h
        have h2 := h s[pos] (by rw [List.mem_iff_getElem?]; exact ⟨pos, sdata s pos hp⟩)
        rw [Bool.and_eq_true] at h2
        exact ⟨of_decide_eq_true h2.1, of_decide_eq_true h2.2⟩
      have hnx := fun ty => next_asc wr it s pos ty IT.out hp (by have := hok.2; omega)
      obtain ⟨b, hbb⟩ : ∃ b, s[pos] = b := ⟨_, rfl⟩
      rw [hbb] at hok hnx
      have FT : Aside0 (writtenL (symsOf a0 a1 a2 a3 a4 a5 a6 a7 a8 a9) (s.data.toList.take (pos + 1)) = writtenL (symsOf a0 a1 a2 a3 a4 a5 a6 a7 a8 a9) (s.data.toList.take pos) ++ [sym (symsOf a0 a1 a2 a3 a4 a5 a6 a7 a8 a9) b]) := ⟨by
        unfold writtenL
        rw [List.take_succ_eq_append_getElem (by rw [slen]; exact hp), List.map_append]
        have e : s.data.toList[pos]'(by rw [slen]; exact hp) = b := by rw [← hbb]; exact Option.some.inj ((List.getElem?_eq_getElem (by rw [slen]; exact hp)).symm.trans (sdata s pos hp))
        rw [e]; rfl⟩
      have HT : Aside0 ((writtenL (symsOf a0 a1 a2 a3 a4 a5 a6 a7 a8 a9) (s.data.toList.take pos)).length ≤ 1000000) := ⟨by unfold writtenL; rw [List.length_map, List.length_take, slen]; omega⟩
      obtain ⟨W2, hW2⟩ : ∃ W2, setIt wr it (.stringIter s (pos + 1)) = W2 := ⟨_, rfl⟩
      rw [hW2] at hnx
      have IT2 : Aside0 (W2.heap[it]? = some (.stringIter s (pos + 1))) := ⟨by rw [← hW2]; exact setIt_here (iter_lt IT.out)⟩
      have HR2 : Aside0 (Kd.R Kd.string 9 W2 w.heap.size (fun k => k ≠ it) (.slice A5 (writtenL (symsOf a0 a1 a2 a3 a4 a5 a6 a7 a8 a9) (s.data.toList.take pos)).length c5) (writtenL (symsOf a0 a1 a2 a3 a4 a5 a6 a7 a8 a9) (s.data.toList.take pos))) := ⟨Kd.R_step HR.out (fun k hk _ => by rw [← hW2]; exact setIt_far hk)⟩
      have BX2 : Aside0 (W2.heap[w.heap.size]? = some (.cells #[.string a0, .string a1, .string a2, .string a3, .string a4, .string a5, .string a6, .string a7, .string a8, .string a9, .string a10, .string a11, .string a12, .string a13, .string a14, .string a15, .string a16, .string a17, .string a18, .string a19, .string a20] 26 (0, 0))) := ⟨by rw [← hW2]; exact (setIt_far HGB.out).trans BX.out⟩
      have HB2 : Aside0 (Below w.heap.size w W2) := ⟨by rw [← hW2]; exact setIt_below HB.out HIT.out⟩
      have HK2 : Aside0 ((Value.slice A5 (writtenL (symsOf a0 a1 a2 a3 a4 a5 a6 a7 a8 a9) (s.data.toList.take pos)).length c5).ownBlock ≠ some it) := ⟨fun e => HR2.out.1 it e rfl⟩
      have HN2 : Aside0 ((Value.slice A5 (writtenL (symsOf a0 a1 a2 a3 a4 a5 a6 a7 a8 a9) (s.data.toList.take pos)).length c5).ownBlock ≠ some w.heap.size) := ⟨fun e => by
        obtain ⟨_, inner, ⟨_, ho⟩, _⟩ := HR2.out
        rcases ho with ⟨h, _⟩ | ⟨g, cap, cur, h, _, h2, _⟩
        · rw [h] at e; cases e
        · rw [h] at e
          have e2 : g = w.heap.size := by simpa [Value.ownBlock] using e
          subst e2
          rw [BX2.out] at h2
          injection h2 with h2
          injection h2 with _ h3 _
          cases h3⟩
      clear hW2 IT HR BX HB
      obtain ⟨d, hdd⟩ : ∃ d, b.toNat - 48 = d := ⟨_, rfl⟩
      have hd10 : d < 10 := by have := hok.2; have := hok.1; omega
      have hxd := dig_cell BX2.out hd10
      have es : sym (symsOf a0 a1 a2 a3 a4 a5 a6 a7 a8 a9) b = (symsOf a0 a1 a2 a3 a4 a5 a6 a7 a8 a9).getD d ⟨#[]⟩ := by unfold sym; rw [hdd]
      rw [← es] at hxd
      have hw : IntKind.i32.wrap ((b.toNat : Int) - 48) = (d : Int) := by
        have h1 := hok.1
        have h2 := hok.2
        rw [i32_w]
        unfold wrap32
        omega
      have r0 := eq_true (show (0 : Int) ≤ (d : Int) from by omega)
      have r1 := eq_true (show (d : Int) < 10 from by omega)
      have r2 := eq_true hd10
      have HOK := Aside0.mk hok
      have HLT := Aside0.mk hp
      clear hok es hdd hbb hp
      go_wp2_with ((with_reducible refine gate_builtin (b := .append) (xs := #[.tmp 16, .tmp 22]) rfl ?_); at_builtin; refine Kd.R_append Kd.string (w0 := w) w.heap.size rfl (.tmp 16) (.tmp 22) 56 9 (.string ⟨#[]⟩) 16 rfl Tryd.underlying56 info9 rfl (by decide) (by omega) _ (writtenL (symsOf a0 a1 a2 a3 a4 a5 a6 a7 a8 a9) (s.data.toList.take pos)) (sym (symsOf a0 a1 a2 a3 a4 a5 a6 a7 a8 a9) b) [.string (sym (symsOf a0 a1 a2 a3 a4 a5 a6 a7 a8 a9) b)] (fun k => k ≠ it) (fun _ => False) rfl rfl ?aP (fun _ hk => hk.elim) ?aF ?aO ?aB ?aS ?aL ?_; (case aP => exact rfl); (case aB => exact HB2.out); (case aF => exact (fun k hk e => by subst e; exact absurd IT2.out (fun h => by have := iter_lt h; omega))); (case aO => exact HR2.out); (case aS => exact below_size HB2.out); (case aL => have := HT.out; omega); intro v9 w9 ho hb hg hat; have n0 := Aside0.mk hb; have n1 := Aside0.mk ho; have n2 := Aside0.mk ((hg.block it (iter_lt IT2.out) (fun e => HK2.out e.symm)).trans IT2.out); have n3 := Aside0.mk ((hg.block w.heap.size (blk_lt BX2.out) (fun e => HN2.out e.symm)).trans BX2.out); clear ho hb hg hat)
      go_roundg k3
      case measure => omega
      case rel => exact ⟨pos + 1, HLT.out, ⟨by have := HK.out; omega⟩, n2, ⟨by rw [FT.out]; exact n1.out⟩, n3, n0⟩
    · obtain rfl : pos = s.size := by omega
      have hnx := fun ty => next_over wr it s s.size ty IT.out hp
      have HT : Aside0 (s.data.toList.take s.size = s.data.toList) := ⟨by rw [← slen, List.take_length]⟩
      go_wp2
      go_ret
      exact ⟨_, rfl, by rw [show writtenL (symsOf a0 a1 a2 a3 a4 a5 a6 a7 a8 a9) s.data.toList = writtenL (symsOf a0 a1 a2 a3 a4 a5 a6 a7 a8 a9) (s.data.toList.take s.size) from by rw [HT.out]]; exact Kd.R_mono HR.out (fun _ _ => trivial), HB.out⟩
def digits_written.f (a0 : ByteArray) (a1_0 : ByteArray) (a1_1 : ByteArray) (a1_2 : ByteArray) (a1_3 : ByteArray) (a1_4 : ByteArray) (a1_5 : ByteArray) (a1_6 : ByteArray) (a1_7 : ByteArray) (a1_8 : ByteArray) (a1_9 : ByteArray) (a1_10 : ByteArray) (a1_11 : ByteArray) (a1_12 : ByteArray) (a1_13 : ByteArray) (a1_14 : ByteArray) (a1_15 : ByteArray) (a1_16 : ByteArray) (a1_17 : ByteArray) (a1_18 : ByteArray) (a1_19 : ByteArray) (a1_20 : ByteArray) : Option (List ByteArray) := if digB a0.data.toList = true then (if a0.size ≤ 1000000 then some (writtenL (symsOf a1_0 a1_1 a1_2 a1_3 a1_4 a1_5 a1_6 a1_7 a1_8 a1_9) a0.data.toList) else none) else none
theorem digits_written.calls (a0 : ByteArray) (a1_0 : ByteArray) (a1_1 : ByteArray) (a1_2 : ByteArray) (a1_3 : ByteArray) (a1_4 : ByteArray) (a1_5 : ByteArray) (a1_6 : ByteArray) (a1_7 : ByteArray) (a1_8 : ByteArray) (a1_9 : ByteArray) (a1_10 : ByteArray) (a1_11 : ByteArray) (a1_12 : ByteArray) (a1_13 : ByteArray) (a1_14 : ByteArray) (a1_15 : ByteArray) (a1_16 : ByteArray) (a1_17 : ByteArray) (a1_18 : ByteArray) (a1_19 : ByteArray) (a1_20 : ByteArray) (r : List ByteArray) (w : World) (h : digits_written.f a0 a1_0 a1_1 a1_2 a1_3 a1_4 a1_5 a1_6 a1_7 a1_8 a1_9 a1_10 a1_11 a1_12 a1_13 a1_14 a1_15 a1_16 a1_17 a1_18 a1_19 a1_20 = some r) :
    Calls Tryd.prog 26 #[.string a0, .agg #[.string a1_0, .string a1_1, .string a1_2, .string a1_3, .string a1_4, .string a1_5, .string a1_6, .string a1_7, .string a1_8, .string a1_9, .string a1_10, .string a1_11, .string a1_12, .string a1_13, .string a1_14, .string a1_15, .string a1_16, .string a1_17, .string a1_18, .string a1_19, .string a1_20]] w fun e w' => ∃ v0_ : Value, e = .returned (v0_) ∧ Kd.R Kd.string 9 w' w.heap.size (fun _ => True) v0_ r ∧ Below w.heap.size w w' := by
  unfold digits_written.f at h
  by_cases c1 : digB a0.data.toList = true
  · rw [if_pos c1] at h
    by_cases c2 : a0.size ≤ 1000000
    · rw [if_pos c2] at h
      obtain rfl := Option.some.inj h
      exact written_calls a0 a1_0 a1_1 a1_2 a1_3 a1_4 a1_5 a1_6 a1_7 a1_8 a1_9 a1_10 a1_11 a1_12 a1_13 a1_14 a1_15 a1_16 a1_17 a1_18 a1_19 a1_20 w c1 c2
    · rw [if_neg c2] at h; cases h
  · rw [if_neg c1] at h; cases h
end Go.Proofs.YtefejkhcbelahaaDoor.Q

namespace Go.Proofs.YtefejkhcbelahaaDoor.Q
open Go.RowKit Go.Proofs.YtefejkhcbelahaaDoorW.PrintWords Go.Proofs.YtefejkhcbelahaaDoorW.PrintLast Go.Proofs.YtefejkhcbelahaaDoorW.PrintMore
set_option linter.unusedVariables false
set_option linter.unusedSimpArgs false
def numsW (D : List ByteArray) (l : List UInt8) : List Int := l.flatMap fun b => bytesOf (sym D b)
theorem nums_le (D : List ByteArray) (l : List UInt8) (k : Nat) : (numsW D (l.take k)).length ≤ (numsW D l).length := by
  conv => rhs; rw [← List.take_append_drop k l]
  unfold numsW
  rw [List.flatMap_append, List.length_append]
  omega
set_option maxHeartbeats 4000000 in
set_option maxRecDepth 100000 in
theorem write_calls (s : ByteArray) (a0 a1 a2 a3 a4 a5 a6 a7 a8 a9 a10 a11 a12 a13 a14 a15 a16 a17 a18 a19 a20 : ByteArray) (w : World) (hd : digB s.data.toList = true) (hs : s.size ≤ 1000000) (hl : (numsW (symsOf a0 a1 a2 a3 a4 a5 a6 a7 a8 a9) s.data.toList).length < 140737488355328) :
    Calls Tryd.prog 17 #[.string s, .agg #[.string a0, .string a1, .string a2, .string a3, .string a4, .string a5, .string a6, .string a7, .string a8, .string a9, .string a10, .string a11, .string a12, .string a13, .string a14, .string a15, .string a16, .string a17, .string a18, .string a19, .string a20]] w fun e w' => e = .returned (.string (strOfNums (numsW (symsOf a0 a1 a2 a3 a4 a5 a6 a7 a8 a9) s.data.toList))) ∧ Below w.heap.size w w' := by
  have HD := Aside0.mk hd
  have HL := Aside0.mk hl
  clear hd hl
  go_enter Tryd.func17, Tryd.ntmps17
  go_wp2_with ((with_reducible refine gate_dst (N := 7) rfl ?_); refine Kd.R_lit (Kd.int .u8) _ 5 ?hg (N := 7) ?hd (xs := ([] : List Int)) (inner := []) (ok := fun _ => True) (okp := fun _ => True) ?hr ?hp (fun _ hk => hk) trivial (Below.refl _ _) (Nat.le_refl _) (by simp) ?_; (case hd => rfl); (case hg => rfl); (case hr => first | (go_simp; done) | (go_simp; rfl)); (case hp => exact (Reps.none _ _)); intro v1 w1 ho hb hg_ hnew_; have HR0 := Aside0.mk (Kd.R_lower ho (below_size (below_alloc (Below.refl w.heap.size w) _))); have HB0 := Aside0.mk (below_step (below_alloc (Below.refl w.heap.size w) _) hb); have BX0 := Aside0.mk (blk_below (blk_new w (.cells #[.string a0, .string a1, .string a2, .string a3, .string a4, .string a5, .string a6, .string a7, .string a8, .string a9, .string a10, .string a11, .string a12, .string a13, .string a14, .string a15, .string a16, .string a17, .string a18, .string a19, .string a20] 26)) hb); clear ho hb hg_ hnew_)
  go_loopg [5, 6] s.size (fun kq v5 v6 wr => ∃ pos : Nat, v6 = .int .i64 (pos : Int) ∧ pos ≤ s.size ∧ Aside0 (s.size - pos ≤ kq) ∧ Aside0 (Kd.R (Kd.int .u8) 5 wr w.heap.size (fun _ => True) v5 (numsW (symsOf a0 a1 a2 a3 a4 a5 a6 a7 a8 a9) (s.data.toList.take pos))) ∧ Aside0 (wr.heap[w.heap.size]? = some (.cells #[.string a0, .string a1, .string a2, .string a3, .string a4, .string a5, .string a6, .string a7, .string a8, .string a9, .string a10, .string a11, .string a12, .string a13, .string a14, .string a15, .string a16, .string a17, .string a18, .string a19, .string a20] 26 (0, 0))) ∧ Aside0 (Below w.heap.size w wr))
  case atStart => exact ⟨0, rfl, Nat.zero_le _, ⟨by omega⟩, HR0, BX0, HB0⟩
  case round =>
    clear HR0 BX0 HB0
    obtain ⟨pos, rfl, hle, HK, HR, BX, HB⟩ := hrel
    obtain ⟨A5, c5, eA⟩ := Kd.R_slice HR.out
    subst eA
    by_cases hp : pos < s.size
    · obtain ⟨k3, rfl⟩ : ∃ k3, gk = k3 + 1 := ⟨gk - 1, by have := HK.out; omega⟩
      have hok : okd s[pos] := by
        have h := HD.out
        unfold digB at h
        rw [List.all_eq_true] at h
        have h2 := h s[pos] (by rw [List.mem_iff_getElem?]; exact ⟨pos, sdata s pos hp⟩)
        rw [Bool.and_eq_true] at h2
        exact ⟨of_decide_eq_true h2.1, of_decide_eq_true h2.2⟩
      obtain ⟨b, hbb⟩ : ∃ b, s[pos] = b := ⟨_, rfl⟩
      have hbt : bt s (pos : Int) = (b.toNat : Int) := by rw [← hbb]; exact (bt_at s (pos : Int) (by simpa using hp)).symm
      rw [hbb] at hok
      have FT : Aside0 (numsW (symsOf a0 a1 a2 a3 a4 a5 a6 a7 a8 a9) (s.data.toList.take (pos + 1)) = numsW (symsOf a0 a1 a2 a3 a4 a5 a6 a7 a8 a9) (s.data.toList.take pos) ++ bytesOf (sym (symsOf a0 a1 a2 a3 a4 a5 a6 a7 a8 a9) b)) := ⟨by
        unfold numsW
        rw [List.take_succ_eq_append_getElem (by rw [slen]; exact hp), List.flatMap_append]
        have e : s.data.toList[pos]'(by rw [slen]; exact hp) = b := by rw [← hbb]; exact Option.some.inj ((List.getElem?_eq_getElem (by rw [slen]; exact hp)).symm.trans (sdata s pos hp))
        rw [e]; simp⟩
      have HT : Aside0 ((numsW (symsOf a0 a1 a2 a3 a4 a5 a6 a7 a8 a9) (s.data.toList.take pos)).length + (sym (symsOf a0 a1 a2 a3 a4 a5 a6 a7 a8 a9) b).size < 140737488355328) := ⟨by
        have h := nums_le (symsOf a0 a1 a2 a3 a4 a5 a6 a7 a8 a9) s.data.toList (pos + 1)
        rw [FT.out, List.length_append, bytesOf_length] at h
        have := HL.out
        omega⟩
      have HN : Aside0 ((Value.slice A5 (numsW (symsOf a0 a1 a2 a3 a4 a5 a6 a7 a8 a9) (s.data.toList.take pos)).length c5).ownBlock ≠ some w.heap.size) := ⟨fun e => by
        obtain ⟨_, inner, ⟨_, ho⟩, _⟩ := HR.out
        rcases ho with ⟨h, _⟩ | ⟨g, cap, cur, h, _, h2, _⟩
        · rw [h] at e; cases e
        · rw [h] at e
          have e2 : g = w.heap.size := by simpa [Value.ownBlock] using e
          subst e2
          rw [BX.out] at h2
          injection h2 with h2
          injection h2 with _ h3 _
          cases h3⟩
      obtain ⟨d, hdd⟩ : ∃ d, b.toNat - 48 = d := ⟨_, rfl⟩
      have hd10 : d < 10 := by have := hok.2; have := hok.1; omega
      have hxd := dig_cell BX.out hd10
      have es : sym (symsOf a0 a1 a2 a3 a4 a5 a6 a7 a8 a9) b = (symsOf a0 a1 a2 a3 a4 a5 a6 a7 a8 a9).getD d ⟨#[]⟩ := by unfold sym; rw [hdd]
      rw [← es] at hxd
      have hq : ((s[pos].toNat : Int) - 48) % 256 = (d : Int) := by have h1 := hok.1; have h2 := hok.2; rw [hbb]; omega
      rw [← hbb] at hxd
      have HBB := Aside0.mk hbb
      rw [← hbb] at FT HT
      have hw : IntKind.u8.wrap ((b.toNat : Int) - 48) = (d : Int) := by
        have h1 := hok.1
        have h2 := hok.2
        have e : IntKind.u8.wrap ((b.toNat : Int) - 48) = ((b.toNat : Int) - 48) % 256 := by first | rfl | (simp [IntKind.wrap, IntKind.bits]; done) | (simp [IntKind.wrap]; done)
        rw [e]
        omega
      have hwp : IntKind.i64.wrap ((pos : Int) + 1) = ((pos + 1 : Nat) : Int) := by rw [i64_w]; unfold wrap64; omega
      have r0 := eq_true (show (0 : Int) ≤ (d : Int) from by omega)
      have r1 := eq_true (show (d : Int) < 10 from by omega)
      have r2 := eq_true hd10
      have r3 := eq_true (show (0 : Int) ≤ (pos : Int) from by omega)
      have r4 := eq_true (show (pos : Int) < (s.size : Int) from by omega)
      have HLT := Aside0.mk hp
      clear hok es hdd hbb hw hbt
      go_wp2_with (at_builtin; refine print_append_str (w0 := w) w.heap.size rfl (.tmp 14) _ 59 9 5 rfl Tryd.underlying59 Tryd.underlying9 info5 _ (numsW (symsOf a0 a1 a2 a3 a4 a5 a6 a7 a8 a9) (s.data.toList.take pos)) (sym (symsOf a0 a1 a2 a3 a4 a5 a6 a7 a8 a9) s[pos]) rfl rfl ?aO ?aB ?aS ?aL ?_; (case aB => exact HB.out); (case aO => exact (Kd.own_of_R HR.out)); (case aS => exact (below_size HB.out)); (case aL => have := HT.out; omega); intro v391 w9 ho0 hb hg; have ho := Kd.R_of_own (h1 := fun _ => rfl) (ok := fun _ => True) ho0 (fun _ _ => trivial); clear ho0; change Kd.R (Kd.int .u8) 5 w9 w.heap.size (fun _ => True) v391 _ at ho; have n0 := Aside0.mk hb; have n1 := Aside0.mk ho; have n2 := Aside0.mk ((hg.block w.heap.size (blk_lt BX.out) (fun e => HN.out e.symm)).trans BX.out); clear ho hb hg)
      go_roundg k3
      case measure => omega
      case rel => exact ⟨pos + 1, by go_num, HLT.out, ⟨by have := HK.out; omega⟩, ⟨by rw [FT.out]; exact n1.out⟩, n2, n0⟩
    · obtain rfl : pos = s.size := by omega
      have HT : Aside0 (s.data.toList.take s.size = s.data.toList) := ⟨by rw [← slen, List.take_length]⟩
      have hcv10 := own_string (P := Tryd.prog) Tryd.underlying59 Tryd.underlying5 Tryd.underlying9 (Kd.own_of_R HR.out)
      go_wp2
      go_ret
      exact ⟨by rw [show numsW (symsOf a0 a1 a2 a3 a4 a5 a6 a7 a8 a9) s.data.toList = numsW (symsOf a0 a1 a2 a3 a4 a5 a6 a7 a8 a9) (s.data.toList.take s.size) from by rw [HT.out]]; rfl, HB.out⟩
theorem bytes_back (l : List UInt8) : (l.map fun b => (b.toNat : Int)).map (fun n => UInt8.ofNat n.toNat) = l := by
  rw [List.map_map]
  conv => rhs; rw [← List.map_id l]
  refine List.map_congr_left (fun b _ => ?_)
  simp
theorem str_nums (D : List ByteArray) (l : List UInt8) : strOfNums (numsW D l) = mkS ((writtenL D l).flatMap (·.data.toList)) := by
  unfold strOfNums mkS numsW writtenL bytesOf
  rw [List.map_flatMap, List.flatMap_map]
  simp only [bytes_back]
theorem nums_len (D : List ByteArray) (l : List UInt8) : (numsW D l).length = ((writtenL D l).flatMap (·.data.toList)).length := by
  unfold numsW writtenL bytesOf
  rw [List.flatMap_map, List.length_flatMap, List.length_flatMap]
  simp only [List.length_map]
def quipuref16_Write.f (a0 : ByteArray) (a1_0 : ByteArray) (a1_1 : ByteArray) (a1_2 : ByteArray) (a1_3 : ByteArray) (a1_4 : ByteArray) (a1_5 : ByteArray) (a1_6 : ByteArray) (a1_7 : ByteArray) (a1_8 : ByteArray) (a1_9 : ByteArray) (a1_10 : ByteArray) (a1_11 : ByteArray) (a1_12 : ByteArray) (a1_13 : ByteArray) (a1_14 : ByteArray) (a1_15 : ByteArray) (a1_16 : ByteArray) (a1_17 : ByteArray) (a1_18 : ByteArray) (a1_19 : ByteArray) (a1_20 : ByteArray) : Option ByteArray := if digB a0.data.toList = true then (if a0.size ≤ 1000000 then (if ((writtenL (symsOf a1_0 a1_1 a1_2 a1_3 a1_4 a1_5 a1_6 a1_7 a1_8 a1_9) a0.data.toList).flatMap (·.data.toList)).length < 140737488355328 then some (mkS ((writtenL (symsOf a1_0 a1_1 a1_2 a1_3 a1_4 a1_5 a1_6 a1_7 a1_8 a1_9) a0.data.toList).flatMap (·.data.toList))) else none) else none) else none
theorem quipuref16_Write.calls (a0 : ByteArray) (a1_0 : ByteArray) (a1_1 : ByteArray) (a1_2 : ByteArray) (a1_3 : ByteArray) (a1_4 : ByteArray) (a1_5 : ByteArray) (a1_6 : ByteArray) (a1_7 : ByteArray) (a1_8 : ByteArray) (a1_9 : ByteArray) (a1_10 : ByteArray) (a1_11 : ByteArray) (a1_12 : ByteArray) (a1_13 : ByteArray) (a1_14 : ByteArray) (a1_15 : ByteArray) (a1_16 : ByteArray) (a1_17 : ByteArray) (a1_18 : ByteArray) (a1_19 : ByteArray) (a1_20 : ByteArray) (r : ByteArray) (w : World) (h : quipuref16_Write.f a0 a1_0 a1_1 a1_2 a1_3 a1_4 a1_5 a1_6 a1_7 a1_8 a1_9 a1_10 a1_11 a1_12 a1_13 a1_14 a1_15 a1_16 a1_17 a1_18 a1_19 a1_20 = some r) :
    Calls Tryd.prog 17 #[.string a0, .agg #[.string a1_0, .string a1_1, .string a1_2, .string a1_3, .string a1_4, .string a1_5, .string a1_6, .string a1_7, .string a1_8, .string a1_9, .string a1_10, .string a1_11, .string a1_12, .string a1_13, .string a1_14, .string a1_15, .string a1_16, .string a1_17, .string a1_18, .string a1_19, .string a1_20]] w fun e w' => e = .returned (.string r) ∧ Below w.heap.size w w' := by
  unfold quipuref16_Write.f at h
  by_cases c1 : digB a0.data.toList = true
  · rw [if_pos c1] at h
    by_cases c2 : a0.size ≤ 1000000
    · rw [if_pos c2] at h
      by_cases c3 : ((writtenL (symsOf a1_0 a1_1 a1_2 a1_3 a1_4 a1_5 a1_6 a1_7 a1_8 a1_9) a0.data.toList).flatMap (·.data.toList)).length < 140737488355328
      · rw [if_pos c3] at h
        obtain rfl := Option.some.inj h
        rw [← str_nums]
        exact write_calls a0 a1_0 a1_1 a1_2 a1_3 a1_4 a1_5 a1_6 a1_7 a1_8 a1_9 a1_10 a1_11 a1_12 a1_13 a1_14 a1_15 a1_16 a1_17 a1_18 a1_19 a1_20 w c1 c2 (by rw [nums_len]; exact c3)
      · rw [if_neg c3] at h; cases h
    · rw [if_neg c2] at h; cases h
  · rw [if_neg c1] at h; cases h
end Go.Proofs.YtefejkhcbelahaaDoor.Q
