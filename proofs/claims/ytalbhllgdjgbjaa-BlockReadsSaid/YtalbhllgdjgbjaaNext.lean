import Derived.Test.YtalbhllgdjgbjaaReadv
namespace Go.Proofs.Ytalbhllgdjgbjaa.Q
open Go.RowKit Go.Proofs.YtalbhllgdjgbjaaW.PrintWords Go.Proofs.YtalbhllgdjgbjaaW.PrintLast Go.Proofs.YtalbhllgdjgbjaaW.PrintMore
set_option linter.unusedVariables false
set_option linter.unusedSimpArgs false


/-- What holds of blocks below Bh but g, and of the streams. -/
structure OnlyT (g Bh : Nat) (w w' : World) : Prop where
  os : w'.os = w.os
  tape : w'.tape = w.tape
  output : w'.output = w.output
  size : w.heap.size ≤ w'.heap.size
  block : ∀ k, k < Bh → k ≠ g → w'.heap[k]? = w.heap[k]?
theorem OnlyT.refl (g Bh : Nat) (w : World) : OnlyT g Bh w w := ⟨rfl, rfl, rfl, Nat.le_refl _, fun _ _ _ => rfl⟩
theorem OnlyT.trans {g Bh : Nat} {a b c : World} (h : OnlyT g Bh a b) (k : OnlyT g Bh b c) : OnlyT g Bh a c :=
  ⟨k.os.trans h.os, k.tape.trans h.tape, k.output.trans h.output, Nat.le_trans h.size k.size, fun i hi hn => (k.block i hi hn).trans (h.block i hi hn)⟩
theorem OnlyT.of_only {g Bh : Nat} {w w' : World} (h : Only g (g + 1) w w') (hB : Bh ≤ w.heap.size) : OnlyT g Bh w w' :=
  ⟨h.os, h.tape, h.output, h.size, fun k hk hn => h.block k (by omega) (by omega)⟩
theorem OnlyT.of_below {g Bh : Nat} {w w' : World} (h : Below Bh w w') : OnlyT g Bh w w' := ⟨h.os, h.tape, h.output, h.size, fun k hk _ => h.block k hk⟩
theorem OnlyT.only {g : Nat} {w w' : World} (h : OnlyT g w.heap.size w w') : Only g (g + 1) w w' :=
  ⟨h.os, h.tape, h.output, h.size, fun k hk hn => h.block k hk (by omega)⟩

/-- A disk whose blocks lie between B and E. -/
def DiskE (T B E : Nat) (W : World) (g : Nat) (img : ByteArray) (fs : List S40) (n : Int) : Prop :=
  ∃ v, W.heap[g]? = some (.cells #[.string img, v, .int .i64 n] T (0, 0)) ∧ B ≤ g ∧ g < E ∧ Kd.R k40 40 W B (fun k => k ≠ g ∧ k < E) v fs
theorem Disk.toE {T B g : Nat} {w : World} {img : ByteArray} {fs : List S40} {n : Int} (h : Disk T B w g img fs n) : DiskE T B w.heap.size w g img fs n := by
  obtain ⟨v, hb, hB, hR⟩ := h
  exact ⟨v, hb, hB, blk_lt hb, Kd.R_mono (Kd.R_bound hR) (fun k hk => ⟨hk.1, hk.2.2.1⟩)⟩
theorem DiskE.toD {T B E g : Nat} {w : World} {img : ByteArray} {fs : List S40} {n : Int} (h : DiskE T B E w g img fs n) : Disk T B w g img fs n := by
  obtain ⟨v, hb, hB, hE, hR⟩ := h
  exact ⟨v, hb, hB, Kd.R_mono hR (fun k hk => hk.1)⟩
theorem DiskE.lt {T B E g : Nat} {w : World} {img : ByteArray} {fs : List S40} {n : Int} (h : DiskE T B E w g img fs n) : B ≤ g ∧ g < E := by
  obtain ⟨v, hb, hB, hE, hR⟩ := h
  exact ⟨hB, hE⟩
/-- It is as it was where what lies below E is. -/
theorem DiskE.keep {T B E g : Nat} {w w' : World} {img : ByteArray} {fs : List S40} {n : Int} (h : DiskE T B E w g img fs n) (hk : ∀ k, B ≤ k → k < E → w'.heap[k]? = w.heap[k]?) : DiskE T B E w' g img fs n := by
  obtain ⟨v, hb, hB, hE, hR⟩ := h
  exact ⟨v, (hk g hB hE).trans hb, hB, hE, Kd.R_mono (Kd.R_move (Kd.R_bound hR) (fun k hk2 => hk k hk2.2.1 hk2.1.2)) (fun k hk => hk.1)⟩
theorem DiskE.below {T B E N g : Nat} {w w' : World} {img : ByteArray} {fs : List S40} {n : Int} (h : DiskE T B E w g img fs n) (hb : Below N w w') (hN : E ≤ N) : DiskE T B E w' g img fs n :=
  h.keep (fun k _ hk => hb.block k (by omega))

theorem readE (B E g : Nat) (img : ByteArray) (fs : List S40) (n at_ k : Int) (w : World) (hD : DiskE 59 B E w g img fs n) (hE : E ≤ w.heap.size) (hok : okFs fs) (hm : fs.length ≤ 1000) (hi : img.size ≤ 65552)
    (hn0 : 0 ≤ n) (hn : n < 4611686018427387904) (hk : -9223372036854775808 ≤ k) :
    Calls Try.prog 18 #[.pointer (some ⟨g, 0, none⟩), .int .i64 at_, .int .i64 k] w fun e w' =>
      e = .returned (.tuple #[.string (readP img fs n at_ k).1, .int .i64 (readP img fs n at_ k).2]) ∧ DiskE 59 B E w' g img fs (readN img n at_ k) ∧ Only g (g + 1) w w' := by
  obtain ⟨v, hb, hB, hEg, hR⟩ := hD
  refine (read_v B g img fs n at_ k w v hb (Kd.R_mono hR (fun k hk => hk.1)) hok hm hi hn0 hn hk).mono ?_
  rintro e w' ⟨rfl, hb', ho⟩
  exact ⟨rfl, ⟨v, hb', hB, hEg, Kd.R_step hR (fun k hk hlt => ho.block k hlt (by omega))⟩, ho⟩
theorem rreadE (B E g : Nat) (img : ByteArray) (fs : List S40) (n at_ k : Int) (w : World) (hD : DiskE 46 B E w g img fs n) (hE : E ≤ w.heap.size) (hok : okFs fs) (hm : fs.length ≤ 1000) (hi : img.size ≤ 65552)
    (hn0 : 0 ≤ n) (hn : n < 4611686018427387904) (hk : -9223372036854775808 ≤ k) :
    Calls Try.prog 19 #[.pointer (some ⟨g, 0, none⟩), .int .i64 at_, .int .i64 k] w fun e w' =>
      e = .returned (.tuple #[.string (readP img fs n at_ k).1, .int .i64 (readP img fs n at_ k).2]) ∧ DiskE 46 B E w' g img fs (readN img n at_ k) ∧ Only g (g + 1) w w' := by
  obtain ⟨v, hb, hB, hEg, hR⟩ := hD
  refine (rread_v B g img fs n at_ k w v hb (Kd.R_mono hR (fun k hk => hk.1)) hok hm hi hn0 hn hk).mono ?_
  rintro e w' ⟨rfl, hb', ho⟩
  exact ⟨rfl, ⟨v, hb', hB, hEg, Kd.R_step hR (fun k hk hlt => ho.block k hlt (by omega))⟩, ho⟩

/-- The next block, behind what there is: what there is then, the error, how many reads. -/
def nextK (img have_ : ByteArray) : Int := min 64 ((img.size : Int) - (have_.size : Int))
def nextP (img : ByteArray) (fs : List S40) (n : Int) (have_ : ByteArray) : ByteArray × Int :=
  let r := readP img fs n (have_.size : Int) (nextK img have_)
  if r.2 ≠ 0 then (⟨#[]⟩, r.2) else if (r.1.size : Int) < nextK img have_ then (⟨#[]⟩, 101) else (have_ ++ r.1, 0)
def nextN (img : ByteArray) (n : Int) (have_ : ByteArray) : Int := readN img n (have_.size : Int) (nextK img have_)
def NextPost (B E Bh g : Nat) (w : World) (img : ByteArray) (fs : List S40) (n : Int) (hs : ByteArray) (e : Ending) (w' : World) : Prop :=
  (∃ v, e = .returned (.tuple #[v, .int .i64 (nextP img fs n hs).2]) ∧ ((nextP img fs n hs).2 = 0 → w'.ownsRow Bh 5 1 v (bytesOf (nextP img fs n hs).1).length (nums .u8 (bytesOf (nextP img fs n hs).1)))) ∧
    DiskE 59 B E w' g img fs (nextN img n hs) ∧ OnlyT g Bh w w'

theorem nextP_err {img : ByteArray} {fs : List S40} {n : Int} {hs s1 : ByteArray} {e1 : Int} (h : readP img fs n (hs.size : Int) (nextK img hs) = (s1, e1)) (he : e1 ≠ 0) : nextP img fs n hs = (⟨#[]⟩, e1) := by
  unfold nextP; rw [h]; simp only; rw [if_pos he]
theorem nextP_short {img : ByteArray} {fs : List S40} {n : Int} {hs s1 : ByteArray} (h : readP img fs n (hs.size : Int) (nextK img hs) = (s1, 0)) (he : (s1.size : Int) < nextK img hs) : nextP img fs n hs = (⟨#[]⟩, 101) := by
  unfold nextP; rw [h]; simp only; rw [if_neg (by decide), if_pos he]
theorem nextP_ok {img : ByteArray} {fs : List S40} {n : Int} {hs s1 : ByteArray} (h : readP img fs n (hs.size : Int) (nextK img hs) = (s1, 0)) (he : nextK img hs ≤ (s1.size : Int)) : nextP img fs n hs = (hs ++ s1, 0) := by
  unfold nextP; rw [h]; simp only; rw [if_neg (by decide), if_neg (by omega)]
theorem strCells_nums (s : ByteArray) : nums .u8 (bytesOf s) = Lib.strCells s := by simp [nums, bytesOf, Lib.strCells]
theorem ret_n {v : Value} {e1 e2 : Int} (h : e2 = e1) : Ending.returned (.tuple #[v, .int .i64 e1]) = Ending.returned (.tuple #[v, .int .i64 e2]) := by rw [h]
theorem bytesOf_append (a b : ByteArray) : bytesOf (a ++ b) = bytesOf a ++ bytesOf b := by
  simp [bytesOf, ByteArray.data_append]
theorem flipB_size (s : ByteArray) (p k : Int) : (flipB s p k).size = s.size := by
  unfold flipB; rw [strOfNums_size, flipL_length]
theorem readF_size (s : ByteArray) (f : S40) : (readF s f).1.size ≤ s.size := by
  unfold readF
  split
  · exact Nat.le_refl _
  · split
    · exact Nat.zero_le _
    · split
      · show (s.extract 0 _).size ≤ _
        rw [ByteArray.size_extract]; omega
      · show (flipB _ _ _).size ≤ _
        rw [flipB_size]; exact Nat.le_refl _
theorem readP_size (img : ByteArray) (fs : List S40) (n a k : Int) : (readP img fs n a k).1.size ≤ 64 := by
  unfold readP
  split
  · rename_i h
    obtain ⟨h1, h2, h3, h4⟩ := inR_yes h
    have hs : (img.extract a.toNat (a + k).toNat).size ≤ 64 := by rw [ByteArray.size_extract]; omega
    cases atF fs n with
    | none => exact hs
    | some f => exact Nat.le_trans (readF_size _ f) hs
  · exact Nat.zero_le _

set_option maxHeartbeats 2000000 in
set_option maxRecDepth 100000 in
theorem next_calls (B E Bh g : Nat) (img : ByteArray) (fs : List S40) (n : Int) (w : World) (A : Option Addr) (c : Nat) (hs : ByteArray)
    (hD : DiskE 59 B E w g img fs n) (hE : E ≤ Bh) (hBh : Bh ≤ w.heap.size) (hok : okFs fs) (hm : fs.length ≤ 1000) (hi : img.size ≤ 65552) (hn0 : 0 ≤ n) (hn : n < 4611686018427387904)
    (ho : w.ownsRow Bh 5 1 (.slice A hs.size c) hs.size (nums .u8 (bytesOf hs))) (hh : hs.size ≤ 70000) :
    Calls Try.prog 33 #[.pointer (some ⟨g, 0, none⟩), .slice A hs.size c] w (NextPost B E Bh g w img fs n hs) := by
  obtain ⟨v, hb, hB, hEg, hR⟩ := id hD
  have HG := Aside0.mk hEg
  have hz0 : w.cell? ⟨g, 0, none⟩ = some (.string img) := (blk_cell hb 0).trans rfl
  clear hb hB hEg hR
  have HD := Aside0.mk hD
  have HO := Aside0.mk ho
  have HE := Aside0.mk hE
  have HBh := Aside0.mk hBh
  have HOK := Aside0.mk hok
  clear hD ho hE hBh hok
  obtain ⟨i0, hi0, hz0', hz1', hz2'⟩ := info_parts (show (Try.prog.info? 5).map (fun i => (i.zero, i.size, i.bytes)) = some (some (.int .u8 0), 1, 1) by kernel_rfl)
  by_cases hmin : 64 ≤ (img.size : Int) - (hs.size : Int)
  · have HK : Aside0 (nextK img hs = 64) := ⟨by unfold nextK; omega⟩
    go_enter Try.func33, Try.ntmps33
    go_wp2_with fail
    refine (readE B E g img fs n (hs.size : Int) (64) w HD.out (Nat.le_trans HE.out HBh.out) HOK.out hm hi hn0 hn (by omega)).mono ?_
    rintro e w1 ⟨rfl, hd1, ho1⟩
    obtain ⟨s1, e1, hP⟩ : ∃ s1 e1, readP img fs n (hs.size : Int) (64) = (s1, e1) := ⟨_, _, rfl⟩
    rw [hP]
    dsimp only
    have HP : Aside0 (readP img fs n (hs.size : Int) (nextK img hs) = (s1, e1)) := ⟨by rw [HK.out]; exact hP⟩
    have HD1 : Aside0 (DiskE 59 B E w1 g img fs (nextN img n hs)) := ⟨by unfold nextN; rw [HK.out]; exact hd1⟩
    have HO1 := Aside0.mk (OnlyT.of_only ho1 HBh.out)
    have HW1 : Aside0 (w1.ownsRow Bh 5 1 (.slice A hs.size c) hs.size (nums .u8 (bytesOf hs))) := ⟨HO.out.kept ⟨ho1.os, ho1.tape, ho1.output, ho1.size, fun k hk hne => ho1.block k hk (fun hh => hne (by rw [show k = g from by omega]))⟩ (by
      right
      intro hq
      have := own_base HO.out g hq
      have := HG.out
      have := HE.out
      omega)⟩
    have HS1 : Aside0 (s1.size ≤ 64) := ⟨by have := readP_size img fs n (hs.size : Int) (64); rw [hP] at this; exact this⟩
    have HB1 := Aside0.mk (Nat.le_trans HBh.out ho1.size)
    have HLM : Aside0 (hs.size + s1.size ≤ maxLen) := ⟨by have := HS1.out; simp only [maxLen]; omega⟩
    have HL2 : Aside0 (hs.size + s1.size ≤ 140737488355328) := ⟨by have := HS1.out; omega⟩
    clear hP hd1 ho1
    by_cases he : e1 = 0
    · subst he
      by_cases hsh : (s1.size : Int) < 64
      · have d1 : decide ((s1.size : Int) < 64) = true := decide_eq_true hsh
        have HSH : Aside0 ((s1.size : Int) < nextK img hs) := ⟨by rw [HK.out]; exact hsh⟩
        clear hsh
        go_wp2
        go_ret2
        exact ⟨⟨_, ret_n (by rw [nextP_short HP.out HSH.out]), fun h => by rw [nextP_short HP.out HSH.out] at h; exact absurd h (by decide)⟩, HD1.out, HO1.out⟩
      · have d1 : decide ((s1.size : Int) < 64) = false := decide_eq_false hsh
        have HSH : Aside0 (nextK img hs ≤ (s1.size : Int)) := ⟨by rw [HK.out]; omega⟩
        clear hsh
        go_wp2_with (first | (at_builtin; refine Lib.wpList_append_own_string w1 rfl (.tmp 33) (.tmp 34) 52 9 rfl Bh 5 i0 Try.underlying52 Try.underlying9 hi0 hz0' hz1' hz2' (.slice A hs.size c) hs.size (nums .u8 (bytesOf hs)) rfl HW1.out s1 rfl ?l1 ?l2 HB1.out ?_; (case l1 => exact HLM.out); (case l2 => exact HL2.out); intro v2 w2 hw2 hg2 hn2))
        go_ret2
        refine ⟨⟨v2, ret_n (by rw [nextP_ok HP.out HSH.out]), fun _ => ?_⟩, ?_, ?_⟩
        · rw [nextP_ok HP.out HSH.out]
          show w2.ownsRow Bh 5 1 v2 (bytesOf (hs ++ s1)).length (nums .u8 (bytesOf (hs ++ s1)))
          rw [bytesOf_append, List.length_append, bytesOf_length, bytesOf_length, nums_append, strCells_nums s1]
          exact hw2
        · exact HD1.out.keep (fun k hk hke => hg2.block k (by have := HB1.out; have := HE.out; omega) (fun hq => by have := own_base HW1.out k hq.symm; have := HE.out; omega))
        · exact HO1.out.trans ⟨hg2.os, hg2.tape, hg2.output, hg2.size, fun k hk _ => hg2.block k (by have := HB1.out; omega) (fun hq => by have := own_base HW1.out k hq.symm; omega)⟩
    · have d1 : (e1 != 0) = true := by simpa using he
      have HEr := Aside0.mk he
      clear he
      go_wp2
      go_ret2
      exact ⟨⟨_, ret_n (by rw [nextP_err HP.out HEr.out]), fun h => by rw [nextP_err HP.out HEr.out] at h; exact absurd h HEr.out⟩, HD1.out, HO1.out⟩
  · have HK : Aside0 (nextK img hs = (img.size : Int) - (hs.size : Int)) := ⟨by unfold nextK; omega⟩
    have hmin2 : (img.size : Int) - (hs.size : Int) < 64 := by omega
    go_enter Try.func33, Try.ntmps33
    go_wp2_with fail
    refine (readE B E g img fs n (hs.size : Int) ((img.size : Int) - (hs.size : Int)) w HD.out (Nat.le_trans HE.out HBh.out) HOK.out hm hi hn0 hn (by omega)).mono ?_
    rintro e w1 ⟨rfl, hd1, ho1⟩
    obtain ⟨s1, e1, hP⟩ : ∃ s1 e1, readP img fs n (hs.size : Int) ((img.size : Int) - (hs.size : Int)) = (s1, e1) := ⟨_, _, rfl⟩
    rw [hP]
    dsimp only
    have HP : Aside0 (readP img fs n (hs.size : Int) (nextK img hs) = (s1, e1)) := ⟨by rw [HK.out]; exact hP⟩
    have HD1 : Aside0 (DiskE 59 B E w1 g img fs (nextN img n hs)) := ⟨by unfold nextN; rw [HK.out]; exact hd1⟩
    have HO1 := Aside0.mk (OnlyT.of_only ho1 HBh.out)
    have HW1 : Aside0 (w1.ownsRow Bh 5 1 (.slice A hs.size c) hs.size (nums .u8 (bytesOf hs))) := ⟨HO.out.kept ⟨ho1.os, ho1.tape, ho1.output, ho1.size, fun k hk hne => ho1.block k hk (fun hh => hne (by rw [show k = g from by omega]))⟩ (by
      right
      intro hq
      have := own_base HO.out g hq
      have := HG.out
      have := HE.out
      omega)⟩
    have HS1 : Aside0 (s1.size ≤ 64) := ⟨by have := readP_size img fs n (hs.size : Int) ((img.size : Int) - (hs.size : Int)); rw [hP] at this; exact this⟩
    have HB1 := Aside0.mk (Nat.le_trans HBh.out ho1.size)
    have HLM : Aside0 (hs.size + s1.size ≤ maxLen) := ⟨by have := HS1.out; simp only [maxLen]; omega⟩
    have HL2 : Aside0 (hs.size + s1.size ≤ 140737488355328) := ⟨by have := HS1.out; omega⟩
    clear hP hd1 ho1
    by_cases he : e1 = 0
    · subst he
      by_cases hsh : (s1.size : Int) < (img.size : Int) - (hs.size : Int)
      · have d1 : decide ((s1.size : Int) < (img.size : Int) - (hs.size : Int)) = true := decide_eq_true hsh
        have HSH : Aside0 ((s1.size : Int) < nextK img hs) := ⟨by rw [HK.out]; exact hsh⟩
        clear hsh
        go_wp2
        go_ret2
        exact ⟨⟨_, ret_n (by rw [nextP_short HP.out HSH.out]), fun h => by rw [nextP_short HP.out HSH.out] at h; exact absurd h (by decide)⟩, HD1.out, HO1.out⟩
      · have d1 : decide ((s1.size : Int) < (img.size : Int) - (hs.size : Int)) = false := decide_eq_false hsh
        have HSH : Aside0 (nextK img hs ≤ (s1.size : Int)) := ⟨by rw [HK.out]; omega⟩
        clear hsh
        go_wp2_with (first | (at_builtin; refine Lib.wpList_append_own_string w1 rfl (.tmp 33) (.tmp 34) 52 9 rfl Bh 5 i0 Try.underlying52 Try.underlying9 hi0 hz0' hz1' hz2' (.slice A hs.size c) hs.size (nums .u8 (bytesOf hs)) rfl HW1.out s1 rfl ?l1 ?l2 HB1.out ?_; (case l1 => exact HLM.out); (case l2 => exact HL2.out); intro v2 w2 hw2 hg2 hn2))
        go_ret2
        refine ⟨⟨v2, ret_n (by rw [nextP_ok HP.out HSH.out]), fun _ => ?_⟩, ?_, ?_⟩
        · rw [nextP_ok HP.out HSH.out]
          show w2.ownsRow Bh 5 1 v2 (bytesOf (hs ++ s1)).length (nums .u8 (bytesOf (hs ++ s1)))
          rw [bytesOf_append, List.length_append, bytesOf_length, bytesOf_length, nums_append, strCells_nums s1]
          exact hw2
        · exact HD1.out.keep (fun k hk hke => hg2.block k (by have := HB1.out; have := HE.out; omega) (fun hq => by have := own_base HW1.out k hq.symm; have := HE.out; omega))
        · exact HO1.out.trans ⟨hg2.os, hg2.tape, hg2.output, hg2.size, fun k hk _ => hg2.block k (by have := HB1.out; omega) (fun hq => by have := own_base HW1.out k hq.symm; omega)⟩
    · have d1 : (e1 != 0) = true := by simpa using he
      have HEr := Aside0.mk he
      clear he
      go_wp2
      go_ret2
      exact ⟨⟨_, ret_n (by rw [nextP_err HP.out HEr.out]), fun h => by rw [nextP_err HP.out HEr.out] at h; exact absurd h HEr.out⟩, HD1.out, HO1.out⟩
end Go.Proofs.Ytalbhllgdjgbjaa.Q
