import Derived.Test.YtalbhllgdjgbjaaLoad
import Derived.IntWalk
namespace Go.Proofs.Ytalbhllgdjgbjaa.Q
open Go.RowKit Go.Proofs.YtalbhllgdjgbjaaW.PrintWords Go.Proofs.YtalbhllgdjgbjaaW.PrintLast Go.Proofs.YtalbhllgdjgbjaaW.PrintMore
set_option linter.unusedVariables false
set_option linter.unusedSimpArgs false





theorem bt_ext (s : ByteArray) (a b : Nat) (i : Nat) (h : a + i < b) (hb : b ≤ s.size) : bt (s.extract a b) (i : Int) = bt s ((a + i : Nat) : Int) := by
  have h1 : i < (s.extract a b).size := by rw [ByteArray.size_extract]; omega
  rw [bt_nat _ i h1, bt_nat s (a + i) (by omega)]
  congr 2
  have := Lib.extract_data s a b
  simp only [this, List.getElem_take, List.getElem_drop]
theorem valueB_ext (s : ByteArray) (a b c : Nat) (h : a + 4 ≤ b) (hb : b ≤ s.size) (h2 : a + 4 ≤ c) (hc : c ≤ s.size) : valueB (s.extract a b) = valueB (s.extract a c) := by
  unfold valueB
  have e : ∀ i : Nat, i < 4 → bt (s.extract a b) (i : Int) = bt (s.extract a c) (i : Int) := fun i hi => by rw [bt_ext s a b i (by omega) hb, bt_ext s a c i (by omega) hc]
  have e0 := e 0 (by omega)
  have e1 := e 1 (by omega)
  have e2 := e 2 (by omega)
  have e3 := e 3 (by omega)
  have f0 : bt (s.extract a b) 0 = bt (s.extract a c) 0 := e0
  have f1 : bt (s.extract a b) 1 = bt (s.extract a c) 1 := e1
  have f2 : bt (s.extract a b) 2 = bt (s.extract a c) 2 := e2
  have f3 : bt (s.extract a b) 3 = bt (s.extract a c) 3 := e3
  rw [f0, f1, f2, f3]

/-- What the reference's loop knows. -/
def RInv (img : ByteArray) (fs : List S40) (n : Int) (hs : ByteArray) (want sm : Int) (b : Bool) (n' : Int) : Prop :=
  (b = true ∧ hs = ⟨#[]⟩ ∧ want = 16 ∧ sm = 0 ∧ n' = n) ∨
  (b = false ∧ ∃ (hs1 : ByteArray) (k N : Nat), nextP img fs n ⟨#[]⟩ = (hs1, 0) ∧ 16 ≤ hs1.size ∧ headOk (hs1.extract 0 16) ∧ N = bodyN (hs1.extract 0 16) ∧ want = 16 + (N : Int) ∧ N + 16 ≤ img.size ∧ N ≤ 65536 ∧ sm = (valueB (hs1.extract 8 16) : Int) ∧
    loadLoop img fs (16 + N) k n' hs = loadLoop img fs (16 + N) (16 + N + 1) (nextN img n ⟨#[]⟩) hs1 ∧ (16 + N < k + hs.size ∧ 0 < k) ∧ (16 ≤ hs.size ∧ hs.size ≤ 16 + N + 64) ∧ 0 ≤ n' ∧ n' ≤ n + 1 + (hs.size : Int))
theorem empty_app (s : ByteArray) : (⟨#[]⟩ : ByteArray) ++ s = s := by apply ByteArray.ext; simp
theorem wrap_crc (s : ByteArray) : wrap64 (crc s : Int) = (crc s : Int) := by have := crc_lt s; unfold wrap64; omega
theorem iwrap_crc (s : ByteArray) : IntKind.i64.wrap (crc s : Int) = (crc s : Int) := by have := crc_lt s; exact IntWalk.i64_in _ (by omega)
theorem wrap_16 (N : Nat) (h : N < 4294967296) : wrap64 (16 + (N : Int)) = 16 + (N : Int) := by unfold wrap64; omega
theorem iwrap_16 (N : Nat) (h : N < 4294967296) : IntKind.i64.wrap (16 + (N : Int)) = 16 + (N : Int) := IntWalk.i64_in _ (by omega)
def strV : Value → Nat
  | .string s => s.size
  | _ => 0
def boolV : Value → Nat
  | .bool true => 140000
  | _ => 0

set_option maxHeartbeats 4000000 in
set_option maxRecDepth 100000 in
theorem rload_calls (B E g : Nat) (img : ByteArray) (fs : List S40) (n : Int) (w : World) (hD : DiskE 46 B E w g img fs n) (hE : E ≤ w.heap.size) (hok : okFs fs) (hm : fs.length ≤ 1000) (hi : img.size ≤ 65552)
    (hn0 : 0 ≤ n) (hn : n < 2305843009213693952) :
    Calls Try.prog 23 #[.pointer (some ⟨g, 0, none⟩)] w fun e w' =>
      e = .returned (.tuple #[.string (loadP img fs n).1, .int .i64 (loadP img fs n).2.1]) ∧ DiskE 46 B E w' g img fs (loadP img fs n).2.2 ∧ Only g (g + 1) w w' := by
  obtain ⟨v, hb, hB, hEg, hR⟩ := id hD
  have hz0 : w.cell? ⟨g, 0, none⟩ = some (.string img) := (blk_cell hb 0).trans rfl
  clear hb hB hR
  have HG := Aside0.mk hEg
  have HD := Aside0.mk hD
  have HE := Aside0.mk hE
  have HOK := Aside0.mk hok
  clear hD hE hok hEg
  by_cases hsm : img.size < 16
  · have d0 : decide ((img.size : Int) < 16) = true := decide_eq_true (by omega)
    have d0' : decide (img.size < 16) = true := decide_eq_true hsm
    have HL : Aside0 (loadP img fs n = (⟨#[]⟩, 105, n)) := ⟨if_pos hsm⟩
    clear hsm
    go_enter Try.func23, Try.ntmps23
    go_wp2
    go_ret2
    rw [HL.out]
    exact ⟨rfl, HD.out, Only.refl _ _ _⟩
  have HSM := Aside0.mk hsm
  have d0 : decide ((img.size : Int) < 16) = false := decide_eq_false (by omega)
  have d0' : decide (img.size < 16) = false := decide_eq_false hsm
  clear hsm
  go_enter Try.func23, Try.ntmps23
  go_wp2
  go_loopw [4, 5, 6, 7] (fun v4 v5 v6 v7 wr => ∃ (hs : ByteArray) (want sm : Int) (b : Bool) (n' : Int), v4 = .string hs ∧ v5 = .int .i64 want ∧ v6 = .int .i64 sm ∧ v7 = .bool b ∧
    Aside0 (RInv img fs n hs want sm b n') ∧ Aside0 (DiskE 46 B E wr g img fs n') ∧ Aside0 (Only g (g + 1) w wr)) (fun v4 _ _ v7 _ => boolV v7 + (140000 - strV v4))
  case atStart => exact ⟨⟨#[]⟩, 16, 0, true, n, rfl, rfl, rfl, rfl, ⟨Or.inl ⟨rfl, rfl, rfl, rfl, rfl⟩⟩, ⟨HD.out⟩, ⟨Only.refl _ _ _⟩⟩
  case round =>
    clear hz0 d0 d0'
    obtain ⟨hs, want, sm, b, n', rfl, rfl, rfl, rfl, HI, HDr, HOr⟩ := hrel
    obtain ⟨v, hb, _, _, _⟩ := HDr.out
    have hz0 : wr.cell? ⟨g, 0, none⟩ = some (.string img) := (blk_cell hb 0).trans rfl
    clear hb
    have hbig := Aside0.mk (Nat.le_trans HE.out HOr.out.size)
    rcases HI.out with ⟨rfl, rfl, rfl, rfl, rfl⟩ | ⟨rfl, hs1, k, N, hP, h16, hH, hN, rfl, hNi, hN16, rfl, hLL, hk, hsz, hn1, hn2⟩
    · clear HI
      have hK : nextK img ⟨#[]⟩ = min 64 (img.size : Int) := rfl
      have him : 16 ≤ img.size := by have := HSM.out; omega
      by_cases hmin : 64 ≤ (img.size : Int)
      · have HK : Aside0 (nextK img ⟨#[]⟩ = 64) := ⟨by rw [hK]; omega⟩
        clear hK
        go_wp2_with fail
        refine (rreadE B E g img fs n' 0 (64) wr HDr.out hbig.out HOK.out hm hi hn0 (by omega) (by omega)).mono ?_
        rintro e w1 ⟨rfl, hd1, ho1⟩
        obtain ⟨s1, e1, hP⟩ : ∃ s1 e1, readP img fs n' 0 (64) = (s1, e1) := ⟨_, _, rfl⟩
        rw [hP]
        dsimp only
        have HP : Aside0 (readP img fs n' ((⟨#[]⟩ : ByteArray).size : Int) (nextK img ⟨#[]⟩) = (s1, e1)) := ⟨by rw [HK.out]; exact hP⟩
        have HD1 : Aside0 (DiskE 46 B E w1 g img fs (nextN img n' ⟨#[]⟩)) := ⟨by unfold nextN; rw [HK.out]; exact hd1⟩
        have HO1 := Aside0.mk (HOr.out.trans ho1)
        have hs64 : s1.size ≤ 64 := by have := readP_size img fs n' 0 (64); rw [hP] at this; exact this
        have hnl := nextN_le img n' ⟨#[]⟩
        obtain ⟨v, hb, _, _, _⟩ := hd1
        have hz0 : w1.cell? ⟨g, 0, none⟩ = some (.string img) := (blk_cell hb 0).trans rfl
        clear hP ho1 hb
        by_cases he : e1 = 0
        · subst he
          by_cases hsh : (s1.size : Int) < 64
          · have d1 : decide ((s1.size : Int) < 64) = true := decide_eq_true hsh
            have HL : Aside0 (loadP img fs n' = (⟨#[]⟩, 101, nextN img n' ⟨#[]⟩)) := ⟨by
              unfold loadP; rw [if_neg HSM.out, nextP_short HP.out (by rw [HK.out]; exact hsh), if_pos (by decide)]⟩
            clear hsh
            go_wp2
            go_ret2
            rw [HL.out]
            exact ⟨rfl, HD1.out, HO1.out⟩
          have d1 : decide ((s1.size : Int) < 64) = false := decide_eq_false hsh
          have hN1 : nextP img fs n' ⟨#[]⟩ = (s1, 0) := by
            rw [nextP_ok HP.out (by rw [HK.out]; omega), empty_app]
          have h16 : 16 ≤ s1.size := by have := HSM.out; omega
          have HNP := Aside0.mk hN1
          clear hsh hN1
          have kc : ∀ W, (Op.stringOp .add (⟨#[]⟩ : ByteArray) s1).run Try.prog W = .ok (.string s1) W := fun W => by
            rw [run_sadd W ⟨#[]⟩ s1 (by have : (⟨#[]⟩ : ByteArray).size = 0 := rfl; omega), empty_app]
          have z04 : (s1.extract 0 16).extract 0 4 = s1.extract 0 4 := by
            apply ByteArray.ext; apply Array.ext'
            rw [Lib.extract_data, Lib.extract_data, Lib.extract_data]; simp [List.take_take]
          have z1216 : (s1.extract 0 16).extract 12 16 = s1.extract 12 16 := by
            apply ByteArray.ext; apply Array.ext'
            rw [Lib.extract_data, Lib.extract_data, Lib.extract_data]; simp [List.take_take, List.drop_take]
          have z012 : (s1.extract 0 16).extract 0 12 = s1.extract 0 12 := by
            apply ByteArray.ext; apply Array.ext'
            rw [Lib.extract_data, Lib.extract_data, Lib.extract_data]; simp [List.take_take]
          have z416 : (s1.extract 0 16).extract 4 16 = s1.extract 4 16 := by
            apply ByteArray.ext; apply Array.ext'
            rw [Lib.extract_data, Lib.extract_data, Lib.extract_data]; simp [List.take_take, List.drop_take]
          have HHO : Aside0 (headOk (s1.extract 0 16) ↔ (s1.extract 0 4 = QPU ∧ valueB (s1.extract 12 16) = crc (s1.extract 0 12))) := ⟨by unfold headOk; rw [z04, z1216, z012]⟩
          have HBN : Aside0 (bodyN (s1.extract 0 16) = valueB (s1.extract 4 8)) := ⟨by unfold bodyN; rw [z416, valueB_ext s1 4 16 8 (by omega) h16 (by omega) (by omega)]⟩
          have HV8 : Aside0 (valueB (s1.extract 8 12) = valueB (s1.extract 8 16)) := ⟨valueB_ext s1 8 12 16 (by omega) (by omega) (by omega) h16⟩
          have Y4 : Aside0 ((s1.extract 12 16).size = 4 ∧ (s1.extract 0 12).size = 12 ∧ (s1.extract 4 8).size = 4 ∧ (s1.extract 8 12).size = 4) := ⟨by
            refine ⟨?_, ?_, ?_, ?_⟩ <;> rw [ByteArray.size_extract] <;> omega⟩
          have HLP : Aside0 (loadP img fs n' = (if ¬ headOk (s1.extract 0 16) then (⟨#[]⟩, 105, nextN img n' ⟨#[]⟩)
              else if 65536 < bodyN (s1.extract 0 16) ∨ img.size < bodyN (s1.extract 0 16) + 16 then (⟨#[]⟩, 106, nextN img n' ⟨#[]⟩)
              else
                let N := bodyN (s1.extract 0 16)
                let q := loadLoop img fs (16 + N) (16 + N + 1) (nextN img n' ⟨#[]⟩) s1
                if q.2.1 ≠ 0 then (⟨#[]⟩, q.2.1, q.2.2)
                else if crc (q.1.extract 16 (16 + N)) ≠ valueB (s1.extract 8 16) then (⟨#[]⟩, 104, q.2.2)
                else (q.1.extract 16 (16 + N), 0, q.2.2))) := ⟨by
              unfold loadP
              rw [if_neg HSM.out, HNP.out]
              dsimp only
              rw [if_neg (by decide)]⟩
          clear z04 z1216 z012 z416
          have wc := wrap_crc (s1.extract 0 12)
          have i4 : (4 : Int) ≤ (s1.size : Int) := by omega
          have i8 : (8 : Int) ≤ (s1.size : Int) := by omega
          have i12 : (12 : Int) ≤ (s1.size : Int) := by omega
          have i16 : (16 : Int) ≤ (s1.size : Int) := by omega
          have n4 : 4 ≤ s1.size := by omega
          have n8 : 8 ≤ s1.size := by omega
          have n12 : 12 ≤ s1.size := by omega
          have wc2 := iwrap_crc (s1.extract 0 12)
          by_cases hq : s1.extract 0 4 = QPU
          · have g1 : ((s1.extract 0 4).toList == [81, 80, 85, 49]) = true := by rw [← qpu_list]; exact str_beq_true hq
            have HQ := Aside0.mk hq
            clear hq
            by_cases hc : valueB (s1.extract 12 16) = crc (s1.extract 0 12)
            · have hok : Aside0 (headOk (s1.extract 0 16)) := ⟨HHO.out.2 ⟨HQ.out, hc⟩⟩
              have g2 : ((valueB (s1.extract 12 16) : Int) == (crc (s1.extract 0 12) : Int)) = true := by rw [hc]; simp
              have g3 : ((valueB (s1.extract 12 16) : Int) != (crc (s1.extract 0 12) : Int)) = false := by rw [hc]; simp
              clear hc
              go_wp2_with fail
              go_quiet ((first | (go_at_call 35; exact value_quiet _ _ _ (by rw [Y4.out.1]; exact Nat.le_refl _)) | (go_at_call 12; exact rsum_quiet _ _ _ (by rw [Y4.out.2.1]; omega))))
              go_wp2_with fail
              refine (value_calls (s1.extract 4 8) _ (by rw [Y4.out.2.2.1]; exact Nat.le_refl _)).mono ?_
              rintro e w2 ⟨rfl, ⟨nd, rfl⟩⟩
              go_wp2_with fail
              refine (value_calls (s1.extract 8 12) _ (by rw [Y4.out.2.2.2]; exact Nat.le_refl _)).mono ?_
              rintro e w2 ⟨rfl, ⟨nd2, rfl⟩⟩
              have hNlt := valueB_lt (s1.extract 4 8)
              obtain ⟨N, hN⟩ : ∃ N, N = valueB (s1.extract 4 8) := ⟨_, rfl⟩
              rw [← hN] at hNlt ⊢
              have LP := HLP.out
              rw [if_neg (fun hh => hh hok.out), HBN.out, ← hN] at LP
              have HNB := Aside0.mk (hN.trans HBN.out.symm)
              have wn1 := wrap_16 N hNlt
              have wn2 := iwrap_16 N hNlt
              rw [HV8.out]
              have HLP2 := Aside0.mk LP
              clear LP HLP hN g1 g2 g3 i4 i8 i12 i16 n4 n8 n12 wc wc2 d1
              by_cases big : 65552 < 16 + (N : Int)
              · have d3 : decide (65552 < 16 + (N : Int)) = true := decide_eq_true big
                have HL : Aside0 (loadP img fs n' = (⟨#[]⟩, 106, nextN img n' ⟨#[]⟩)) := ⟨by rw [HLP2.out, if_pos (Or.inl (by omega))]⟩
                clear big
                go_wp2
                go_ret2
                rw [HL.out]
                exact ⟨rfl, HD1.out.drewN _, HO1.out.drewN _⟩
              have d3 : decide (65552 < 16 + (N : Int)) = false := decide_eq_false big
              by_cases big2 : (img.size : Int) < 16 + (N : Int)
              · have d4 : decide ((img.size : Int) < 16 + (N : Int)) = true := decide_eq_true big2
                have HL : Aside0 (loadP img fs n' = (⟨#[]⟩, 106, nextN img n' ⟨#[]⟩)) := ⟨by rw [HLP2.out, if_pos (Or.inr (by omega))]⟩
                clear big2
                go_wp2
                go_ret2
                rw [HL.out]
                exact ⟨rfl, HD1.out.drewN _, HO1.out.drewN _⟩
              have d4 : decide ((img.size : Int) < 16 + (N : Int)) = false := decide_eq_false big2
              have HB1 : Aside0 (N + 16 ≤ img.size ∧ N ≤ 65536) := ⟨by omega⟩
              clear big big2
              go_wp2
              go_roundw
              case rel =>
                exact ⟨s1, _, _, false, _, rfl, rfl, rfl, rfl, ⟨Or.inr ⟨rfl, s1, 16 + N + 1, N, HNP.out, h16, hok.out, HNB.out, rfl, HB1.out.1, HB1.out.2, rfl, rfl, ⟨by omega, by omega⟩, ⟨h16, by omega⟩, by omega, by omega⟩⟩, ⟨HD1.out.drewN _⟩, ⟨HO1.out.drewN _⟩⟩
              case measure => simp only [strV, boolV]; omega
            · have hok : Aside0 (¬ headOk (s1.extract 0 16)) := ⟨fun hh => hc (HHO.out.1 hh).2⟩
              have g2 : ((valueB (s1.extract 12 16) : Int) == (crc (s1.extract 0 12) : Int)) = false := by simp; omega
              have g3 : ((valueB (s1.extract 12 16) : Int) != (crc (s1.extract 0 12) : Int)) = true := by simp; omega
              have HL : Aside0 (loadP img fs n' = (⟨#[]⟩, 105, nextN img n' ⟨#[]⟩)) := ⟨by rw [HLP.out, if_pos hok.out]⟩
              clear hc
              go_wp2_with fail
              go_quiet ((first | (go_at_call 35; exact value_quiet _ _ _ (by rw [Y4.out.1]; exact Nat.le_refl _)) | (go_at_call 12; exact rsum_quiet _ _ _ (by rw [Y4.out.2.1]; omega))))
              go_wp2
              go_ret2
              rw [HL.out]
              exact ⟨rfl, HD1.out.drewN _, HO1.out.drewN _⟩
          · have g1 : ((s1.extract 0 4).toList == [81, 80, 85, 49]) = false := by rw [← qpu_list]; exact str_beq_false hq
            have HL : Aside0 (loadP img fs n' = (⟨#[]⟩, 105, nextN img n' ⟨#[]⟩)) := ⟨by rw [HLP.out, if_pos (fun hh => hq (HHO.out.1 hh).1)]⟩
            clear hq
            go_wp2_with fail
            go_quiet (fail)
            go_wp2
            go_ret2
            rw [HL.out]
            exact ⟨rfl, HD1.out.drewN _, HO1.out.drewN _⟩
        · have d1 : (e1 != 0) = true := by simpa using he
          have HL : Aside0 (loadP img fs n' = (⟨#[]⟩, e1, nextN img n' ⟨#[]⟩)) := ⟨by
            unfold loadP; rw [if_neg HSM.out, nextP_err HP.out he, if_pos he]⟩
          clear he
          go_wp2
          go_ret2
          rw [HL.out]
          exact ⟨rfl, HD1.out, HO1.out⟩
      · have HK : Aside0 (nextK img ⟨#[]⟩ = (img.size : Int)) := ⟨by rw [hK]; omega⟩
        have hmin2 : (img.size : Int) < 64 := by omega
        clear hK
        go_wp2_with fail
        refine (rreadE B E g img fs n' 0 ((img.size : Int)) wr HDr.out hbig.out HOK.out hm hi hn0 (by omega) (by omega)).mono ?_
        rintro e w1 ⟨rfl, hd1, ho1⟩
        obtain ⟨s1, e1, hP⟩ : ∃ s1 e1, readP img fs n' 0 ((img.size : Int)) = (s1, e1) := ⟨_, _, rfl⟩
        rw [hP]
        dsimp only
        have HP : Aside0 (readP img fs n' ((⟨#[]⟩ : ByteArray).size : Int) (nextK img ⟨#[]⟩) = (s1, e1)) := ⟨by rw [HK.out]; exact hP⟩
        have HD1 : Aside0 (DiskE 46 B E w1 g img fs (nextN img n' ⟨#[]⟩)) := ⟨by unfold nextN; rw [HK.out]; exact hd1⟩
        have HO1 := Aside0.mk (HOr.out.trans ho1)
        have hs64 : s1.size ≤ 64 := by have := readP_size img fs n' 0 ((img.size : Int)); rw [hP] at this; exact this
        have hnl := nextN_le img n' ⟨#[]⟩
        obtain ⟨v, hb, _, _, _⟩ := hd1
        have hz0 : w1.cell? ⟨g, 0, none⟩ = some (.string img) := (blk_cell hb 0).trans rfl
        clear hP ho1 hb
        by_cases he : e1 = 0
        · subst he
          by_cases hsh : (s1.size : Int) < (img.size : Int)
          · have d1 : decide ((s1.size : Int) < (img.size : Int)) = true := decide_eq_true hsh
            have d1n : decide (s1.size < img.size) = true := decide_eq_true (by omega)
            have HL : Aside0 (loadP img fs n' = (⟨#[]⟩, 101, nextN img n' ⟨#[]⟩)) := ⟨by
              unfold loadP; rw [if_neg HSM.out, nextP_short HP.out (by rw [HK.out]; exact hsh), if_pos (by decide)]⟩
            clear hsh
            go_wp2
            go_ret2
            rw [HL.out]
            exact ⟨rfl, HD1.out, HO1.out⟩
          have d1 : decide ((s1.size : Int) < (img.size : Int)) = false := decide_eq_false hsh
          have d1n : decide (s1.size < img.size) = false := decide_eq_false (by omega)
          have hN1 : nextP img fs n' ⟨#[]⟩ = (s1, 0) := by
            rw [nextP_ok HP.out (by rw [HK.out]; omega), empty_app]
          have h16 : 16 ≤ s1.size := by have := HSM.out; omega
          have HNP := Aside0.mk hN1
          clear hsh hN1
          have kc : ∀ W, (Op.stringOp .add (⟨#[]⟩ : ByteArray) s1).run Try.prog W = .ok (.string s1) W := fun W => by
            rw [run_sadd W ⟨#[]⟩ s1 (by have : (⟨#[]⟩ : ByteArray).size = 0 := rfl; omega), empty_app]
          have z04 : (s1.extract 0 16).extract 0 4 = s1.extract 0 4 := by
            apply ByteArray.ext; apply Array.ext'
            rw [Lib.extract_data, Lib.extract_data, Lib.extract_data]; simp [List.take_take]
          have z1216 : (s1.extract 0 16).extract 12 16 = s1.extract 12 16 := by
            apply ByteArray.ext; apply Array.ext'
            rw [Lib.extract_data, Lib.extract_data, Lib.extract_data]; simp [List.take_take, List.drop_take]
          have z012 : (s1.extract 0 16).extract 0 12 = s1.extract 0 12 := by
            apply ByteArray.ext; apply Array.ext'
            rw [Lib.extract_data, Lib.extract_data, Lib.extract_data]; simp [List.take_take]
          have z416 : (s1.extract 0 16).extract 4 16 = s1.extract 4 16 := by
            apply ByteArray.ext; apply Array.ext'
            rw [Lib.extract_data, Lib.extract_data, Lib.extract_data]; simp [List.take_take, List.drop_take]
          have HHO : Aside0 (headOk (s1.extract 0 16) ↔ (s1.extract 0 4 = QPU ∧ valueB (s1.extract 12 16) = crc (s1.extract 0 12))) := ⟨by unfold headOk; rw [z04, z1216, z012]⟩
          have HBN : Aside0 (bodyN (s1.extract 0 16) = valueB (s1.extract 4 8)) := ⟨by unfold bodyN; rw [z416, valueB_ext s1 4 16 8 (by omega) h16 (by omega) (by omega)]⟩
          have HV8 : Aside0 (valueB (s1.extract 8 12) = valueB (s1.extract 8 16)) := ⟨valueB_ext s1 8 12 16 (by omega) (by omega) (by omega) h16⟩
          have Y4 : Aside0 ((s1.extract 12 16).size = 4 ∧ (s1.extract 0 12).size = 12 ∧ (s1.extract 4 8).size = 4 ∧ (s1.extract 8 12).size = 4) := ⟨by
            refine ⟨?_, ?_, ?_, ?_⟩ <;> rw [ByteArray.size_extract] <;> omega⟩
          have HLP : Aside0 (loadP img fs n' = (if ¬ headOk (s1.extract 0 16) then (⟨#[]⟩, 105, nextN img n' ⟨#[]⟩)
              else if 65536 < bodyN (s1.extract 0 16) ∨ img.size < bodyN (s1.extract 0 16) + 16 then (⟨#[]⟩, 106, nextN img n' ⟨#[]⟩)
              else
                let N := bodyN (s1.extract 0 16)
                let q := loadLoop img fs (16 + N) (16 + N + 1) (nextN img n' ⟨#[]⟩) s1
                if q.2.1 ≠ 0 then (⟨#[]⟩, q.2.1, q.2.2)
                else if crc (q.1.extract 16 (16 + N)) ≠ valueB (s1.extract 8 16) then (⟨#[]⟩, 104, q.2.2)
                else (q.1.extract 16 (16 + N), 0, q.2.2))) := ⟨by
              unfold loadP
              rw [if_neg HSM.out, HNP.out]
              dsimp only
              rw [if_neg (by decide)]⟩
          clear z04 z1216 z012 z416
          have wc := wrap_crc (s1.extract 0 12)
          have i4 : (4 : Int) ≤ (s1.size : Int) := by omega
          have i8 : (8 : Int) ≤ (s1.size : Int) := by omega
          have i12 : (12 : Int) ≤ (s1.size : Int) := by omega
          have i16 : (16 : Int) ≤ (s1.size : Int) := by omega
          have n4 : 4 ≤ s1.size := by omega
          have n8 : 8 ≤ s1.size := by omega
          have n12 : 12 ≤ s1.size := by omega
          have wc2 := iwrap_crc (s1.extract 0 12)
          by_cases hq : s1.extract 0 4 = QPU
          · have g1 : ((s1.extract 0 4).toList == [81, 80, 85, 49]) = true := by rw [← qpu_list]; exact str_beq_true hq
            have HQ := Aside0.mk hq
            clear hq
            by_cases hc : valueB (s1.extract 12 16) = crc (s1.extract 0 12)
            · have hok : Aside0 (headOk (s1.extract 0 16)) := ⟨HHO.out.2 ⟨HQ.out, hc⟩⟩
              have g2 : ((valueB (s1.extract 12 16) : Int) == (crc (s1.extract 0 12) : Int)) = true := by rw [hc]; simp
              have g3 : ((valueB (s1.extract 12 16) : Int) != (crc (s1.extract 0 12) : Int)) = false := by rw [hc]; simp
              clear hc
              go_wp2_with fail
              go_quiet ((first | (go_at_call 35; exact value_quiet _ _ _ (by rw [Y4.out.1]; exact Nat.le_refl _)) | (go_at_call 12; exact rsum_quiet _ _ _ (by rw [Y4.out.2.1]; omega))))
              go_wp2_with fail
              refine (value_calls (s1.extract 4 8) _ (by rw [Y4.out.2.2.1]; exact Nat.le_refl _)).mono ?_
              rintro e w2 ⟨rfl, ⟨nd, rfl⟩⟩
              go_wp2_with fail
              refine (value_calls (s1.extract 8 12) _ (by rw [Y4.out.2.2.2]; exact Nat.le_refl _)).mono ?_
              rintro e w2 ⟨rfl, ⟨nd2, rfl⟩⟩
              have hNlt := valueB_lt (s1.extract 4 8)
              obtain ⟨N, hN⟩ : ∃ N, N = valueB (s1.extract 4 8) := ⟨_, rfl⟩
              rw [← hN] at hNlt ⊢
              have LP := HLP.out
              rw [if_neg (fun hh => hh hok.out), HBN.out, ← hN] at LP
              have HNB := Aside0.mk (hN.trans HBN.out.symm)
              have wn1 := wrap_16 N hNlt
              have wn2 := iwrap_16 N hNlt
              rw [HV8.out]
              have HLP2 := Aside0.mk LP
              clear LP HLP hN g1 g2 g3 i4 i8 i12 i16 n4 n8 n12 wc wc2 d1
              by_cases big : 65552 < 16 + (N : Int)
              · have d3 : decide (65552 < 16 + (N : Int)) = true := decide_eq_true big
                have HL : Aside0 (loadP img fs n' = (⟨#[]⟩, 106, nextN img n' ⟨#[]⟩)) := ⟨by rw [HLP2.out, if_pos (Or.inl (by omega))]⟩
                clear big
                go_wp2
                go_ret2
                rw [HL.out]
                exact ⟨rfl, HD1.out.drewN _, HO1.out.drewN _⟩
              have d3 : decide (65552 < 16 + (N : Int)) = false := decide_eq_false big
              by_cases big2 : (img.size : Int) < 16 + (N : Int)
              · have d4 : decide ((img.size : Int) < 16 + (N : Int)) = true := decide_eq_true big2
                have HL : Aside0 (loadP img fs n' = (⟨#[]⟩, 106, nextN img n' ⟨#[]⟩)) := ⟨by rw [HLP2.out, if_pos (Or.inr (by omega))]⟩
                clear big2
                go_wp2
                go_ret2
                rw [HL.out]
                exact ⟨rfl, HD1.out.drewN _, HO1.out.drewN _⟩
              have d4 : decide ((img.size : Int) < 16 + (N : Int)) = false := decide_eq_false big2
              have HB1 : Aside0 (N + 16 ≤ img.size ∧ N ≤ 65536) := ⟨by omega⟩
              clear big big2
              go_wp2
              go_roundw
              case rel =>
                exact ⟨s1, _, _, false, _, rfl, rfl, rfl, rfl, ⟨Or.inr ⟨rfl, s1, 16 + N + 1, N, HNP.out, h16, hok.out, HNB.out, rfl, HB1.out.1, HB1.out.2, rfl, rfl, ⟨by omega, by omega⟩, ⟨h16, by omega⟩, by omega, by omega⟩⟩, ⟨HD1.out.drewN _⟩, ⟨HO1.out.drewN _⟩⟩
              case measure => simp only [strV, boolV]; omega
            · have hok : Aside0 (¬ headOk (s1.extract 0 16)) := ⟨fun hh => hc (HHO.out.1 hh).2⟩
              have g2 : ((valueB (s1.extract 12 16) : Int) == (crc (s1.extract 0 12) : Int)) = false := by simp; omega
              have g3 : ((valueB (s1.extract 12 16) : Int) != (crc (s1.extract 0 12) : Int)) = true := by simp; omega
              have HL : Aside0 (loadP img fs n' = (⟨#[]⟩, 105, nextN img n' ⟨#[]⟩)) := ⟨by rw [HLP.out, if_pos hok.out]⟩
              clear hc
              go_wp2_with fail
              go_quiet ((first | (go_at_call 35; exact value_quiet _ _ _ (by rw [Y4.out.1]; exact Nat.le_refl _)) | (go_at_call 12; exact rsum_quiet _ _ _ (by rw [Y4.out.2.1]; omega))))
              go_wp2
              go_ret2
              rw [HL.out]
              exact ⟨rfl, HD1.out.drewN _, HO1.out.drewN _⟩
          · have g1 : ((s1.extract 0 4).toList == [81, 80, 85, 49]) = false := by rw [← qpu_list]; exact str_beq_false hq
            have HL : Aside0 (loadP img fs n' = (⟨#[]⟩, 105, nextN img n' ⟨#[]⟩)) := ⟨by rw [HLP.out, if_pos (fun hh => hq (HHO.out.1 hh).1)]⟩
            clear hq
            go_wp2_with fail
            go_quiet (fail)
            go_wp2
            go_ret2
            rw [HL.out]
            exact ⟨rfl, HD1.out.drewN _, HO1.out.drewN _⟩
        · have d1 : (e1 != 0) = true := by simpa using he
          have HL : Aside0 (loadP img fs n' = (⟨#[]⟩, e1, nextN img n' ⟨#[]⟩)) := ⟨by
            unfold loadP; rw [if_neg HSM.out, nextP_err HP.out he, if_pos he]⟩
          clear he
          go_wp2
          go_ret2
          rw [HL.out]
          exact ⟨rfl, HD1.out, HO1.out⟩
    · clear HI
      have hK : nextK img hs = min 64 ((img.size : Int) - (hs.size : Int)) := rfl
      have HNB := Aside0.mk hN
      have HPF := Aside0.mk hP
      have HLL := Aside0.mk hLL
      replace hH := Aside0.mk hH
      obtain ⟨hk1, hk0⟩ := hk
      obtain ⟨hs16, hs80⟩ := hsz
      have LP : loadP img fs n = (
        let q := loadLoop img fs (16 + N) (16 + N + 1) (nextN img n ⟨#[]⟩) hs1
        if q.2.1 ≠ 0 then (⟨#[]⟩, q.2.1, q.2.2)
        else if crc (q.1.extract 16 (16 + N)) ≠ valueB (hs1.extract 8 16) then (⟨#[]⟩, 104, q.2.2)
        else (q.1.extract 16 (16 + N), 0, q.2.2)) := by
        unfold loadP
        rw [if_neg HSM.out, HPF.out]
        dsimp only
        rw [if_neg (by decide), if_neg (fun hh => hh hH.out), ← HNB.out, if_neg (by omega)]
      have HLP := Aside0.mk LP
      clear hN hP hLL LP
      obtain ⟨k', rfl⟩ : ∃ k', k = k' + 1 := ⟨k - 1, by omega⟩
      by_cases hlt : hs.size < 16 + N
      · have c0 : decide ((hs.size : Int) < 16 + (N : Int)) = true := decide_eq_true (by omega)
        have LLe : loadLoop img fs (16 + N) (k' + 1) n' hs = (if (nextP img fs n' hs).2 ≠ 0 then (⟨#[]⟩, (nextP img fs n' hs).2, nextN img n' hs) else loadLoop img fs (16 + N) k' (nextN img n' hs) (nextP img fs n' hs).1) := by
          rw [loadLoop, if_pos hlt]
        have HLE := Aside0.mk LLe
        clear LLe
        by_cases hmin : 64 ≤ (img.size : Int) - (hs.size : Int)
        · have HK : Aside0 (nextK img hs = 64) := ⟨by rw [hK]; omega⟩
          clear hK
          go_wp2_with fail
          refine (rreadE B E g img fs n' (hs.size : Int) (64) wr HDr.out hbig.out HOK.out hm hi hn1 (by omega) (by omega)).mono ?_
          rintro e w1 ⟨rfl, hd1, ho1⟩
          obtain ⟨s1, e1, hP1⟩ : ∃ s1 e1, readP img fs n' (hs.size : Int) (64) = (s1, e1) := ⟨_, _, rfl⟩
          rw [hP1]
          dsimp only
          have HPr : Aside0 (readP img fs n' (hs.size : Int) (nextK img hs) = (s1, e1)) := ⟨by rw [HK.out]; exact hP1⟩
          have HD1 : Aside0 (DiskE 46 B E w1 g img fs (nextN img n' hs)) := ⟨by unfold nextN; rw [HK.out]; exact hd1⟩
          have HO1 := Aside0.mk (HOr.out.trans ho1)
          have hs64 : s1.size ≤ 64 := by have := readP_size img fs n' (hs.size : Int) (64); rw [hP1] at this; exact this
          have hnl := nextN_le img n' hs
          clear hP1 hd1 ho1
          by_cases he : e1 = 0
          · subst he
            by_cases hsh : (s1.size : Int) < 64
            · have d1 : decide ((s1.size : Int) < 64) = true := decide_eq_true hsh
              have LL := HLE.out
              rw [nextP_short HPr.out (by rw [HK.out]; exact hsh), if_pos (by decide)] at LL
              have HL : Aside0 (loadP img fs n = (⟨#[]⟩, 101, nextN img n' hs)) := ⟨by rw [HLP.out, ← HLL.out, LL]; dsimp only; rw [if_pos (by decide)]⟩
              clear hsh LL
              go_wp2
              go_ret2
              rw [HL.out]
              exact ⟨rfl, HD1.out, HO1.out⟩
            have d1 : decide ((s1.size : Int) < 64) = false := decide_eq_false hsh
            have LL := HLE.out
            rw [nextP_ok HPr.out (by rw [HK.out]; omega)] at LL
            dsimp only at LL
            rw [if_neg (by decide)] at LL
            have HLL3 := Aside0.mk (LL.symm.trans HLL.out)
            have h1 : 1 ≤ s1.size := by omega
            clear hsh LL
            have kc := fun W => run_sadd W hs s1 (by omega)
            go_wp2
            go_roundw
            case rel =>
              refine ⟨hs ++ s1, _, _, false, _, rfl, rfl, rfl, rfl, ⟨Or.inr ⟨rfl, hs1, k', N, HPF.out, h16, hH.out, HNB.out, rfl, hNi, hN16, rfl, HLL3.out, ?_, ?_, by omega, ?_⟩⟩, ⟨HD1.out⟩, ⟨HO1.out⟩⟩
              · rw [ByteArray.size_append]; omega
              · rw [ByteArray.size_append]; omega
              · rw [ByteArray.size_append]; omega
            case measure => simp only [strV, boolV]; rw [ByteArray.size_append]; omega
          · have d1 : (e1 != 0) = true := by simpa using he
            have LL := HLE.out
            rw [nextP_err HPr.out he, if_pos he] at LL
            have HL : Aside0 (loadP img fs n = (⟨#[]⟩, e1, nextN img n' hs)) := ⟨by rw [HLP.out, ← HLL.out, LL]; dsimp only; rw [if_pos he]⟩
            clear he LL
            go_wp2
            go_ret2
            rw [HL.out]
            exact ⟨rfl, HD1.out, HO1.out⟩
        · have HK : Aside0 (nextK img hs = (img.size : Int) - (hs.size : Int)) := ⟨by rw [hK]; omega⟩
          have hmin2 : (img.size : Int) - (hs.size : Int) < 64 := by omega
          clear hK
          go_wp2_with fail
          refine (rreadE B E g img fs n' (hs.size : Int) ((img.size : Int) - (hs.size : Int)) wr HDr.out hbig.out HOK.out hm hi hn1 (by omega) (by omega)).mono ?_
          rintro e w1 ⟨rfl, hd1, ho1⟩
          obtain ⟨s1, e1, hP1⟩ : ∃ s1 e1, readP img fs n' (hs.size : Int) ((img.size : Int) - (hs.size : Int)) = (s1, e1) := ⟨_, _, rfl⟩
          rw [hP1]
          dsimp only
          have HPr : Aside0 (readP img fs n' (hs.size : Int) (nextK img hs) = (s1, e1)) := ⟨by rw [HK.out]; exact hP1⟩
          have HD1 : Aside0 (DiskE 46 B E w1 g img fs (nextN img n' hs)) := ⟨by unfold nextN; rw [HK.out]; exact hd1⟩
          have HO1 := Aside0.mk (HOr.out.trans ho1)
          have hs64 : s1.size ≤ 64 := by have := readP_size img fs n' (hs.size : Int) ((img.size : Int) - (hs.size : Int)); rw [hP1] at this; exact this
          have hnl := nextN_le img n' hs
          clear hP1 hd1 ho1
          by_cases he : e1 = 0
          · subst he
            by_cases hsh : (s1.size : Int) < (img.size : Int) - (hs.size : Int)
            · have d1 : decide ((s1.size : Int) < (img.size : Int) - (hs.size : Int)) = true := decide_eq_true hsh
              have LL := HLE.out
              rw [nextP_short HPr.out (by rw [HK.out]; exact hsh), if_pos (by decide)] at LL
              have HL : Aside0 (loadP img fs n = (⟨#[]⟩, 101, nextN img n' hs)) := ⟨by rw [HLP.out, ← HLL.out, LL]; dsimp only; rw [if_pos (by decide)]⟩
              clear hsh LL
              go_wp2
              go_ret2
              rw [HL.out]
              exact ⟨rfl, HD1.out, HO1.out⟩
            have d1 : decide ((s1.size : Int) < (img.size : Int) - (hs.size : Int)) = false := decide_eq_false hsh
            have LL := HLE.out
            rw [nextP_ok HPr.out (by rw [HK.out]; omega)] at LL
            dsimp only at LL
            rw [if_neg (by decide)] at LL
            have HLL3 := Aside0.mk (LL.symm.trans HLL.out)
            have h1 : 1 ≤ s1.size := by omega
            clear hsh LL
            have kc := fun W => run_sadd W hs s1 (by omega)
            go_wp2
            go_roundw
            case rel =>
              refine ⟨hs ++ s1, _, _, false, _, rfl, rfl, rfl, rfl, ⟨Or.inr ⟨rfl, hs1, k', N, HPF.out, h16, hH.out, HNB.out, rfl, hNi, hN16, rfl, HLL3.out, ?_, ?_, by omega, ?_⟩⟩, ⟨HD1.out⟩, ⟨HO1.out⟩⟩
              · rw [ByteArray.size_append]; omega
              · rw [ByteArray.size_append]; omega
              · rw [ByteArray.size_append]; omega
            case measure => simp only [strV, boolV]; rw [ByteArray.size_append]; omega
          · have d1 : (e1 != 0) = true := by simpa using he
            have LL := HLE.out
            rw [nextP_err HPr.out he, if_pos he] at LL
            have HL : Aside0 (loadP img fs n = (⟨#[]⟩, e1, nextN img n' hs)) := ⟨by rw [HLP.out, ← HLL.out, LL]; dsimp only; rw [if_pos he]⟩
            clear he LL
            go_wp2
            go_ret2
            rw [HL.out]
            exact ⟨rfl, HD1.out, HO1.out⟩
      · have c0 : decide ((hs.size : Int) < 16 + (N : Int)) = false := decide_eq_false (by omega)
        have LLe : loadLoop img fs (16 + N) (k' + 1) n' hs = (hs, 0, n') := by rw [loadLoop, if_neg hlt]
        have LP := HLP.out
        rw [← HLL.out, LLe] at LP
        dsimp only at LP
        rw [if_neg (by decide)] at LP
        have HLPf := Aside0.mk LP
        clear LP LLe hK
        have b1 : (16 : Int) ≤ 16 + (N : Int) := by omega
        have b2 : 16 + (N : Int) ≤ (hs.size : Int) := by omega
        have b3 : (16 + (N : Int)).toNat = 16 + N := by omega
        have wc := wrap_crc (hs.extract 16 (16 + N))
        have wc2 := iwrap_crc (hs.extract 16 (16 + N))
        have ZB : Aside0 ((hs.extract 16 (16 + N)).size ≤ 65536) := ⟨by rw [ByteArray.size_extract]; omega⟩
        go_wp2_with fail
        refine (rsum_calls (hs.extract 16 (16 + N)) _ (by have := ZB.out; omega)).mono ?_
        rintro e w2 ⟨rfl, ⟨nd, rfl⟩⟩
        by_cases hcr : crc (hs.extract 16 (16 + N)) = valueB (hs1.extract 8 16)
        · have k1 : ((crc (hs.extract 16 (16 + N)) : Int) == (valueB (hs1.extract 8 16) : Int)) = true := by rw [hcr]; simp
          have k2 : ((crc (hs.extract 16 (16 + N)) : Int) != (valueB (hs1.extract 8 16) : Int)) = false := by rw [hcr]; simp
          have HL : Aside0 (loadP img fs n = (hs.extract 16 (16 + N), 0, n')) := ⟨by rw [HLPf.out, if_neg (fun hh => hh hcr)]⟩
          clear hcr
          go_wp2
          go_ret2
          rw [HL.out]
          exact ⟨rfl, HDr.out.drewN _, HOr.out.drewN _⟩
        · have k1 : ((crc (hs.extract 16 (16 + N)) : Int) == (valueB (hs1.extract 8 16) : Int)) = false := by simp; omega
          have k2 : ((crc (hs.extract 16 (16 + N)) : Int) != (valueB (hs1.extract 8 16) : Int)) = true := by simp; omega
          have HL : Aside0 (loadP img fs n = (⟨#[]⟩, 104, n')) := ⟨by rw [HLPf.out, if_pos hcr]⟩
          clear hcr
          go_wp2
          go_ret2
          rw [HL.out]
          exact ⟨rfl, HDr.out.drewN _, HOr.out.drewN _⟩
end Go.Proofs.Ytalbhllgdjgbjaa.Q
