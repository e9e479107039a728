import Derived.Test.YtalbhllgdjgbjaaOpsOpen
import Derived.Test.YtalbhllgdjgbjaaStays
import Derived.StillTailTactics
import Derived.Deep.RegionHeld3
namespace Go.Proofs.Ytalbhllgdjgbjaa.Q
open Go.RowKit Go.Proofs.YtalbhllgdjgbjaaW.PrintWords Go.Proofs.YtalbhllgdjgbjaaW.PrintLast Go.Proofs.YtalbhllgdjgbjaaW.PrintMore
set_option linter.unusedVariables false
set_option linter.unusedSimpArgs false

theorem rreadN_le (img : ByteArray) (n a k : Int) : n ≤ readN img n a k ∧ readN img n a k ≤ n + 1 := by unfold readN; split <;> omega
/-- The other disk stays. -/
theorem DiskE.only2 {T B E B1 E1 g : Nat} {w w' : World} {img : ByteArray} {fs : List S40} {n : Int} (h : DiskE T B E w g img fs n) (ho : Only B1 E1 w w') (hE : E ≤ w.heap.size) (hd : E ≤ B1 ∨ E1 ≤ B) : DiskE T B E w' g img fs n :=
  h.keep (fun k h1 h2 => ho.block k (by omega) (by omega))
theorem str_eq2 (s : ByteArray) : (s.toList == s.toList) = true := by simp
theorem cell_img {T B g : Nat} {w : World} {img : ByteArray} {fs : List S40} {n : Int} (h : Disk T B w g img fs n) : w.cell? ⟨g, 0, none⟩ = some (.string img) := by
  obtain ⟨v, hb, _⟩ := h
  exact (blk_cell hb 0).trans rfl
theorem cell_cnt {T B g : Nat} {w : World} {img : ByteArray} {fs : List S40} {n : Int} (h : Disk T B w g img fs n) : w.cell? ⟨g, 2, none⟩ = some (.int .i64 n) := by
  obtain ⟨v, hb, _⟩ := h
  exact (blk_cell hb 2).trans rfl
theorem reads_cnt (g : Nat) (n : Int) (w : World) (z : w.cell? ⟨g, 2, none⟩ = some (.int .i64 n)) :
    Calls Try.prog 20 #[.pointer (some ⟨g, 0, none⟩)] w fun e w' => e = .returned (.int .i64 n) ∧ w = w' := by
  go_enter Try.func20, Try.ntmps20
  go_wp2
  go_ret
  exact ⟨rfl, rfl⟩
theorem size_cnt (g : Nat) (img : ByteArray) (w : World) (z : w.cell? ⟨g, 0, none⟩ = some (.string img)) :
    Calls Try.prog 21 #[.pointer (some ⟨g, 0, none⟩)] w fun e w' => e = .returned (.int .i64 img.size) ∧ w = w' := by
  go_enter Try.func21, Try.ntmps21
  go_wp2
  go_ret
  exact ⟨rfl, rfl⟩
/-- A row that is not empty begins at the head of a block of its own. -/
theorem R_head {w : World} {base n c : Nat} {ok : Nat → Prop} {A : Option Addr} {xs : List S40} (h : Kd.R k40 40 w base ok (.slice A n c) xs) (hl : 0 < xs.length) : ∃ g, A = some ⟨g, 0, none⟩ ∧ base ≤ g ∧ g < w.heap.size := by
  have hb := Kd.R_base h
  have ht := Kd.R_lt h
  obtain ⟨_, inner, hown, hr⟩ := h
  rcases hown.2 with ⟨hv, hn⟩ | ⟨g', cap', cur, hv, _⟩
  · omega
  · injection hv with h1 h2 h3
    subst h1
    exact ⟨g', rfl, hb g' (by simp [Value.ownBlock]), ht g' (by simp [Value.ownBlock])⟩
theorem C_front {w : World} {A : Option Addr} {l : List S40} (h : Kd.C k40 w A (l ++ [mark40]).length (l ++ [mark40])) : Kd.C k40 w A l.length l := by
  have := Kd.C_take (m := l.length) h (by simp)
  rwa [List.take_left'] at this
  rfl
theorem set_len40 (L : List S40) (i : Nat) (x : S40) {n : Nat} (h : L.length = n) : (L.set i x).length = n := by rw [List.length_set, h]

set_option maxHeartbeats 4000000 in
set_option maxRecDepth 100000 in
theorem reads_law (img : ByteArray) (hi : img.size ≤ 140737488351232) (A : Option Addr) (c : Nat) (fs : List S40) (hm : fs.length ≤ 4398046510976) (A2 : Option Addr) (c2 : Nat) (os : List S43) (hos : os.length ≤ 140737488355328) (w : World)
    (hC : Kd.C k40 w A fs.length fs) (hC2 : Kd.C k43 w A2 os.length os) (hr : ∀ k : Nat, k < os.length → -9223372036854775808 ≤ (rd_T43 os (k : Int)).f1) :
    Calls Try.prog 4 #[.string img, .slice A fs.length c, .slice A2 os.length c2] w fun e w' => e = .returned (.bool true) ∧ Below w.heap.size w w' := by
  have HC := Aside0.mk hC
  have HC2 := Aside0.mk hC2
  have HR := Aside0.mk hr
  clear hC hC2 hr
  by_cases hg : goodN img fs
  · have HG := Aside0.mk hg
    have hi6 : img.size ≤ 65552 := hg.1
    have hm6 : fs.length ≤ 64 := hg.2.1
    clear hg
    go_enter Try.func4, Try.ntmps4
    go_wp2_with fail
    refine (copied_mark A c fs _ HC.out (by omega)).mono ?_
    rintro e w1 ⟨Ao, co, rfl, hco, hRo, hb1⟩
    obtain ⟨og, rfl, ho1, ho2⟩ := R_head hRo (by simp)
    have HRO := Aside0.mk hRo
    have HCO := Aside0.mk (C_front (Kd.R_reads' hRo).2.2)
    have HB1 := Aside0.mk hb1
    clear hRo hb1
    go_wp2_with fail
    refine (new_any img (some ⟨og, 0, none⟩) co fs _ (by omega) (by omega) HCO.out).mono ?_
    rintro e w2 (⟨_, ⟨g, rfl, hd1⟩, hb2⟩ | ⟨hn, _⟩)
    case inr => exact absurd HG.out hn
    have HD1 := Aside0.mk hd1
    have hs12 : w1.heap.size ≤ w2.heap.size := hb2.size
    have HB12 := Aside0.mk hb2
    have HB2 := Aside0.mk (below_step HB1.out hb2)
    clear hd1 hb2
    go_wp2_with fail
    refine (rnew_any img A c fs _ (by omega) (by omega) (Kd.C_below HC.out HB2.out)).mono ?_
    rintro e w3 (⟨_, ⟨x, rfl, hd2⟩, hb3⟩ | ⟨hn, _⟩)
    case inr => exact absurd HG.out hn
    have HDA : Aside0 (DiskE 59 w1.heap.size w2.heap.size w3 g img fs 0) := ⟨HD1.out.toE.below hb3 (Nat.le_refl _)⟩
    have HDB : Aside0 (DiskE 46 w2.heap.size w3.heap.size w3 x img fs 0) := ⟨hd2.toE⟩
    have HB3 := Aside0.mk (below_step HB2.out hb3)
    have hs23 : w2.heap.size ≤ w3.heap.size := hb3.size
    have HRO3 : Aside0 (Kd.R k40 40 w3 w.heap.size (fun _ => True) (.slice (some ⟨og, 0, none⟩) (fs ++ [mark40]).length co) (fs ++ [mark40])) := ⟨Kd.R_below (Kd.R_below HRO.out HB12.out) hb3⟩
    obtain ⟨E1, e1⟩ : ∃ E, E = w1.heap.size := ⟨_, rfl⟩
    obtain ⟨E2, e2⟩ : ∃ E, E = w2.heap.size := ⟨_, rfl⟩
    obtain ⟨E3, e3⟩ : ∃ E, E = w3.heap.size := ⟨_, rfl⟩
    rw [← e1] at HDA hs12 ho2
    rw [← e2] at HDA HDB hs12 hs23
    rw [← e3] at HDB hs23
    have he3 : E3 ≤ w3.heap.size := by omega
    have hwE : w.heap.size ≤ E1 := by omega
    clear hd2 hb3 HD1 e1 e2 e3 HB1 HRO HB12
    go_wp2_with fail
    refine (stays_mark (some ⟨og, 0, none⟩) co A c fs _ (Kd.R_reads' HRO3.out).2.2 hco (Kd.C_below HC.out HB3.out) (by omega)).mono ?_
    rintro e w4 ⟨rfl, ⟨nd, rfl⟩⟩
    go_wp2
    go_loopw [12] (fun v12 wr => ∃ (k : Nat) (L : List S40), v12 = .int .i64 k ∧ k ≤ fs.length ∧ E3 ≤ wr.heap.size ∧ Aside0 (L.length = fs.length + 1) ∧ Aside0 (Below w.heap.size w wr) ∧ Aside0 (Kd.R k40 40 wr w.heap.size (fun _ => True) (.slice (some ⟨og, 0, none⟩) (fs.length + 1) co) L) ∧ Aside0 (DiskE 59 E1 E2 wr g img fs 0) ∧ Aside0 (DiskE 46 E2 E3 wr x img fs 0)) (fun v12 _ => fs.length - (intOf v12).toNat)
    case atStart => exact ⟨0, fs ++ [mark40], rfl, Nat.zero_le _, he3, ⟨by simp⟩, ⟨pw_below_drewN HB3.out _⟩, ⟨by rw [← show (fs ++ [mark40]).length = fs.length + 1 from by simp]; exact Kd.R_drewN HRO3.out nd⟩, ⟨HDA.out.drewN _⟩, ⟨HDB.out.drewN _⟩⟩
    case round =>
      clear HRO3 HB3 HDA HDB he3 HCO HB2
      obtain ⟨k, L, rfl, hk, hsz, HL, HB, HRO, HDA, HDB⟩ := hrel
      by_cases hlt : k < fs.length
      · have d0 : decide ((k : Int) < (fs.length : Int)) = true := decide_eq_true (by omega)
        have hC := (Kd.R_reads' HRO.out).2.2
        obtain ⟨ad, eA, hx0, hx1, hx2, hx3⟩ := at_T40 hC (k : Int) (by omega) (by rw [HL.out]; omega)
        obtain rfl := Option.some.inj eA
        clear hC eA
        simp only [Int.toNat_natCast, add_plain] at hx0 hx1 hx2 hx3
        generalize rd_T40 L (k : Int) = f at hx0 hx1 hx2 hx3
        go_wp2_with ((with_reducible refine gate_ (.store 40 (.tmp 58) (.tmp 57)) rfl ?_); refine Kd.R_store k40 (w0 := w) w.heap.size rfl rfl 40 (.tmp 58) (.tmp 57) rfl 40 (g := og) (n := fs.length + 1) (cap := co) (o' := k * 4) (k : Int) 0 L ⟨(k : Int), 1, 0, 0⟩ (.agg #[.int .i64 k, .int .i64 1, .int .i64 0, .int .i64 0]) [.int .i64 k, .int .i64 1, .int .i64 0, .int .i64 0] [.int .i64 f.f0, .int .i64 f.f1, .int .i64 f.f2, .int .i64 f.f3] (fun _ => True) (fun _ => False) ?s1 ?s2 ?s3 ?s4 ?s5 ?s6 ?s7 ?s8 ?s9 ?s10 ?s11 ?s12 ?s13 ?s14 ?s15 ?_)
        case s1 => go_simp
        case s2 => rw [Int.toNat_natCast]; rfl
        case s3 => go_simp
        case s4 => rfl
        case s5 => kernel_rfl
        case s6 => intro q hq; simp at hq; rcases hq with rfl | rfl | rfl | rfl <;> rfl
        case s7 => exact HRO.out
        case s8 => omega
        case s9 => omega
        case s10 => rfl
        case s11 =>
          have e4 : k40.sz = 4 := rfl
          intro j u hu
          rw [Int.toNat_natCast, e4]
          rcases j with _ | _ | _ | _ | j
          · obtain rfl := Option.some.inj hu; exact hx0
          · obtain rfl := Option.some.inj hu; exact hx1
          · obtain rfl := Option.some.inj hu; exact hx2
          · obtain rfl := Option.some.inj hu; exact hx3
          · simp at hu
        case s12 => exact Nat.le_refl 4
        case s13 => exact k40_mkM _ _ _ (⟨(k : Int), 1, 0, 0⟩ : S40)
        case s14 => intro k hk; exact hk.elim
        case s15 => exact HB.out
        intro wn hRn hBn hgn
        have hgl : og < E1 := ho2
        have hsn : E3 ≤ wn.heap.size := by have := hgn.size; omega
        have HRN := Aside0.mk hRn
        have HBN := Aside0.mk hBn
        have HDA2 : Aside0 (DiskE 59 E1 E2 wn g img fs 0) := ⟨HDA.out.keep (fun j h1 h2 => hgn.block j (by omega) (by simp; omega))⟩
        have HDB2 : Aside0 (DiskE 46 E2 E3 wn x img fs 0) := ⟨HDB.out.keep (fun j h1 h2 => hgn.block j (by omega) (by simp; omega))⟩
        have HLN : Aside0 ((L.set (k : Int).toNat ⟨(k : Int), 1, 0, 0⟩).length = fs.length + 1) := ⟨by rw [List.length_set, HL.out]⟩
        clear hRn hBn hgn hx0 hx1 hx2 hx3 HRO HB HDA HDB HL
        go_wp2
        go_roundw
        case rel => exact ⟨k + 1, _, by go_num, by omega, hsn, HLN, HBN, HRN, HDA2, HDB2⟩
        case measure => simp [intOf]; omega
      · have d0 : decide ((k : Int) < (fs.length : Int)) = false := decide_eq_false (by omega)
        clear HRO HL ho1 hco
        go_wp2
        obtain ⟨wo, rfl⟩ : ∃ wo : World, wo = wr := ⟨_, rfl⟩
        clear d0 hlt hk
        go_loopw [13] (fun v13 wr => ∃ (k : Nat) (n : Int), v13 = .int .i64 k ∧ k ≤ os.length ∧ 0 ≤ n ∧ n ≤ k ∧ E3 ≤ wr.heap.size ∧ Aside0 (Below w.heap.size w wr) ∧ Aside0 (DiskE 59 E1 E2 wr g img fs n) ∧ Aside0 (DiskE 46 E2 E3 wr x img fs n)) (fun v13 _ => os.length - (intOf v13).toNat)
        case atStart => exact ⟨0, 0, rfl, Nat.zero_le _, by omega, by omega, hsz, HB, HDA, HDB⟩
        case round =>
          clear HB HDA HDB hsz
          obtain ⟨k, n, rfl, hk, hn0, hnk, hsz, HB, HDA, HDB⟩ := hrel
          by_cases hlt : k < os.length
          · have d0 : decide ((k : Int) < (os.length : Int)) = true := decide_eq_true (by omega)
            obtain ⟨ad, eA, hx0, hx1⟩ := at_T43 HC2.out (k : Int) (by omega) (by omega)
            subst eA
            simp only [Int.toNat_natCast] at hx0 hx1
            have hf1 := HR.out k hlt
            generalize rd_T43 os (k : Int) = f at hx0 hx1 hf1
            have X0 := Aside0.mk hx0
            have X1 := Aside0.mk hx1
            replace hx0 := pw_cell_below HB.out hx0
            replace hx1 := pw_cell_below HB.out hx1
            go_upto_region 15 with (fail)
            have hgl := HDA.out.lt
            have hw1 : w.heap.size ≤ wr.heap.size := HB.out.size
            go_region_held3 (fun w' => w'.cell? (ad.add (k * 2)) = some (.int .i64 f.f0) ∧ w'.cell? ⟨(ad.add (k * 2)).block, (ad.add (k * 2)).off + 1, none⟩ = some (.int .i64 f.f1))
              (first | go_keep | exact ⟨pw_cell_below (Only.below ‹Only _ _ _ _› (below_drew HB.out) (by omega) (by simp; omega)) X0.out, pw_cell_below (Only.below ‹Only _ _ _ _› (below_drew HB.out) (by omega) (by simp; omega)) X1.out⟩)
              (first | (go_at_call 18; refine (readE E1 E2 g img fs n f.f0 f.f1 _ (HDA.out.drewN 1) (by simp; omega) HG.out.2.2 (by omega) hi6 hn0 (by omega) hf1).mono ?_; rintro e w3 ⟨rfl, hd3, ho3⟩))
            have hl := rreadN_le img n f.f0 f.f1
            have HDA2 := Aside0.mk hd3
            have HDB2 : Aside0 (DiskE 46 E2 E3 w3 x img fs n) := ⟨(HDB.out.drewN 1).only2 ho3 (by simp; omega) (by omega)⟩
            have HB2 : Aside0 (Below w.heap.size w w3) := ⟨ho3.below (below_drew HB.out) (by omega) (by simp; omega)⟩
            have hs3 : E3 ≤ w3.heap.size := by have := ho3.size; simp at this; omega
            have hxl := HDB2.out.lt
            clear hd3 ho3 hx0 hx1
            have hx0 := pw_cell_below HB2.out X0.out
            have hx1 := pw_cell_below HB2.out X1.out
            have hw3 : w.heap.size ≤ w3.heap.size := HB2.out.size
            go_upto_region 16 with (fail)
            go_region_held3 (fun w' => w'.cell? (ad.add (k * 2)) = some (.int .i64 f.f0) ∧ w'.cell? ⟨(ad.add (k * 2)).block, (ad.add (k * 2)).off + 1, none⟩ = some (.int .i64 f.f1))
              (first | go_keep | exact ⟨pw_cell_below (Only.below ‹Only _ _ _ _› (below_drew HB2.out) (by omega) (by simp; omega)) X0.out, pw_cell_below (Only.below ‹Only _ _ _ _› (below_drew HB2.out) (by omega) (by simp; omega)) X1.out⟩)
              (first | (go_at_call 19; refine (rreadE E2 E3 x img fs n f.f0 f.f1 _ (HDB2.out.drewN 1) (by simp; omega) HG.out.2.2 (by omega) hi6 hn0 (by omega) hf1).mono ?_; rintro e w4 ⟨rfl, hd4, ho4⟩))
            have HDB3 := Aside0.mk hd4
            have hs4 := ho4.size
            simp at hs4
            have HDA3 : Aside0 (DiskE 59 E1 E2 w4 g img fs (readN img n f.f0 f.f1)) := ⟨(HDA2.out.drewN 1).only2 ho4 (by simp; omega) (by omega)⟩
            have HB3 : Aside0 (Below w.heap.size w w4) := ⟨ho4.below (below_drew HB2.out) (by omega) (by simp; omega)⟩
            clear hd4 ho4 hx0 hx1 HDA2 HDB2 HDA HDB
            have ha := cell_cnt HDA3.out.toD
            have hb := cell_cnt HDB3.out.toD
            have hci := cell_img HDA3.out.toD
            generalize readN img n f.f0 f.f1 = nn at *
            generalize readP img fs n f.f0 f.f1 = q
            obtain ⟨s, en⟩ := q
            dsimp only
            have ks := str_eq2 s
            have gs : E3 ≤ w4.heap.size := by omega
            go_upto_region 17 with (fail)
            go_region_held3 (fun w' => w'.cell? ⟨g, 2, none⟩ = some (.int .i64 nn) ∧ w'.cell? ⟨x, 2, none⟩ = some (.int .i64 nn) ∧ w'.cell? ⟨g, 0, none⟩ = some (.string img)) (first | go_keep)
              (first | (go_at_call 20; refine (reads_cnt g nn _ (by assumption)).mono ?_; rintro e w5 ⟨rfl, rfl⟩) | (go_at_call 21; refine (size_cnt g img _ (by assumption)).mono ?_; rintro e w5 ⟨rfl, rfl⟩))
            go_wp2
            go_roundw
            case rel => exact ⟨k + 1, nn, by go_num, by omega, by omega, by push_cast; omega, by simpa using gs, ⟨below_drew HB3.out⟩, ⟨HDA3.out.drewN 1⟩, ⟨HDB3.out.drewN 1⟩⟩
            case measure => simp [intOf]; omega
          · have d0 : decide ((k : Int) < (os.length : Int)) = false := decide_eq_false (by omega)
            go_wp2_with fail
            refine (fixed_calls _).mono ?_
            rintro e w5 ⟨rfl, hb5⟩
            go_wp2
            go_ret
            exact ⟨rfl, below_step HB.out hb5⟩
  · have HG := Aside0.mk hg
    clear hg
    go_enter Try.func4, Try.ntmps4
    go_wp2_with fail
    refine (copied_mark A c fs _ HC.out (by omega)).mono ?_
    rintro e w1 ⟨Ao, co, rfl, hco, hRo, hb1⟩
    obtain ⟨og, rfl, ho1, ho2⟩ := R_head hRo (by simp)
    have HRO := Aside0.mk hRo
    have HCO := Aside0.mk (C_front (Kd.R_reads' hRo).2.2)
    have HB1 := Aside0.mk hb1
    clear hRo hb1
    go_wp2_with fail
    refine (new_any img (some ⟨og, 0, none⟩) co fs _ (by omega) (by omega) HCO.out).mono ?_
    rintro e w2 (⟨hn, _⟩ | ⟨_, rfl, hb2⟩)
    case inl => exact absurd hn HG.out
    have HB12 := Aside0.mk hb2
    have HB2 := Aside0.mk (below_step HB1.out hb2)
    clear hb2
    go_wp2_with fail
    refine (rnew_any img A c fs _ (by omega) (by omega) (Kd.C_below HC.out HB2.out)).mono ?_
    rintro e w3 (⟨hn, _⟩ | ⟨_, rfl, hb3⟩)
    case inl => exact absurd hn HG.out
    have HB3 := Aside0.mk (below_step HB2.out hb3)
    have HRO3 : Aside0 (Kd.R k40 40 w3 w.heap.size (fun _ => True) (.slice (some ⟨og, 0, none⟩) (fs ++ [mark40]).length co) (fs ++ [mark40])) := ⟨Kd.R_below (Kd.R_below HRO.out HB12.out) hb3⟩
    clear hb3 HB1 HRO HB12
    generalize errN img = en
    go_wp2_with fail
    refine (stays_mark (some ⟨og, 0, none⟩) co A c fs _ (Kd.R_reads' HRO3.out).2.2 hco (Kd.C_below HC.out HB3.out) (by omega)).mono ?_
    rintro e w4 ⟨rfl, ⟨nd, rfl⟩⟩
    go_wp2
    go_loopw [12] (fun v12 wr => ∃ (k : Nat) (L : List S40), v12 = .int .i64 k ∧ k ≤ fs.length ∧ Aside0 (L.length = fs.length + 1) ∧ Aside0 (Below w.heap.size w wr) ∧ Aside0 (Kd.R k40 40 wr w.heap.size (fun _ => True) (.slice (some ⟨og, 0, none⟩) (fs.length + 1) co) L)) (fun v12 _ => fs.length - (intOf v12).toNat)
    case atStart => exact ⟨0, fs ++ [mark40], rfl, Nat.zero_le _, ⟨by simp⟩, ⟨pw_below_drewN HB3.out _⟩, ⟨by rw [← show (fs ++ [mark40]).length = fs.length + 1 from by simp]; exact Kd.R_drewN HRO3.out nd⟩⟩
    case round =>
      clear HRO3 HB3 HCO HB2
      obtain ⟨k, L, rfl, hk, HL, HB, HRO⟩ := hrel
      by_cases hlt : k < fs.length
      · have d0 : decide ((k : Int) < (fs.length : Int)) = true := decide_eq_true (by omega)
        have hC := (Kd.R_reads' HRO.out).2.2
        obtain ⟨ad, eA, hx0, hx1, hx2, hx3⟩ := at_T40 hC (k : Int) (by omega) (by rw [HL.out]; omega)
        obtain rfl := Option.some.inj eA
        clear hC eA
        simp only [Int.toNat_natCast, add_plain] at hx0 hx1 hx2 hx3
        generalize rd_T40 L (k : Int) = f at hx0 hx1 hx2 hx3
        go_wp2_with ((with_reducible refine gate_ (.store 40 (.tmp 58) (.tmp 57)) rfl ?_); refine Kd.R_store k40 (w0 := w) w.heap.size rfl rfl 40 (.tmp 58) (.tmp 57) rfl 40 (g := og) (n := fs.length + 1) (cap := co) (o' := k * 4) (k : Int) 0 L ⟨(k : Int), 1, 0, 0⟩ (.agg #[.int .i64 k, .int .i64 1, .int .i64 0, .int .i64 0]) [.int .i64 k, .int .i64 1, .int .i64 0, .int .i64 0] [.int .i64 f.f0, .int .i64 f.f1, .int .i64 f.f2, .int .i64 f.f3] (fun _ => True) (fun _ => False) ?s1 ?s2 ?s3 ?s4 ?s5 ?s6 ?s7 ?s8 ?s9 ?s10 ?s11 ?s12 ?s13 ?s14 ?s15 ?_)
        case s1 => go_simp
        case s2 => rw [Int.toNat_natCast]; rfl
        case s3 => go_simp
        case s4 => rfl
        case s5 => kernel_rfl
        case s6 => intro q hq; simp at hq; rcases hq with rfl | rfl | rfl | rfl <;> rfl
        case s7 => exact HRO.out
        case s8 => omega
        case s9 => omega
        case s10 => rfl
        case s11 =>
          have e4 : k40.sz = 4 := rfl
          intro j u hu
          rw [Int.toNat_natCast, e4]
          rcases j with _ | _ | _ | _ | j
          · obtain rfl := Option.some.inj hu; exact hx0
          · obtain rfl := Option.some.inj hu; exact hx1
          · obtain rfl := Option.some.inj hu; exact hx2
          · obtain rfl := Option.some.inj hu; exact hx3
          · simp at hu
        case s12 => exact Nat.le_refl 4
        case s13 => exact k40_mkM _ _ _ (⟨(k : Int), 1, 0, 0⟩ : S40)
        case s14 => intro k hk; exact hk.elim
        case s15 => exact HB.out
        intro wn hRn hBn hgn
        have HRN := Aside0.mk hRn
        have HBN := Aside0.mk hBn
        have HLN : Aside0 ((L.set (k : Int).toNat ⟨(k : Int), 1, 0, 0⟩).length = fs.length + 1) := ⟨by rw [List.length_set, HL.out]⟩
        clear hRn hBn hgn hx0 hx1 hx2 hx3 HRO HB HL
        go_wp2
        go_roundw
        case rel => exact ⟨k + 1, _, by go_num, by omega, HLN, HBN, HRN⟩
        case measure => simp [intOf]; omega
      · have d0 : decide ((k : Int) < (fs.length : Int)) = false := decide_eq_false (by omega)
        clear HRO HL
        go_wp2_with fail
        refine (fixed_calls _).mono ?_
        rintro e w5 ⟨rfl, hb5⟩
        go_wp2
        go_ret
        exact ⟨rfl, below_step HB.out hb5⟩
/-- The same, in the row's order. -/
theorem reads_row (w : World) (img : ByteArray) (hi : img.size ≤ 140737488351232) (A : Option Addr) (c : Nat) (fs : List S40) (hC : Kd.C k40 w A fs.length fs) (ok : ∀ y ∈ fs, wf64 y.f0 ∧ wf64 y.f1 ∧ wf64 y.f2 ∧ wf64 y.f3) (y : fs.length * 32 ≤ 140737488351232)
    (A2 : Option Addr) (c2 : Nat) (os : List S43) (hC2 : Kd.C k43 w A2 os.length os) (ok2 : ∀ y ∈ os, wf64 y.f0 ∧ wf64 y.f1) (y2 : os.length * 16 ≤ 140737488351232) :
    Calls Try.prog 4 #[.string img, .slice A fs.length c, .slice A2 os.length c2] w fun e w' => e = .returned (.bool true) ∧ Below w.heap.size w w' :=
  reads_law img hi A c fs (by omega) A2 c2 os (by omega) w hC hC2 (ops_wf ok2)
end Go.Proofs.Ytalbhllgdjgbjaa.Q
