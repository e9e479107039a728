import Derived.Test.YtalbhllgdjgbjaaDiskB
import Derived.Test.YtalbhllgdjgbjaaNew
import Derived.IntWalk
namespace Go.Proofs.Ytalbhllgdjgbjaa.Q
open Go.RowKit Go.Proofs.YtalbhllgdjgbjaaW.PrintWords Go.Proofs.YtalbhllgdjgbjaaW.PrintLast Go.Proofs.YtalbhllgdjgbjaaW.PrintMore
set_option linter.unusedVariables false
set_option linter.unusedSimpArgs false


theorem rread_bad (g : Nat) (img : ByteArray) (A : Option Addr) (c : Nat) (fs : List S40) (n at_ k : Int) (w : World)
    (hb : w.heap[g]? = some (.cells #[.string img, .slice A fs.length c, .int .i64 n] 46 (0, 0))) (hi : img.size ≤ 65552) (hk : -9223372036854775808 ≤ k)
    (hbad : k < 1 ∨ 64 < k ∨ at_ < 0 ∨ (img.size : Int) - k < at_) :
    Calls Try.prog 19 #[.pointer (some ⟨g, 0, none⟩), .int .i64 at_, .int .i64 k] w fun e w' => e = .returned (.tuple #[.string ⟨#[]⟩, .int .i64 102]) ∧ w' = w := by
  have hz0 : w.cell? ⟨g, 0, none⟩ = some (.string img) := (blk_cell hb 0).trans rfl
  have HB0 := Aside0.mk hb
  clear hb
  by_cases h1 : k < 1
  · have d1 : decide (k < 1) = true := decide_eq_true h1
    go_enter Try.func19, Try.ntmps19
    go_wp2
    go_ret2
    exact ⟨rfl, rfl⟩
  have d1 : decide (k < 1) = false := decide_eq_false h1
  by_cases h2 : 64 < k
  · have d2 : decide (64 < k) = true := decide_eq_true h2
    go_enter Try.func19, Try.ntmps19
    go_wp2
    go_ret2
    exact ⟨rfl, rfl⟩
  have d2 : decide (64 < k) = false := decide_eq_false h2
  by_cases h3 : at_ < 0
  · have d3 : decide (at_ < 0) = true := decide_eq_true h3
    go_enter Try.func19, Try.ntmps19
    go_wp2
    go_ret2
    exact ⟨rfl, rfl⟩
  have d3 : decide (at_ < 0) = false := decide_eq_false h3
  by_cases h4 : (img.size : Int) < at_
  · have d4 : decide ((img.size : Int) < at_) = true := decide_eq_true h4
    go_enter Try.func19, Try.ntmps19
    go_wp2
    go_ret2
    exact ⟨rfl, rfl⟩
  have d4 : decide ((img.size : Int) < at_) = false := decide_eq_false h4
  have h5 : (img.size : Int) - at_ < k := by omega
  have d5 : decide ((img.size : Int) - at_ < k) = true := decide_eq_true h5
  go_enter Try.func19, Try.ntmps19
  go_wp2
  go_ret2
  exact ⟨rfl, rfl⟩

theorem ret_of {s : ByteArray} {e : Int} {r : ByteArray × Int} (h : r = (s, e)) : Ending.returned (.tuple #[.string s, .int .i64 e]) = Ending.returned (.tuple #[.string r.1, .int .i64 r.2]) := by rw [h]
theorem run_sadd (W : World) (a b : ByteArray) (h : a.size + b.size ≤ 9223372036854775807) : (Op.stringOp .add a b).run Try.prog W = .ok (.string (a ++ b)) W := by
  have h2 : ¬ ((a.size + b.size : Nat) : Int) > IntKind.i64.max := by
    have : IntKind.i64.max = 9223372036854775807 := by decide
    omega
  unfold Op.stringOp
  simp only [if_neg h2]
  rfl
theorem conv1 (W : World) (o : Obj) (x : Int) :
    (convert 52 9 (.slice (some ⟨(W.alloc o).heap.size, 0, none⟩) 1 1)).run Try.prog ((W.alloc o).alloc (.cells #[.int .u8 x] 5)).drew = .ok (.string (strOfNums [x])) ((W.alloc o).alloc (.cells #[.int .u8 x] 5)).drew := by
  refine run_convert_bytes_arg _ 52 5 Try.underlying52 Try.underlying5 _ 0 1 1 [x] rfl (fun i hi => ?_) 9 Try.underlying9
  obtain rfl : i = 0 := by omega
  exact (blk_cell (blk_drew (blk_new (W.alloc o) (Obj.cells #[.int .u8 x] 5))) 0).trans rfl
theorem ofNat_toNat_map (l : List UInt8) : (l.map fun b => (b.toNat : Int)).map (fun n => UInt8.ofNat n.toNat) = l := by
  rw [List.map_map]
  have : ∀ l : List UInt8, l.map ((fun n : Int => UInt8.ofNat n.toNat) ∘ fun x : UInt8 => (x.toNat : Int)) = l := by
    intro l
    induction l with
    | nil => rfl
    | cons a l ih => rw [List.map_cons, ih]; simp
  exact this l
theorem flip_cat (s : ByteArray) (p k : Int) (h0 : 0 ≤ p) (h1 : p < (s.size : Int)) :
    s.extract 0 p.toNat ++ strOfNums [Go.bits .xor .u8 (bt s p) (2 ^ k.toNat % 256)] ++ s.extract (p + 1).toNat s.size = flipB s p k := by
  have hp : p.toNat < s.data.toList.length := by rw [blen]; omega
  have e1 : (p + 1).toNat = p.toNat + 1 := by omega
  apply ByteArray.ext
  apply Array.ext'
  rw [ByteArray.data_append, ByteArray.data_append, Array.toList_append, Array.toList_append, Lib.extract_data, Lib.extract_data]
  unfold flipB flipL strOfNums
  rw [List.map_set, ofNat_toNat_map, List.set_eq_take_append_cons_drop, if_pos hp, e1]
  simp only [List.drop_zero, List.map_cons, List.map_nil]
  have e2 : List.take (s.size - (p.toNat + 1)) (List.drop (p.toNat + 1) s.data.toList) = List.drop (p.toNat + 1) s.data.toList :=
    List.take_of_length_le (by rw [List.length_drop, blen]; exact Nat.le_refl _)
  rw [e2, Nat.sub_zero]
  simp
def readF (s : ByteArray) (f : S40) : ByteArray × Int :=
  if f.f1 = 0 then (s, 0) else if f.f1 = 1 then (⟨#[]⟩, 100) else if f.f1 = 2 then (s.extract 0 (f.f2 % (s.size : Int)).toNat, 0) else (flipB s (f.f2 % (s.size : Int)) f.f3, 0)
def readO (s : ByteArray) : Option S40 → ByteArray × Int
  | none => (s, 0)
  | some f => readF s f

set_option maxHeartbeats 4000000 in
set_option maxRecDepth 100000 in
theorem rread_ok (g : Nat) (img : ByteArray) (A : Option Addr) (c : Nat) (fs : List S40) (n at_ k : Int) (w : World)
    (hb : w.heap[g]? = some (.cells #[.string img, .slice A fs.length c, .int .i64 n] 46 (0, 0))) (hC : Kd.C k40 w A fs.length fs) (hne : ∀ ad, A = some ad → 0 < fs.length → ad.block ≠ g)
    (hm : fs.length ≤ 1000) (hi : img.size ≤ 65552) (hmay : ∀ j, j < fs.length → mayB (rd_T40 fs (j : Int)) = true)
    (hn0 : 0 ≤ n) (hn : n < 4611686018427387904)
    (h1 : 1 ≤ k) (h2 : k ≤ 64) (h3 : 0 ≤ at_) (h4 : at_ ≤ (img.size : Int) - k) :
    Calls Try.prog 19 #[.pointer (some ⟨g, 0, none⟩), .int .i64 at_, .int .i64 k] w fun e w' =>
      e = .returned (.tuple #[.string (readO (img.extract at_.toNat (at_ + k).toNat) (atF fs n)).1, .int .i64 (readO (img.extract at_.toNat (at_ + k).toNat) (atF fs n)).2]) ∧
      w'.heap[g]? = some (.cells #[.string img, .slice A fs.length c, .int .i64 (n + 1)] 46 (0, 0)) ∧ Only g (g + 1) w w' := by
  have hu40 := Try.underlying40
  have hz0 : w.cell? ⟨g, 0, none⟩ = some (.string img) := (blk_cell hb 0).trans rfl
  have hz2 : w.cell? ⟨g, 2, none⟩ = some (.int .i64 n) := (blk_cell hb 2).trans rfl
  have hfz := blk_frozen hb 2
  have hglt := blk_lt hb
  have HB0 := Aside0.mk hb
  have HC := Aside0.mk hC
  have HNE := Aside0.mk hne
  have HMAY := Aside0.mk hmay
  clear hb hC hne hmay
  have d1 : decide (k < 1) = false := decide_eq_false (by omega)
  have d2 : decide (64 < k) = false := decide_eq_false (by omega)
  have d3 : decide (at_ < 0) = false := decide_eq_false (by omega)
  have d4 : decide ((img.size : Int) < at_) = false := decide_eq_false (by omega)
  have d5 : decide ((img.size : Int) - at_ < k) = false := decide_eq_false (by omega)
  have hw : IntKind.i64.wrap (at_ + k) = at_ + k := IntWalk.i64_in _ (by omega)
  have hw1 : 0 ≤ at_ + k := by omega
  have hw2 : at_ ≤ at_ + k := by omega
  have hw3 : at_ + k ≤ (img.size : Int) := by omega
  have hsz : (img.extract at_.toNat (at_ + k).toNat).size = k.toNat := by rw [ByteArray.size_extract]; omega
  generalize hs : img.extract at_.toNat (at_ + k).toNat = s at hsz
  have HS := Lib.hid hs
  clear hs
  have HSZ := Lib.hid hsz
  clear hsz
  go_enter Try.func19, Try.ntmps19
  go_wp2
  rw [HS.out]
  go_loopw [10] (fun i wr => ∃ j : Nat, j ≤ fs.length ∧ i = .int .i64 j ∧ Aside0 (∀ q, q < j → (rd_T40 fs (q : Int)).f0 ≠ n) ∧ Aside0 (Only g (g + 1) w wr) ∧ Aside0 (wr.heap[g]? = some (.cells #[.string img, .slice A fs.length c, .int .i64 (n + 1)] 46 (0, 0)))) (fun i _ => fs.length - (intOf i).toNat)
  case atStart => exact ⟨0, Nat.zero_le _, rfl, ⟨fun j hj => absurd hj (by omega)⟩, ⟨Only.set (Only.refl _ _ _) g 2 _ (Nat.le_refl _) (by omega)⟩, ⟨blk_put HB0.out 2 _ rfl⟩⟩
  case round =>
    clear hz0 hz2 hfz
    obtain ⟨j, hj, rfl, HQ, HO, HG⟩ := hrel
    have z0 : wr.cell? ⟨g, 0, none⟩ = some (.string img) := (blk_cell HG.out 0).trans rfl
    have z1 : wr.cell? ⟨g, 1, none⟩ = some (.slice A fs.length c) := (blk_cell HG.out 1).trans rfl
    have z2 : wr.cell? ⟨g, 2, none⟩ = some (.int .i64 (n + 1)) := (blk_cell HG.out 2).trans rfl
    have hgl := blk_lt HG.out
    by_cases hlt : j < fs.length
    · obtain ⟨ad, eA, hx0, hx1, hx2, hx3⟩ := at_T40 HC.out (j : Int) (by omega) (by omega)
      subst eA
      have hnb := HNE.out ad rfl (by omega)
      have up : ∀ (a : Addr) (v : Value), a.block = ad.block → w.cell? a = some v → wr.cell? a = some v := fun a v hab hv => by
        have := HO.out.block a.block (World.block_lt_of_cell? w _ hv) (by omega)
        simpa [World.cell?, this] using hv
      simp only [Int.toNat_natCast] at hx0 hx1 hx2 hx3
      replace hx0 := up _ _ (by exact add_block ad (j * 4)) hx0
      replace hx1 := up _ _ (by exact add_block ad (j * 4)) hx1
      replace hx2 := up _ _ (by exact add_block ad (j * 4)) hx2
      replace hx3 := up _ _ (by exact add_block ad (j * 4)) hx3
      clear up hnb
      have hmy := HMAY.out j hlt
      have hat : (rd_T40 fs (j : Int)).f0 = n → atF fs n = some (rd_T40 fs (j : Int)) := fun he => atF_some hlt HQ.out he
      have HAT := Aside0.mk hat
      clear hat
      generalize hf : rd_T40 fs (j : Int) = f at hx0 hx1 hx2 hx3 hmy HAT
      have HF := Lib.hid hf
      clear hf
      have hb1 : 1 ≤ f.f1 ∧ f.f1 ≤ 3 ∧ 0 ≤ f.f2 ∧ 0 ≤ f.f3 ∧ f.f3 ≤ 7 := by unfold mayB at hmy; simp at hmy; omega
      clear hmy
      obtain ⟨m1, m3, p2, p3, p7⟩ := hb1
      have i0 : (0 : Int) ≤ (j : Int) := by omega
      have i1 : (j : Int) < (fs.length : Int) := by omega
      by_cases he : f.f0 = n
      · have e0 : (f.f0 != n) = false := by simpa using he
        have HE := Aside0.mk (HAT.out he)
        clear he
        have hsz : s.size = k.toNat := HSZ.out
        have hszi : (s.size : Int) = k := by omega
        have HSI := Aside0.mk hszi
        clear hszi
        have hk0 : (k == 0) = false := by simp; omega
        have q0 : 0 ≤ f.f2 % k := Int.emod_nonneg _ (by omega)
        have q1 : f.f2 % k < k := Int.emod_lt_of_pos _ (by omega)
        have q2 : f.f2.tmod k = f.f2 % k := Int.tmod_eq_emod_of_nonneg p2
        by_cases k1 : f.f1 = 1
        · have e1 : (f.f1 == 1) = true := by simpa using k1
          have HK := Aside0.mk k1
          clear k1 hsz
          go_wp2
          go_ret2
          refine ⟨ret_of (s := ⟨#[]⟩) (e := 100) ?_, blk_alloc HG.out _, Only.alloc HO.out _⟩
          rw [HE.out, readO, readF, if_neg (by rw [HK.out]; decide), if_pos HK.out]
        have e1 : (f.f1 == 1) = false := by simpa using k1
        by_cases k2 : f.f1 = 2
        · have e2 : (f.f1 == 2) = true := by simpa using k2
          have HK := Aside0.mk k2
          have hle : f.f2 % k ≤ (s.size : Int) := by omega
          clear k2 k1 hsz
          generalize hp : f.f2 % k = p at q0 q1 q2 hle
          have HP := Aside0.mk hp
          clear hp
          go_wp2
          go_ret2
          refine ⟨ret_of (s := s.extract 0 p.toNat) (e := 0) ?_, blk_alloc HG.out _, Only.alloc HO.out _⟩
          rw [HE.out, readO, readF, if_neg (by rw [HK.out]; decide), if_neg (by rw [HK.out]; decide), if_pos HK.out, HSI.out, HP.out]
        have e2 : (f.f1 == 2) = false := by simpa using k2
        have hlt2 : f.f2 % k < (s.size : Int) := by omega
        have hle2 : f.f2 % k ≤ (s.size : Int) := by omega
        have hK3 : f.f1 = 3 := by omega
        have HK := Aside0.mk hK3
        clear hK3 k1 k2 hsz
        generalize hp : f.f2 % k = p at q0 q1 q2 hlt2 hle2
        have HP := Aside0.mk hp
        clear hp
        have hs64 : s.size ≤ 64 := by have := HSI.out; omega
        have w1 : IntKind.i64.wrap (p + 1) = p + 1 := IntWalk.i64_in _ (by omega)
        have w2 : 0 ≤ p + 1 := by omega
        have w3 : p + 1 ≤ (s.size : Int) := by omega
        have hbt := bt_at s p
        have hcat := flip_cat s p f.f3 q0 hlt2
        have HCAT := Aside0.mk hcat
        clear hcat
        have hcv := conv1 wr (Obj.cells #[.int .i64 f.f0, .int .i64 f.f1, .int .i64 f.f2, .int .i64 f.f3] 40) (Go.bits .xor .u8 (bt s p) (2 ^ f.f3.toNat % 256))
        simp only [World.size_alloc] at hcv
        have e1 : (s.extract 0 p.toNat).size = p.toNat := by rw [ByteArray.size_extract]; omega
        have e2 : (s.extract (p + 1).toNat s.size).size ≤ 64 := by rw [ByteArray.size_extract]; omega
        have e3 : (strOfNums [Go.bits .xor .u8 (bt s p) (2 ^ f.f3.toNat % 256)]).size = 1 := strOfNums_size _
        have hc1 := fun W => run_sadd W (s.extract 0 p.toNat) (strOfNums [Go.bits .xor .u8 (bt s p) (2 ^ f.f3.toNat % 256)]) (by omega)
        have hc2 := fun W => run_sadd W (s.extract 0 p.toNat ++ strOfNums [Go.bits .xor .u8 (bt s p) (2 ^ f.f3.toNat % 256)]) (s.extract (p + 1).toNat s.size) (by rw [ByteArray.size_append]; omega)
        clear e1 e2 e3
        go_wp2
        go_region
        rw [HCAT.out]
        go_wp2
        go_ret2
        refine ⟨ret_of (s := flipB s p f.f3) (e := 0) ?_, blk_drew (blk_alloc (blk_alloc HG.out _) _), Only.drew (Only.alloc (Only.alloc HO.out _) _)⟩
        rw [HE.out, readO, readF, if_neg (by rw [HK.out]; decide), if_neg (by rw [HK.out]; decide), if_neg (by rw [HK.out]; decide), HSI.out, HP.out]
      · have e0 : (f.f0 != n) = true := by simpa using he
        have HE := Lib.hid he
        clear he
        go_wp2
        go_roundw
        case rel => exact ⟨j + 1, by omega, by go_num, ⟨fun q hq => (Nat.lt_succ_iff_lt_or_eq.1 hq).elim (HQ.out q) (fun h => by rw [h, HF.out]; exact HE.out)⟩, ⟨Only.alloc HO.out _⟩, ⟨blk_alloc HG.out _⟩⟩
        case measure => simp [intOf]; omega
    · have HA := Aside0.mk (atF_none_take (fs := fs) (a := n) fun q hq => HQ.out q (by omega))
      go_wp2
      go_ret2
      refine ⟨ret_of (s := s) (e := 0) ?_, HG.out, HO.out⟩
      rw [HA.out]; rfl
end Go.Proofs.Ytalbhllgdjgbjaa.Q
