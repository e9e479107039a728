import Derived.Test.YtffldajbnhbkkaaDoorKv16
namespace Go.Proofs.YtffldajbnhbkkaaDoor.Q
open Go.RowKit Go.Proofs.YtffldajbnhbkkaaDoorW.PrintWords Go.Proofs.YtffldajbnhbkkaaDoorW.PrintLast Go.Proofs.YtffldajbnhbkkaaDoorW.PrintMore
set_option linter.unusedVariables false
set_option linter.unusedSimpArgs false
def IsBool (e : Ending) : Prop := ∃ b, e = .returned (.bool b)
theorem down_e2 {i j1 j2 : Nat} (h1 : 2 * i + 1 = j1) (h2 : 2 * i + 2 = j2) : ((j2 : Nat) : Int) = (j1 : Int) + 1 := by omega
theorem down_nums (i n j1 j2 : Nat) (h1 : 2 * i + 1 = j1) (h2 : 2 * i + 2 = j2) (hi : i ≤ n) (hn : n < 4611686018427387904) :
    wrap64 (2 * (i : Int)) = 2 * (i : Int) ∧ wrap64 (2 * (i : Int) + 1) = (j1 : Int) ∧ (j1 < n → wrap64 ((j1 : Int) + 1) = (j2 : Int)) ∧ ¬ ((j1 : Int) < 0) ∧ n ≤ 9223372036854775807 ∧ i < j1 ∧ j1 < j2 := by
  refine ⟨by unfold wrap64; omega, by unfold wrap64; omega, fun h => by unfold wrap64; omega, by omega, by omega, by omega, by omega⟩
theorem down_go (n k : Nat) (l : List S31) (i d : Nat) (h : 2 * i + 1 < n) (hn : n ≤ l.length) (hd : HP.pickD lt31 l i n h hn = d) (hdl : d < l.length) (hil : i < l.length) :
    HP.downL lt31 n (k + 1) l i = if lt31 l[d] l[i] = true then HP.downL lt31 n k (HP.swapL l i d hil hdl) d else l := by
  subst hd
  conv => lhs; unfold HP.downL
  rw [dif_pos ⟨h, hn⟩]
theorem pick_snd (l : List S31) (i n j1 j2 : Nat) (h1 : 2 * i + 1 = j1) (h2 : 2 * i + 2 = j2) (hj : j1 < n) (hn : n ≤ l.length) (hj2 : j2 < n) (hl1 : j1 < l.length) (hl2 : j2 < l.length) (c : lt31 l[j2] l[j1] = true) (h : 2 * i + 1 < n) : HP.pickD lt31 l i n h hn = j2 := by
  subst h1 h2
  unfold HP.pickD
  rw [dif_pos hj2, if_pos c]
theorem pick_fst (l : List S31) (i n j1 j2 : Nat) (h1 : 2 * i + 1 = j1) (h2 : 2 * i + 2 = j2) (hj : j1 < n) (hn : n ≤ l.length) (hj2 : j2 < n) (hl1 : j1 < l.length) (hl2 : j2 < l.length) (c : lt31 l[j2] l[j1] = false) (h : 2 * i + 1 < n) : HP.pickD lt31 l i n h hn = j1 := by
  subst h1 h2
  unfold HP.pickD
  rw [dif_pos hj2, if_neg (by rw [c]; simp)]
theorem pick_one (l : List S31) (i n j1 j2 : Nat) (h1 : 2 * i + 1 = j1) (h2 : 2 * i + 2 = j2) (hj : j1 < n) (hn : n ≤ l.length) (hj2 : ¬ j2 < n) (h : 2 * i + 1 < n) : HP.pickD lt31 l i n h hn = j1 := by
  subst h1 h2
  unfold HP.pickD
  rw [dif_neg hj2]
theorem down_less {n i d : Nat} (h : i < d) (h2 : d < n) : n - d < n - i := by omega
set_option maxHeartbeats 2000000 in
set_option maxRecDepth 100000 in
theorem down_walk (gh g cap n : Nat) (l : List S31) (k : Nat) (W : World) (hk : n ≤ k) (hnl : n ≤ l.length) (hsz : l.length < 4611686018427387904) (hv : HV W gh g cap l) :
    Calls Tryd.prog 44 #[.iface 56 (.pointer (some ⟨gh, 0, none⟩)), .int .i64 0, .int .i64 n] W fun e w' => IsBool e ∧ HV w' gh g cap (HP.downL lt31 n k l 0) ∧ Beside gh g W w' := by
  have eL : ∀ args w, (callFunc 91 args).run Tryd.prog w = .ok (.enter 91 args) w := enters_of Tryd.func91 (by kernel_rfl) rfl
  have eS : ∀ args w, (callFunc 92 args).run Tryd.prog w = .ok (.enter 92 args) w := enters_of Tryd.func92 (by kernel_rfl) rfl
  have HN1 := Aside0.mk hsz
  have HN2 := Aside0.mk hnl
  have HN3 := Aside0.mk hk
  have HN4 := Aside0.mk hv
  clear hsz hnl hk hv
  go_enter Tryd.func44, Tryd.ntmps44
  go_wp2
  go_loopw [7] (fun v1 wr => ∃ (i k' : Nat) (l' : List S31), v1 = .int .i64 i ∧ n ≤ i + k' ∧ i ≤ n ∧ l'.length = l.length ∧ HV wr gh g cap l' ∧ Beside gh g W wr ∧ HP.downL lt31 n k' l' i = HP.downL lt31 n k l 0) (fun v1 _ => n - (Lib.intOf v1).toNat)
  case atStart => exact ⟨0, k, l, rfl, by have := HN3.out; omega, Nat.zero_le _, rfl, HN4.out, Beside.refl _ _ _, rfl⟩
  case round =>
    obtain ⟨i, k', l', rfl, hik, hin, hll, hv', hbs, hup⟩ := hrel
    obtain ⟨j1, h1⟩ : ∃ j1, 2 * i + 1 = j1 := ⟨_, rfl⟩
    obtain ⟨j2, h2⟩ : ∃ j2, 2 * i + 2 = j2 := ⟨_, rfl⟩
    obtain ⟨m1, m2, m3, m4, m5, m6, m7⟩ := down_nums i n j1 j2 h1 h2 hin (Nat.lt_of_le_of_lt HN2.out HN1.out)
    have hn' : n ≤ l'.length := hll ▸ HN2.out
    by_cases hj : j1 < n
    · obtain ⟨k', rfl⟩ : ∃ q, k' = q + 1 := Nat.exists_eq_add_one_of_ne_zero (by omega)
      have h2n : 2 * i + 1 < n := h1 ▸ hj
      have m3' := m3 hj
      have e2 : ((j2 : Nat) : Int) = (j1 : Int) + 1 := down_e2 h1 h2
      rw [e2] at m3'
      have E2 := Aside0.mk e2
      clear e2
      have hlb : l'.length ≤ 9223372036854775807 := by rw [hll]; exact Nat.le_of_lt (Nat.lt_trans HN1.out (by decide))
      have hil : i < l'.length := Nat.lt_of_lt_of_le (Nat.lt_trans m6 hj) hn'
      have hl1 : j1 < l'.length := Nat.lt_of_lt_of_le hj hn'
      have mL := find_Less gh wr (.slice (some ⟨g, 0, none⟩) l'.length cap) ((blk_cell hv'.1 0).trans rfl)
      have cj : (j1 : Int) < (n : Int) := Int.ofNat_lt.2 hj
      have hcl : ¬ ((n : Int) ≤ (j1 : Int)) := by omega
      have sw := fun (w2 : World) (h : HV w2 gh g cap l') (d : Nat) (hdl : d < l'.length) (hid : i ≠ d) => swap_row g cap w2 l' h.2.2 i d hil hdl hid (hll ▸ HN1.out)
      have SW := Aside0.mk sw
      clear sw
      have HV' := Aside0.mk hv'
      have HS := Aside0.mk hbs
      have HLL := Aside0.mk hll
      by_cases hj2 : j2 < n
      · have hl2 : j2 < l'.length := Nat.lt_of_lt_of_le hj2 hn'
        have lA := less_row g cap wr l' hv'.2.2 hlb j2 j1 hl2 hl1
        have cj2 : (j1 : Int) + 1 < (n : Int) := E2.out ▸ Int.ofNat_lt.2 hj2
        cases c : lt31 l'[j2] l'[j1] with
        | true =>
          rw [c, E2.out] at lA
          have hdl : j2 < l'.length := hl2
          have NK := Aside0.mk (show n ≤ j2 + k' by omega)
          have DN := Aside0.mk (show j2 < n by omega)
          have MI := Aside0.mk (show i < j2 by omega)
          have HNE := Aside0.mk (show i ≠ j2 by omega)
          have G2 := Aside0.mk ((down_go n k' l' i j2 h2n hn' (pick_snd l' i n j1 j2 h1 h2 hj hn' hj2 hl1 hl2 c h2n) hdl hil).symm.trans hup)
          clear hv' hbs hup hll m6 m7 hik hin h1 h2 hn' hj m5 m3 h2n c
          cases c2 : lt31 l'[j2] l'[i] with
          | true =>
            have C2 := Aside0.mk c2
            clear c2
            go_wp2_with (first
              | (go_at_call 91; refine lA.mono ?_; rintro e w2 ⟨rfl, hb⟩; have hv2 := HV.below HV'.out hb; have mL2 := find_Less gh w2 (.slice (some ⟨g, 0, none⟩) l'.length cap) ((blk_cell hv2.1 0).trans rfl); have lB := less_row g cap w2 l' hv2.2.2 hlb j2 i hdl hil; rw [C2.out, E2.out] at lB; have HV2 := Aside0.mk hv2; have HB2 := Aside0.mk (HS.out.below hb); clear hv2 hb lA)
              | (go_at_call 91; refine lB.mono ?_; rintro e w3 ⟨rfl, hb⟩; have hv3 := HV.below HV2.out hb; have mS := find_Swap gh w3 (.slice (some ⟨g, 0, none⟩) l'.length cap) ((blk_cell hv3.1 0).trans rfl); have HV3 := Aside0.mk hv3; have HB3 := Aside0.mk (HB2.out.below hb); clear hv3 hb lB)
              | (go_at_call 92; have sw := SW.out _ HV3.out j2 hdl HNE.out; rw [E2.out] at sw; refine sw.mono ?_; rintro e w4 ⟨rfl, hb4, hc4⟩))
            go_roundw
            case rel =>
              refine ⟨j2, k', HP.swapL l' i j2 hil hdl, by rw [E2.out], NK.out, Nat.le_of_lt DN.out, by rw [HP.swap_len]; exact HLL.out, HV.chg HV3.out hc4 hb4 (HP.swap_len ..), HB3.out.chg hc4, ?_⟩
              rw [← G2.out, if_pos C2.out]
            case measure => rw [← E2.out]; exact down_less MI.out DN.out
          | false =>
            have C2 := Aside0.mk c2
            clear c2
            go_wp2_with (first
              | (go_at_call 91; refine lA.mono ?_; rintro e w2 ⟨rfl, hb⟩; have hv2 := HV.below HV'.out hb; have mL2 := find_Less gh w2 (.slice (some ⟨g, 0, none⟩) l'.length cap) ((blk_cell hv2.1 0).trans rfl); have lB := less_row g cap w2 l' hv2.2.2 hlb j2 i hdl hil; rw [C2.out, E2.out] at lB; have HV2 := Aside0.mk hv2; have HB2 := Aside0.mk (HS.out.below hb); clear hv2 hb lA)
              | (go_at_call 91; refine lB.mono ?_; rintro e w3 ⟨rfl, hb⟩; have hv3 := HV.below HV2.out hb; have HV3 := Aside0.mk hv3; have HB3 := Aside0.mk (HB2.out.below hb); clear hv3 hb lB))
            go_ret
            exact ⟨⟨_, rfl⟩, by rw [← G2.out, if_neg (by rw [C2.out]; simp)]; exact HV3.out, HB3.out⟩
        | false =>
          rw [c, E2.out] at lA
          have hdl : j1 < l'.length := hl1
          have NK := Aside0.mk (show n ≤ j1 + k' by omega)
          have DN := Aside0.mk (show j1 < n by omega)
          have MI := Aside0.mk (show i < j1 by omega)
          have HNE := Aside0.mk (show i ≠ j1 by omega)
          have G2 := Aside0.mk ((down_go n k' l' i j1 h2n hn' (pick_fst l' i n j1 j2 h1 h2 hj hn' hj2 hl1 hl2 c h2n) hdl hil).symm.trans hup)
          clear hv' hbs hup hll m6 m7 hik hin h1 h2 hn' hj m5 m3 h2n c
          cases c2 : lt31 l'[j1] l'[i] with
          | true =>
            have C2 := Aside0.mk c2
            clear c2
            go_wp2_with (first
              | (go_at_call 91; refine lA.mono ?_; rintro e w2 ⟨rfl, hb⟩; have hv2 := HV.below HV'.out hb; have mL2 := find_Less gh w2 (.slice (some ⟨g, 0, none⟩) l'.length cap) ((blk_cell hv2.1 0).trans rfl); have lB := less_row g cap w2 l' hv2.2.2 hlb j1 i hdl hil; rw [C2.out] at lB; have HV2 := Aside0.mk hv2; have HB2 := Aside0.mk (HS.out.below hb); clear hv2 hb lA)
              | (go_at_call 91; refine lB.mono ?_; rintro e w3 ⟨rfl, hb⟩; have hv3 := HV.below HV2.out hb; have mS := find_Swap gh w3 (.slice (some ⟨g, 0, none⟩) l'.length cap) ((blk_cell hv3.1 0).trans rfl); have HV3 := Aside0.mk hv3; have HB3 := Aside0.mk (HB2.out.below hb); clear hv3 hb lB)
              | (go_at_call 92; have sw := SW.out _ HV3.out j1 hdl HNE.out; refine sw.mono ?_; rintro e w4 ⟨rfl, hb4, hc4⟩))
            go_roundw
            case rel =>
              refine ⟨j1, k', HP.swapL l' i j1 hil hdl, rfl, NK.out, Nat.le_of_lt DN.out, by rw [HP.swap_len]; exact HLL.out, HV.chg HV3.out hc4 hb4 (HP.swap_len ..), HB3.out.chg hc4, ?_⟩
              rw [← G2.out, if_pos C2.out]
            case measure => exact down_less MI.out DN.out
          | false =>
            have C2 := Aside0.mk c2
            clear c2
            go_wp2_with (first
              | (go_at_call 91; refine lA.mono ?_; rintro e w2 ⟨rfl, hb⟩; have hv2 := HV.below HV'.out hb; have mL2 := find_Less gh w2 (.slice (some ⟨g, 0, none⟩) l'.length cap) ((blk_cell hv2.1 0).trans rfl); have lB := less_row g cap w2 l' hv2.2.2 hlb j1 i hdl hil; rw [C2.out] at lB; have HV2 := Aside0.mk hv2; have HB2 := Aside0.mk (HS.out.below hb); clear hv2 hb lA)
              | (go_at_call 91; refine lB.mono ?_; rintro e w3 ⟨rfl, hb⟩; have hv3 := HV.below HV2.out hb; have HV3 := Aside0.mk hv3; have HB3 := Aside0.mk (HB2.out.below hb); clear hv3 hb lB))
            go_ret
            exact ⟨⟨_, rfl⟩, by rw [← G2.out, if_neg (by rw [C2.out]; simp)]; exact HV3.out, HB3.out⟩
      · have cj2 : ¬ ((j1 : Int) + 1 < (n : Int)) := fun h => hj2 (Int.ofNat_lt.1 (E2.out ▸ h))
        have hdl : j1 < l'.length := hl1
        have NK := Aside0.mk (show n ≤ j1 + k' by omega)
        have DN := Aside0.mk (show j1 < n by omega)
        have MI := Aside0.mk (show i < j1 by omega)
        have HNE := Aside0.mk (show i ≠ j1 by omega)
        have G2 := Aside0.mk ((down_go n k' l' i j1 h2n hn' (pick_one l' i n j1 j2 h1 h2 hj hn' hj2 h2n) hdl hil).symm.trans hup)
        clear hv' hbs hup hll m6 m7 hik hin h1 h2 hn' hj m5 m3 h2n
        cases c2 : lt31 l'[j1] l'[i] with
        | true =>
          have C2 := Aside0.mk c2
          have lB := less_row g cap wr l' HV'.out.2.2 hlb j1 i hdl hil
          rw [C2.out] at lB
          clear c2
          go_wp2_with (first
            | (go_at_call 91; refine lB.mono ?_; rintro e w3 ⟨rfl, hb⟩; have hv3 := HV.below HV'.out hb; have mS := find_Swap gh w3 (.slice (some ⟨g, 0, none⟩) l'.length cap) ((blk_cell hv3.1 0).trans rfl); have HV3 := Aside0.mk hv3; have HB3 := Aside0.mk (HS.out.below hb); clear hv3 hb lB)
            | (go_at_call 92; have sw := SW.out _ HV3.out j1 hdl HNE.out; refine sw.mono ?_; rintro e w4 ⟨rfl, hb4, hc4⟩))
          go_roundw
          case rel =>
            refine ⟨j1, k', HP.swapL l' i j1 hil hdl, rfl, NK.out, Nat.le_of_lt DN.out, by rw [HP.swap_len]; exact HLL.out, HV.chg HV3.out hc4 hb4 (HP.swap_len ..), HB3.out.chg hc4, ?_⟩
            rw [← G2.out, if_pos C2.out]
          case measure => exact down_less MI.out DN.out
        | false =>
          have C2 := Aside0.mk c2
          have lB := less_row g cap wr l' HV'.out.2.2 hlb j1 i hdl hil
          rw [C2.out] at lB
          clear c2
          go_wp2_with (first
            | (go_at_call 91; refine lB.mono ?_; rintro e w3 ⟨rfl, hb⟩; have hv3 := HV.below HV'.out hb; have HV3 := Aside0.mk hv3; have HB3 := Aside0.mk (HS.out.below hb); clear hv3 hb lB))
          go_ret
          exact ⟨⟨_, rfl⟩, by rw [← G2.out, if_neg (by rw [C2.out]; simp)]; exact HV3.out, HB3.out⟩
    · have hend : HP.downL lt31 n k' l' i = l' := HP.down_stop lt31 n k' l' i (by rw [h1]; exact hj)
      have HU := Aside0.mk (hend.symm.trans hup)
      have HV' := Aside0.mk hv'
      have HS := Aside0.mk hbs
      have hc : (n : Int) ≤ (j1 : Int) := by omega
      clear hup hv' hbs hend hik hin hll h1 h2 m5 m6 m7 hn' hj
      go_wp2
      go_ret
      exact ⟨⟨_, rfl⟩, by rw [← HU.out]; exact HV'.out, HS.out⟩
end Go.Proofs.YtffldajbnhbkkaaDoor.Q
