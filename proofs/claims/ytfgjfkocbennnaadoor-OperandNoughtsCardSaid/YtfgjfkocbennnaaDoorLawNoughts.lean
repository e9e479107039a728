import Derived.Test.YtfgjfkocbennnaaDoorL55
import Derived.Test.YtfgjfkocbennnaaDoorLawMay
namespace Go.Proofs.YtfgjfkocbennnaaDoor.Q
open Go.RowKit Go.Proofs.YtfgjfkocbennnaaDoorW.PrintWords
set_option linter.unusedVariables false
set_option linter.unusedSimpArgs false
theorem ahead_zero (l : List UInt8) : aheadL (48 :: l) = aheadL l := by unfold aheadL; rfl
theorem bare_zero (r : List UInt8) : bareL (r ++ [48]) = bareL r := by unfold bareL; rw [List.reverse_append]; rfl
theorem ahead_more (r : List UInt8) : aheadL (r ++ [48]) = if aheadL r = [48] then [48] else aheadL r ++ [48] := by
  by_cases h : leadL r = []
  · have h2 : leadL (r ++ [48]) = [] := lead_nil.2 (fun b hb => by
      rcases List.mem_append.1 hb with hb | hb
      · exact lead_nil.1 h b hb
      · simpa using hb)
    rw [aheadL_eq, aheadL_eq, if_pos h2, if_pos h, if_pos rfl]
  · have hx : ∃ b ∈ r, b ≠ 48 := Classical.byContradiction fun hn => h (lead_nil.2 fun b hb => Classical.byContradiction fun hne => hn ⟨b, hb, hne⟩)
    have h2 := lead_app (y := [48]) hx
    obtain ⟨c, q, e, hc⟩ := lead_head h
    rw [aheadL_eq, aheadL_eq, if_neg h, h2, if_neg (by simp), e, if_neg (by intro h5; injection h5 with h6 _; exact hc h6)]
theorem rowB_more {s : ByteArray} (h : digB s.data.toList = true) (hs : s.size < 4096) : rowB (s ++ (⟨#[48]⟩ : ByteArray)) = true := by
  unfold rowB
  rw [app_data, digB_app h (by decide), decide_eq_true (show (s ++ (⟨#[48]⟩ : ByteArray)).size ≤ 4096 by rw [ByteArray.size_append]; show s.size + 1 ≤ 4096; omega)]; rfl
theorem rowB_ahead {s : ByteArray} (h : digB s.data.toList = true) (hs : s.size < 4096) : rowB ((⟨#[48]⟩ : ByteArray) ++ s) = true := by
  unfold rowB
  rw [app_data, digB_app (by decide) h, decide_eq_true (show ((⟨#[48]⟩ : ByteArray) ++ s).size ≤ 4096 by rw [ByteArray.size_append]; show 1 + s.size ≤ 4096; omega)]; rfl
theorem rowB_of {s : ByteArray} (h : digB s.data.toList = true) (hs : s.size ≤ 4096) : rowB s = true := by
  unfold rowB; rw [h, decide_eq_true hs]; rfl
theorem wrapN (n : Nat) (h : n ≤ 4096) : wrap64 (n : Int) = (n : Int) := by unfold wrap64; omega
theorem noughts_row (W : World) (c : Int) (n : Bool) (a b : ByteArray) (e : Int) (p : Bool) (he : -9223372036854775808 ≤ e ∧ e ≤ 9223372036854775807) (ha : a.size ≤ 140737488351232) (hb : b.size ≤ 140737488351232) :
    Calls Tryd.prog 5 #[.agg #[.int .i64 c, .bool n, .string a, .string b, .int .i64 e, .bool p]] W fun e' w' => e' = .returned (.bool true) ∧ Below W.heap.size W w' := by
  refine L.quipulaw08_OperandNoughts.calls 3 c n a b e p true W ?_
  have hJt : ∀ x1 x2 x3 x4 x5 x6, L.quipulaw08_OperandNoughts.j0 3 true c n a b e p x1 x2 x3 x4 x5 x6 = some true := fun _ _ _ _ _ _ => by simp only [L.quipulaw08_OperandNoughts.j0]; rfl
  have h3 : opOf.f c n a b e p = some (ofP c n a b e p) := if_pos (fits_of' ha hb he)
  unfold L.quipulaw08_OperandNoughts.f quipulaw08_awake.f
  rw [h3]
  simp only [Option.bind_some, if_true]
  unfold ofP
  by_cases hg0 : ¬ (mayR c n a b e = true ∧ c = 0 ∧ ¬ (p = true ∧ e < 0))
  · rw [if_neg hg0, if_neg (by decide), hJt]
  have hg := Classical.not_not.1 hg0
  rw [if_pos hg]
  obtain ⟨g1, rfl, g3⟩ := hg
  rw [if_pos (show (okOps a.data.toList b.data.toList (expP e p)).2.2.2.2.2.2 = 0 from rfl)]
  cases p with
  | true => rw [if_pos rfl, hJt]
  | false =>
  rw [if_neg (by simp)]
  by_cases hb4 : (b.size : Int) ≥ 4096
  · rw [if_pos hb4, hJt]
  rw [if_neg hb4]
  by_cases ha4 : (a.size : Int) ≥ 4096
  · rw [decide_eq_true ha4, hJt]
  rw [decide_eq_false ha4]
  obtain ⟨s1, s2, s3, s4, s5, s6, s7⟩ := may_size g1
  have z48 : (⟨#[48]⟩ : ByteArray).size = 1 := rfl
  have m1 : mayR 0 n a (b ++ (⟨#[48]⟩ : ByteArray)) e = true := by
    unfold mayR
    rw [decide_eq_true s3, decide_eq_true s4, if_pos rfl, rowB_of s5 s1, rowB_more s6 (by omega), ByteArray.size_append, z48, beq_eq_false_iff_ne.2 (by omega)]; rfl
  have m2 : mayR 0 (!n) ((⟨#[48]⟩ : ByteArray) ++ a) b e = true := by
    unfold mayR
    rw [decide_eq_true s3, decide_eq_true s4, if_pos rfl, rowB_of s6 s2, rowB_ahead s5 (by omega), ByteArray.size_append, z48, beq_eq_false_iff_ne.2 (by omega)]; rfl
  have o1 : opOf.f 0 n a (b ++ (⟨#[48]⟩ : ByteArray)) e false = some (okOps a.data.toList (b.data.toList ++ [48]) 0) := by
    unfold opOf.f ofP
    rw [if_pos (fits_of' (by omega) (by rw [ByteArray.size_append, z48]; omega) he), if_pos ⟨m1, rfl, by simp⟩, app_data]; rfl
  have o2 : opOf.f 0 (!n) ((⟨#[48]⟩ : ByteArray) ++ a) b e false = some (okOps (48 :: a.data.toList) b.data.toList 0) := by
    unfold opOf.f ofP
    rw [if_pos (fits_of' (by rw [ByteArray.size_append, z48]; omega) (by omega) he), if_pos ⟨m2, rfl, by simp⟩, app_data]; rfl
  simp only [L.quipulaw08_OperandNoughts.j0]
  rw [if_neg (by simp), if_pos (by omega), if_pos (by omega), o1, o2]
  simp only [Option.bind_some]
  have eE : expP e false = 0 := rfl
  rw [eE]
  have hla : a.data.toList.length ≤ 4096 := by rw [slen]; exact s1
  have hlb : b.data.toList.length ≤ 4096 := by rw [slen]; exact s2
  generalize a.data.toList = la at *
  generalize b.data.toList = lb at *
  have w1 : wrap64 ((lb.length : Int) + 1) = ((lb ++ [48]).length : Int) := by rw [List.length_append]; show _ = ((lb.length + 1 : Nat) : Int); unfold wrap64; omega
  have w2 : wrap64 (((lb ++ [48]).length : Int) - 1) = (lb.length : Int) := by rw [List.length_append]; show wrap64 (((lb.length + 1 : Nat) : Int) - 1) = _; unfold wrap64; omega
  have k0 : okOps la lb 0 = (mkS (aheadL la), (lb.length : Int), ((bareL lb).length : Int), mkS (aheadL lb), mkS (aheadL (bareL lb)), 0, 0) := by unfold okOps wholeL; simp
  have k1 : okOps la (lb ++ [48]) 0 = (mkS (aheadL la), ((lb ++ [48]).length : Int), ((bareL lb).length : Int), mkS (aheadL (lb ++ [48])), mkS (aheadL (bareL lb)), 0, 0) := by unfold okOps wholeL; simp [bare_zero]
  have k2 : okOps (48 :: la) lb 0 = (mkS (aheadL la), (lb.length : Int), ((bareL lb).length : Int), mkS (aheadL lb), mkS (aheadL (bareL lb)), 0, 0) := by unfold okOps wholeL; simp [ahead_zero]
  rw [k0, k1, k2]
  simp only [w1]
  have hF : (mkS (aheadL lb)).toList = aheadL lb := by rw [toList_data, mkS_data]
  have hal := aheadL_le lb
  rw [ahead_more]
  by_cases h7 : aheadL lb = [48]
  · rw [if_pos (by rw [hF]; exact h7), if_pos h7]
    simp only [L.quipulaw08_OperandNoughts.j1, L.quipulaw08_OperandNoughts.j2]
    rw [if_pos trivial, if_pos trivial]
    rw [h7]
    simp [w2, wrapN lb.length hlb, toList_data, mkS_data]
  · have hz := mkS_size (aheadL lb)
    rw [if_neg (by rw [hF]; exact h7), if_neg h7, if_pos (by rw [hz]; omega)]
    have e1 : (mkS (aheadL lb) ++ (⟨#[48]⟩ : ByteArray)) = mkS (aheadL lb ++ [48]) := by
      apply ByteArray.ext
      apply Array.ext'
      rw [app_data, mkS_data, mkS_data]
    rw [e1]
    have hne : aheadL lb ≠ [] := by
      rw [aheadL_eq]; split
      · simp
      · assumption
    have hz2 := mkS_size (aheadL lb ++ [48])
    have hlen : (aheadL lb ++ [48]).length = (aheadL lb).length + 1 := by simp
    have w3 : wrap64 (((mkS (aheadL lb ++ [48])).size : Int) - 1) = ((aheadL lb).length : Int) := by rw [hz2, hlen]; unfold wrap64; omega
    have e2 : ((mkS (aheadL lb ++ [48])).extract 0 (aheadL lb).length).toList = aheadL lb := by rw [toList_data, extract_front, mkS_data, List.take_left' rfl]
    simp only [L.quipulaw08_OperandNoughts.j1, L.quipulaw08_OperandNoughts.j2, w3, Int.toNat_natCast, e2]
    rw [if_pos trivial, if_pos trivial]
    have h8 : ¬ aheadL lb ++ [48] = [48] := fun h => hne (by have := congrArg List.length h; rw [hlen] at this; exact List.length_eq_zero_iff.1 (by simpa using this))
    simp [w2, wrapN lb.length hlb, toList_data, mkS_data, h8, hz2]
    try omega
end Go.Proofs.YtfgjfkocbennnaaDoor.Q
