import Derived.Test.YtnkggincckdoiaaDoorKs24
import Derived.Test.YtnkggincckdoiaaDoorKs32
import Derived.Test.YtnkggincckdoiaaDoorKs1
import Derived.Test.YtnkggincckdoiaaDoorKs25
namespace Go.Proofs.YtnkggincckdoiaaDoor.Q
open Go.RowKit Go.Proofs.YtnkggincckdoiaaDoorW.PrintWords Go.Proofs.YtnkggincckdoiaaDoorW.PrintLast Go.Proofs.YtnkggincckdoiaaDoorW.PrintMore
attribute [local go_sem] max2_int min2_int max_two min_two max_three min_three max_four min_four   -- for this text's walks alone
set_option linter.unusedVariables false
set_option linter.unusedSimpArgs false
mutual
def quipulaw09_RuleRests.j0 : Nat → ByteArray → ByteArray → Int → Bool → ByteArray → Int → Int → ByteArray → ByteArray → Int → Option (Bool)
  | 0, _, _, _, _, _, _, _, _, _, _ => none
  | k + 1, x0, x1, x7, x56, x336000, x336001, x336002, x336003, x336004, x336005 => if x56 = true then (some true) else (quipulaw09_RuleRests.l0 k x0 x1 x7 0 x336000 x336001 x336002 x336003 x336004 x336005)
def quipulaw09_RuleRests.l0 : Nat → ByteArray → ByteArray → Int → Int → ByteArray → Int → Int → ByteArray → ByteArray → Int → Option (Bool)
  | 0, _, _, _, _, _, _, _, _, _, _ => none
  | k + 1, x0, x1, x7, x9, x336000, x336001, x336002, x336003, x336004, x336005 => if x9 < (x1.size : Int) then (if 0 ≤ x9 then (if (bt x1 x9) < 48 then (some true) else (if (bt x1 x9) > 57 then (some true) else (quipulaw09_RuleRests.l0 k x0 x1 x7 (wrap64 (x9 + 1)) x336000 x336001 x336002 x336003 x336004 x336005))) else (none)) else (quipulaw09_RuleRests.l1 k x0 x1 x7 0 x336000 x336001 x336002 x336003 x336004 x336005)
def quipulaw09_RuleRests.l1 : Nat → ByteArray → ByteArray → Int → Int → ByteArray → Int → Int → ByteArray → ByteArray → Int → Option (Bool)
  | 0, _, _, _, _, _, _, _, _, _, _ => none
  | k + 1, x0, x1, x7, x10, x336000, x336001, x336002, x336003, x336004, x336005 => if x10 < (x0.size : Int) then (if 0 ≤ x10 then (if (bt x0 x10) < 48 then (if (bt x0 x10) = 44 then (quipulaw09_RuleRests.l1 k x0 x1 x7 (wrap64 (x10 + 1)) x336000 x336001 x336002 x336003 x336004 x336005) else (if (bt x0 x10) = 46 then (quipulaw09_RuleRests.l1 k x0 x1 x7 (wrap64 (x10 + 1)) x336000 x336001 x336002 x336003 x336004 x336005) else (if (bt x0 x10) = 32 then (quipulaw09_RuleRests.l1 k x0 x1 x7 (wrap64 (x10 + 1)) x336000 x336001 x336002 x336003 x336004 x336005) else (some true)))) else (if (bt x0 x10) > 57 then (if (bt x0 x10) = 44 then (quipulaw09_RuleRests.l1 k x0 x1 x7 (wrap64 (x10 + 1)) x336000 x336001 x336002 x336003 x336004 x336005) else (if (bt x0 x10) = 46 then (quipulaw09_RuleRests.l1 k x0 x1 x7 (wrap64 (x10 + 1)) x336000 x336001 x336002 x336003 x336004 x336005) else (if (bt x0 x10) = 32 then (quipulaw09_RuleRests.l1 k x0 x1 x7 (wrap64 (x10 + 1)) x336000 x336001 x336002 x336003 x336004 x336005) else (some true)))) else (quipulaw09_RuleRests.l1 k x0 x1 x7 (wrap64 (x10 + 1)) x336000 x336001 x336002 x336003 x336004 x336005))) else (none)) else (quipulaw09_RuleRests.l2 k x0 x1 x7 (⟨#[49]⟩ : ByteArray) 0 x336000 x336001 x336002 x336003 x336004 x336005)
def quipulaw09_RuleRests.l2 : Nat → ByteArray → ByteArray → Int → ByteArray → Int → ByteArray → Int → Int → ByteArray → ByteArray → Int → Option (Bool)
  | 0, _, _, _, _, _, _, _, _, _, _, _ => none
  | k + 1, x0, x1, x7, x11, x12, x336000, x336001, x336002, x336003, x336004, x336005 => if x12 < x7 then (if x11.size + 1 ≤ 9223372036854775807 then (quipulaw09_RuleRests.l2 k x0 x1 x7 (x11 ++ (⟨#[48]⟩ : ByteArray)) (wrap64 (x12 + 1)) x336000 x336001 x336002 x336003 x336004 x336005) else (none)) else (if x336000.toList = ([48] : List UInt8) then (quipulaw09_RuleRests.j4 k x0 x1 x7 x11 x336000 x336001 x336002 x336003 x336004 x336005 (⟨#[]⟩ : ByteArray) x336001 x336002 x336003 x336004 x336005) else (quipulaw09_RuleRests.j4 k x0 x1 x7 x11 x336000 x336001 x336002 x336003 x336004 x336005 x336000 x336001 x336002 x336003 x336004 x336005))
def quipulaw09_RuleRests.j4 : Nat → ByteArray → ByteArray → Int → ByteArray → ByteArray → Int → Int → ByteArray → ByteArray → Int → ByteArray → Int → Int → ByteArray → ByteArray → Int → Option (Bool)
  | 0, _, _, _, _, _, _, _, _, _, _, _, _, _, _, _, _ => none
  | k + 1, x0, x1, x7, x11, x336000, x336001, x336002, x336003, x336004, x336005, x339000, x339001, x339002, x339003, x339004, x339005 => quipulaw09_RuleRests.l3 k x0 x1 x7 x11 x336000 x336001 x336002 x336003 x336004 x336005 x339000 x339001 x339002 x339003 x339004 x339005
def quipulaw09_RuleRests.l3 : Nat → ByteArray → ByteArray → Int → ByteArray → ByteArray → Int → Int → ByteArray → ByteArray → Int → ByteArray → Int → Int → ByteArray → ByteArray → Int → Option (Bool)
  | 0, _, _, _, _, _, _, _, _, _, _, _, _, _, _, _, _ => none
  | k + 1, x0, x1, x7, x11, x336000, x336001, x336002, x336003, x336004, x336005, x339000, x339001, x339002, x339003, x339004, x339005 => if (x339000.size : Int) < x7 then (if 1 + x339000.size ≤ 9223372036854775807 then (quipulaw09_RuleRests.l3 k x0 x1 x7 x11 x336000 x336001 x336002 x336003 x336004 x336005 ((⟨#[48]⟩ : ByteArray) ++ x339000) x339001 x339002 x339003 x339004 x339005) else (none)) else (if x1.size + x339000.size ≤ 9223372036854775807 then (quipulaw09_RuleRests.l4 k x0 x11 0 x336000 x336001 x336002 x336003 x336004 x336005 (x1 ++ x339000) x339001 x339002 x339003 x339004 x339005) else (none))
def quipulaw09_RuleRests.l4 : Nat → ByteArray → ByteArray → Int → ByteArray → Int → Int → ByteArray → ByteArray → Int → ByteArray → Int → Int → ByteArray → ByteArray → Int → Option (Bool)
  | 0, _, _, _, _, _, _, _, _, _, _, _, _, _, _, _ => none
  | k + 1, x0, x11, x14, x336000, x336001, x336002, x336003, x336004, x336005, x339000, x339001, x339002, x339003, x339004, x339005 => if x14 < 2 then (if 0 ≤ x14 then (if 5 + (Utf8.encode (bt (⟨#[105, 110]⟩ : ByteArray) x14)).size ≤ 9223372036854775807 then (if ((⟨#[102, 101, 119, 58, 32]⟩ : ByteArray) ++ (Utf8.encode (bt (⟨#[105, 110]⟩ : ByteArray) x14))).size + 3 ≤ 9223372036854775807 then (if (((⟨#[102, 101, 119, 58, 32]⟩ : ByteArray) ++ (Utf8.encode (bt (⟨#[105, 110]⟩ : ByteArray) x14))) ++ (⟨#[32, 37, 32]⟩ : ByteArray)).size + x11.size ≤ 9223372036854775807 then (if ((((⟨#[102, 101, 119, 58, 32]⟩ : ByteArray) ++ (Utf8.encode (bt (⟨#[105, 110]⟩ : ByteArray) x14))) ++ (⟨#[32, 37, 32]⟩ : ByteArray)) ++ x11).size + 3 ≤ 9223372036854775807 then (if (((((⟨#[102, 101, 119, 58, 32]⟩ : ByteArray) ++ (Utf8.encode (bt (⟨#[105, 110]⟩ : ByteArray) x14))) ++ (⟨#[32, 37, 32]⟩ : ByteArray)) ++ x11) ++ (⟨#[32, 61, 32]⟩ : ByteArray)).size + x0.size ≤ 9223372036854775807 then ((rule_Pick.f ((((((⟨#[102, 101, 119, 58, 32]⟩ : ByteArray) ++ (Utf8.encode (bt (⟨#[105, 110]⟩ : ByteArray) x14))) ++ (⟨#[32, 37, 32]⟩ : ByteArray)) ++ x11) ++ (⟨#[32, 61, 32]⟩ : ByteArray)) ++ x0) x336000 x336001 x336002 x336003 x336004 x336005).bind fun bt339 => ((rule_Pick.f ((((((⟨#[102, 101, 119, 58, 32]⟩ : ByteArray) ++ (Utf8.encode (bt (⟨#[105, 110]⟩ : ByteArray) x14))) ++ (⟨#[32, 37, 32]⟩ : ByteArray)) ++ x11) ++ (⟨#[32, 61, 32]⟩ : ByteArray)) ++ x0) x339000 x339001 x339002 x339003 x339004 x339005).bind fun bt341 => (if bt339.2 = bt341.2 then (if bt339.1 = bt341.1 then (quipulaw09_RuleRests.l4 k x0 x11 (wrap64 (x14 + 1)) x336000 x336001 x336002 x336003 x336004 x336005 x339000 x339001 x339002 x339003 x339004 x339005) else (some false)) else (some false)))) else (none)) else (none)) else (none)) else (none)) else (none)) else (none)) else (some true)
end
def quipulaw09_RuleRests.f (k : Nat) (a0 : ByteArray) (a1 : ByteArray) (a2_0 : Int) (a2_1 : ByteArray) (a2_2 : Int) (a2_3 : Int) (a2_4 : ByteArray) (a2_5 : ByteArray) (a2_6 : Int) : Option (Bool) := (quipulaw09_awake.f).bind fun t336 => (if t336 = true then (if a2_0 < 1 then (quipulaw09_RuleRests.j0 k a0 a1 a2_0 true a2_1 a2_2 a2_3 a2_4 a2_5 a2_6) else (if a2_0 > 8 then (quipulaw09_RuleRests.j0 k a0 a1 a2_0 true a2_1 a2_2 a2_3 a2_4 a2_5 a2_6) else ((quipuref08_May.f a2_1 a2_2 a2_3 a2_4 a2_5 a2_6).bind fun t337 => (if t337 = true then (if (a2_1.size : Int) > 4000 then (quipulaw09_RuleRests.j0 k a0 a1 a2_0 true a2_1 a2_2 a2_3 a2_4 a2_5 a2_6) else (if (a1.size : Int) > 4000 then (quipulaw09_RuleRests.j0 k a0 a1 a2_0 true a2_1 a2_2 a2_3 a2_4 a2_5 a2_6) else (if a1.toList = ([] : List UInt8) then (quipulaw09_RuleRests.j0 k a0 a1 a2_0 true a2_1 a2_2 a2_3 a2_4 a2_5 a2_6) else (if 0 < (a1.size : Int) then (quipulaw09_RuleRests.j0 k a0 a1 a2_0 ((bt a1 0) == 48) a2_1 a2_2 a2_3 a2_4 a2_5 a2_6) else (none))))) else (quipulaw09_RuleRests.j0 k a0 a1 a2_0 true a2_1 a2_2 a2_3 a2_4 a2_5 a2_6))))) else (some false))
theorem lq1 {e : ByteArray} (h : ((⟨#[102, 101, 119, 58, 32]⟩ : ByteArray) ++ e).size + 3 ≤ 9223372036854775807) : (9223372036854775807 < 5 + e.size + 3) = False := eq_false (by rw [ByteArray.size_append, show (⟨#[102, 101, 119, 58, 32]⟩ : ByteArray).size = 5 from rfl] at h; omega)
theorem lq2 {e m : ByteArray} (h : (((⟨#[102, 101, 119, 58, 32]⟩ : ByteArray) ++ e) ++ (⟨#[32, 37, 32]⟩ : ByteArray)).size + m.size ≤ 9223372036854775807) : (9223372036854775807 < 5 + e.size + 3 + m.size) = False := eq_false (by rw [ByteArray.size_append, ByteArray.size_append, show (⟨#[102, 101, 119, 58, 32]⟩ : ByteArray).size = 5 from rfl, show (⟨#[32, 37, 32]⟩ : ByteArray).size = 3 from rfl] at h; omega)
theorem lq3 {e m : ByteArray} (h : ((((⟨#[102, 101, 119, 58, 32]⟩ : ByteArray) ++ e) ++ (⟨#[32, 37, 32]⟩ : ByteArray)) ++ m).size + 3 ≤ 9223372036854775807) : (9223372036854775807 < 5 + e.size + 3 + m.size + 3) = False := eq_false (by rw [ByteArray.size_append, ByteArray.size_append, ByteArray.size_append, show (⟨#[102, 101, 119, 58, 32]⟩ : ByteArray).size = 5 from rfl, show (⟨#[32, 37, 32]⟩ : ByteArray).size = 3 from rfl] at h; omega)
theorem lq4 {e m a : ByteArray} (h : (((((⟨#[102, 101, 119, 58, 32]⟩ : ByteArray) ++ e) ++ (⟨#[32, 37, 32]⟩ : ByteArray)) ++ m) ++ (⟨#[32, 61, 32]⟩ : ByteArray)).size + a.size ≤ 9223372036854775807) : (9223372036854775807 < 5 + e.size + 3 + m.size + 3 + a.size) = False := eq_false (by rw [ByteArray.size_append, ByteArray.size_append, ByteArray.size_append, ByteArray.size_append, show (⟨#[102, 101, 119, 58, 32]⟩ : ByteArray).size = 5 from rfl, show (⟨#[32, 37, 32]⟩ : ByteArray).size = 3 from rfl, show (⟨#[32, 61, 32]⟩ : ByteArray).size = 3 from rfl] at h; omega)
set_option maxHeartbeats 8000000 in
set_option maxRecDepth 100000 in
theorem quipulaw09_RuleRests.calls (k : Nat) (a0 : ByteArray) (a1 : ByteArray) (a2_0 : Int) (a2_1 : ByteArray) (a2_2 : Int) (a2_3 : Int) (a2_4 : ByteArray) (a2_5 : ByteArray) (a2_6 : Int) (w : World) (hG : Gd w) (h : quipulaw09_RuleRests.f k a0 a1 a2_0 a2_1 a2_2 a2_3 a2_4 a2_5 a2_6 = some true) :
    Calls Tryd.prog 7 #[.string a0, .string a1, .agg #[.int .i64 a2_0, .string a2_1, .int .i64 a2_2, .int .i64 a2_3, .string a2_4, .string a2_5, .int .i64 a2_6]] w fun e w' => e = .returned (.bool true) ∧ Below w.heap.size w w' := by
  have hu42 := Tryd.underlying42
  have hu29 := Tryd.underlying29
  have HB := Aside0.mk (Below.refl w.heap.size w)
  have HG := Aside0.mk hG
  clear hG
  have H : ((quipulaw09_awake.f).bind fun t336 => (if t336 = true then (if a2_0 < 1 then (quipulaw09_RuleRests.j0 k a0 a1 a2_0 true a2_1 a2_2 a2_3 a2_4 a2_5 a2_6) else (if a2_0 > 8 then (quipulaw09_RuleRests.j0 k a0 a1 a2_0 true a2_1 a2_2 a2_3 a2_4 a2_5 a2_6) else ((quipuref08_May.f a2_1 a2_2 a2_3 a2_4 a2_5 a2_6).bind fun t337 => (if t337 = true then (if (a2_1.size : Int) > 4000 then (quipulaw09_RuleRests.j0 k a0 a1 a2_0 true a2_1 a2_2 a2_3 a2_4 a2_5 a2_6) else (if (a1.size : Int) > 4000 then (quipulaw09_RuleRests.j0 k a0 a1 a2_0 true a2_1 a2_2 a2_3 a2_4 a2_5 a2_6) else (if a1.toList = ([] : List UInt8) then (quipulaw09_RuleRests.j0 k a0 a1 a2_0 true a2_1 a2_2 a2_3 a2_4 a2_5 a2_6) else (if 0 < (a1.size : Int) then (quipulaw09_RuleRests.j0 k a0 a1 a2_0 ((bt a1 0) == 48) a2_1 a2_2 a2_3 a2_4 a2_5 a2_6) else (none))))) else (quipulaw09_RuleRests.j0 k a0 a1 a2_0 true a2_1 a2_2 a2_3 a2_4 a2_5 a2_6))))) else (some false))) = some true := h
  clear h
  replace H := Option.bind_eq_some_iff.mp H
  obtain ⟨t336, A40, H⟩ := H
  replace H : (if t336 = true then (if a2_0 < 1 then (quipulaw09_RuleRests.j0 k a0 a1 a2_0 true a2_1 a2_2 a2_3 a2_4 a2_5 a2_6) else (if a2_0 > 8 then (quipulaw09_RuleRests.j0 k a0 a1 a2_0 true a2_1 a2_2 a2_3 a2_4 a2_5 a2_6) else ((quipuref08_May.f a2_1 a2_2 a2_3 a2_4 a2_5 a2_6).bind fun t337 => (if t337 = true then (if (a2_1.size : Int) > 4000 then (quipulaw09_RuleRests.j0 k a0 a1 a2_0 true a2_1 a2_2 a2_3 a2_4 a2_5 a2_6) else (if (a1.size : Int) > 4000 then (quipulaw09_RuleRests.j0 k a0 a1 a2_0 true a2_1 a2_2 a2_3 a2_4 a2_5 a2_6) else (if a1.toList = ([] : List UInt8) then (quipulaw09_RuleRests.j0 k a0 a1 a2_0 true a2_1 a2_2 a2_3 a2_4 a2_5 a2_6) else (if 0 < (a1.size : Int) then (quipulaw09_RuleRests.j0 k a0 a1 a2_0 ((bt a1 0) == 48) a2_1 a2_2 a2_3 a2_4 a2_5 a2_6) else (none))))) else (quipulaw09_RuleRests.j0 k a0 a1 a2_0 true a2_1 a2_2 a2_3 a2_4 a2_5 a2_6))))) else (some false)) = some true := H
  have A4 := Aside0.mk A40
  clear A40
  by_cases c5 : t336 = true
  · subst c5
    have H1 : (if a2_0 < 1 then (quipulaw09_RuleRests.j0 k a0 a1 a2_0 true a2_1 a2_2 a2_3 a2_4 a2_5 a2_6) else (if a2_0 > 8 then (quipulaw09_RuleRests.j0 k a0 a1 a2_0 true a2_1 a2_2 a2_3 a2_4 a2_5 a2_6) else ((quipuref08_May.f a2_1 a2_2 a2_3 a2_4 a2_5 a2_6).bind fun t337 => (if t337 = true then (if (a2_1.size : Int) > 4000 then (quipulaw09_RuleRests.j0 k a0 a1 a2_0 true a2_1 a2_2 a2_3 a2_4 a2_5 a2_6) else (if (a1.size : Int) > 4000 then (quipulaw09_RuleRests.j0 k a0 a1 a2_0 true a2_1 a2_2 a2_3 a2_4 a2_5 a2_6) else (if a1.toList = ([] : List UInt8) then (quipulaw09_RuleRests.j0 k a0 a1 a2_0 true a2_1 a2_2 a2_3 a2_4 a2_5 a2_6) else (if 0 < (a1.size : Int) then (quipulaw09_RuleRests.j0 k a0 a1 a2_0 ((bt a1 0) == 48) a2_1 a2_2 a2_3 a2_4 a2_5 a2_6) else (none))))) else (quipulaw09_RuleRests.j0 k a0 a1 a2_0 true a2_1 a2_2 a2_3 a2_4 a2_5 a2_6))))) = some true := by rw [if_pos rfl] at H; exact H
    clear H
    have H := H1
    clear H1
    have HC6 := Aside0.mk H
    clear H
    go_enter Tryd.func7, Tryd.ntmps7
    try go_wp2_with (first | ((with_reducible refine gate_dst (N := 5) rfl ?_); (try (refine gate_guard (by rfl) ?_; dsimp only)); refine box_event ?hg (N := 5) ?hd (cs := #[.int .i64 a2_0, .string a2_1, .int .i64 a2_2, .int .i64 a2_3, .string a2_4, .string a2_5, .int .i64 a2_6]) (t := 42) ?hr ?_; (case hd => rfl); (case hg => rfl); (case hr => first | (go_simp; done) | (go_simp; rfl)); intro gb334 hg w7 hbox hb; have n0_ := Aside0.mk (below_step (by repeat (first | (with_reducible first | exact HB.out | apply below_alloc | apply pw_below_drewN | apply below_drew1) | exact HB.out)) hb); have n1_ := Aside0.mk (hbox); have n2_ := Aside0.mk ((by rw [hg]; exact (below_size (by repeat (first | (with_reducible first | exact HB.out | apply below_alloc | apply pw_below_drewN | apply below_drew1) | exact HB.out))) : w.heap.size ≤ gb334)); have n3_ := Aside0.mk ((by rw [hg]; exact (below_size (by repeat (first | (with_reducible first | exact HB.out | apply below_alloc | apply pw_below_drewN | apply below_drew1) | exact HB.out))) : w.heap.size ≤ gb334)); clear HB; have HB := n0_; have BK334 := n1_; have GW334 := n2_; have GE334 := n3_; clear n0_ n1_ n2_ n3_; clear hb hbox hg))
    have n0_ := Aside0.mk (blk_drew BK334.out)
    have n1_ := Aside0.mk (below_drew1 HB.out)
    clear BK334
    clear HB
    have BK334 := n0_
    have HB := n1_
    clear n0_ n1_
    refine start_ (n := 7) (S := fun w' => w'.cell? ⟨gb334, 0, none⟩ = some (.int .i64 a2_0) ∧ w'.cell? ⟨gb334, 1, none⟩ = some (.string a2_1) ∧ w'.cell? ⟨gb334, 2, none⟩ = some (.int .i64 a2_2) ∧ w'.cell? ⟨gb334, 3, none⟩ = some (.int .i64 a2_3) ∧ w'.cell? ⟨gb334, 4, none⟩ = some (.string a2_4) ∧ w'.cell? ⟨gb334, 5, none⟩ = some (.string a2_5) ∧ w'.cell? ⟨gb334, 6, none⟩ = some (.int .i64 a2_6)) (ds := []) #[false, false, false, false, false, false, false] (by kernel_rfl) rfl rfl ⟨(blk_cell BK334.out 0).trans rfl, (blk_cell BK334.out 1).trans rfl, (blk_cell BK334.out 2).trans rfl, (blk_cell BK334.out 3).trans rfl, (blk_cell BK334.out 4).trans rfl, (blk_cell BK334.out 5).trans rfl, (blk_cell BK334.out 6).trans rfl⟩ (fun hHeld => ?_)
    generalize w7.drew = w8 at BK334 HB hHeld ⊢
    refine pure_ (i := 0) (N := some 20) (v := ?_) (a' := ?_) #[true, false, false, false, false, false, false] rfl rfl (by kernel_rfl) (fun _ _ _ h => h) (Or.inl ⟨by rfl, ?_⟩) ?_ ?_
    rotate_left
    · intro w'
      go_simp
      with_reducible rfl
    rotate_left
    · simp only [Act.put, List.setIfInBounds_toArray, List.set_cons_zero, List.set_cons_succ, i64_w, i32_w]
      rfl
    refine pure_ (i := 2) (N := some 22) (v := ?_) (a' := ?_) #[true, false, true, false, false, false, false] rfl rfl (by kernel_rfl) (fun _ _ _ h => h) (Or.inl ⟨by rfl, ?_⟩) ?_ ?_
    rotate_left
    · intro w'
      go_simp
      with_reducible rfl
    rotate_left
    · simp only [Act.put, List.setIfInBounds_toArray, List.set_cons_zero, List.set_cons_succ, i64_w, i32_w]
      rfl
    refine take_ (i := 1) (N := some 21) (v := ?_) (a' := ?_) #[true, true, true, false, false, false, false] rfl rfl (by kernel_rfl) (fun _ _ _ h => h) (Or.inl ⟨by rfl, ?_⟩) hHeld ?_ ?_
    rotate_left
    · rintro w' ⟨s0, s1, s2, s3, s4, s5, s6⟩
      go_simp
      with_reducible rfl
    rotate_left
    · simp only [Act.put, List.setIfInBounds_toArray, List.set_cons_zero, List.set_cons_succ, i64_w, i32_w]
      rfl
    refine take_ (i := 3) (N := some 23) (v := ?_) (a' := ?_) #[true, true, true, true, false, false, false] rfl rfl (by kernel_rfl) (fun _ _ _ h => h) (Or.inl ⟨by rfl, ?_⟩) hHeld ?_ ?_
    rotate_left
    · rintro w' ⟨s0, s1, s2, s3, s4, s5, s6⟩
      go_simp
      with_reducible rfl
    rotate_left
    · simp only [Act.put, List.setIfInBounds_toArray, List.set_cons_zero, List.set_cons_succ, i64_w, i32_w]
      rfl
    refine one_ (i := 4) (N := some 8) #[true, true, true, true, true, false, false] rfl rfl (by kernel_rfl) (by decide) (fun K hK => ?_)
    refine box_step ?hg (N := 8) ?hd (cs := #[.string (⟨#[]⟩ : ByteArray), .int .i64 0, .int .i64 0, .string (⟨#[]⟩ : ByteArray), .string (⟨#[]⟩ : ByteArray), .int .i64 0]) (t := 29) ?hr ?_; (case hd => rfl); (case hg => rfl); (case hr => first | (go_simp; done) | (go_simp; rfl))
    intro gb335 hg w9 hbox hb
    have n0_ := Aside0.mk (blk_below (g := gb334) (o := .cells #[.int .i64 a2_0, .string a2_1, .int .i64 a2_2, .int .i64 a2_3, .string a2_4, .string a2_5, .int .i64 a2_6] 42 (0, 0)) (by (with_reducible repeat (first | refine blk_drewN ?_ _ | refine blk_drew ?_ | refine blk_alloc ?_ _)); exact BK334.out) hb)
    have n1_ := Aside0.mk (below_step (by repeat (first | (with_reducible first | exact HB.out | apply below_alloc | apply pw_below_drewN | apply below_drew1 | refine below_set ?_ GE334.out) | exact HB.out)) hb)
    have n2_ := Aside0.mk (hbox)
    have n3_ := Aside0.mk ((by rw [hg]; exact (below_size (by repeat (first | (with_reducible first | exact HB.out | apply below_alloc | apply pw_below_drewN | apply below_drew1 | refine below_set ?_ GE334.out) | exact HB.out))) : w.heap.size ≤ gb335))
    have n4_ := Aside0.mk ((by rw [hg]; exact (below_size (by repeat (first | (with_reducible first | exact HB.out | apply below_alloc | apply pw_below_drewN | apply below_drew1 | refine below_set ?_ GE334.out) | exact HB.out))) : w.heap.size ≤ gb335))
    have n5_ := Aside0.mk ((by rw [hg]; exact Nat.ne_of_lt (blk_lt (g := gb334) (o := .cells #[.int .i64 a2_0, .string a2_1, .int .i64 a2_2, .int .i64 a2_3, .string a2_4, .string a2_5, .int .i64 a2_6] 42 (0, 0)) (by (with_reducible repeat (first | refine blk_drewN ?_ _ | refine blk_drew ?_ | refine blk_alloc ?_ _)); exact BK334.out)) : gb334 ≠ gb335))
    have n6_ := Aside0.mk ((by rw [hg]; exact Nat.ne_of_gt (blk_lt (g := gb334) (o := .cells #[.int .i64 a2_0, .string a2_1, .int .i64 a2_2, .int .i64 a2_3, .string a2_4, .string a2_5, .int .i64 a2_6] 42 (0, 0)) (by (with_reducible repeat (first | refine blk_drewN ?_ _ | refine blk_drew ?_ | refine blk_alloc ?_ _)); exact BK334.out)) : gb335 ≠ gb334))
    clear BK334
    clear HB
    have BK334 := n0_
    have HB := n1_
    have BK335 := n2_
    have GW335 := n3_
    have GE335 := n4_
    have NB334_335 := n5_
    have NB335_334 := n6_
    clear n0_ n1_ n2_ n3_ n4_ n5_ n6_
    clear hb hbox hg
    refine hK.out _ _ ⟨(blk_cell BK334.out 0).trans rfl, (blk_cell BK334.out 1).trans rfl, (blk_cell BK334.out 2).trans rfl, (blk_cell BK334.out 3).trans rfl, (blk_cell BK334.out 4).trans rfl, (blk_cell BK334.out 5).trans rfl, (blk_cell BK334.out 6).trans rfl⟩ (fun hHeld => ?_)
    clear hK K
    refine norm_ (a' := ?_) ?_ ?_
    rotate_left
    · show Act.put _ (some 8) _ = _
      simp only [Act.put, List.setIfInBounds_toArray, List.set_cons_zero, List.set_cons_succ, i64_w, i32_w]
      rfl
    refine pure_ (i := 5) (N := some 7) (v := ?_) (a' := ?_) #[true, true, true, true, true, true, false] rfl rfl (by kernel_rfl) (fun _ _ _ h => h) (Or.inl ⟨by rfl, ?_⟩) ?_ ?_
    rotate_left
    · intro w'
      go_simp
      with_reducible rfl
    rotate_left
    · simp only [Act.put, List.setIfInBounds_toArray, List.set_cons_zero, List.set_cons_succ, i64_w, i32_w]
      rfl
    refine one_ (i := 6) (N := none) #[true, true, true, true, true, true, true] rfl rfl (by kernel_rfl) (by decide) (fun K hK => ?_)
    have hs10 : w9.cell? ⟨gb335, 0, none⟩ = some (.string (⟨#[]⟩ : ByteArray)) := (blk_cell BK335.out 0).trans rfl
    have hfs10 := blk_frozen BK335.out 0
    have hns10_0 := NB334_335.out
    have hms10_0 := NB335_334.out
    have hs11 : w9.cell? ⟨gb335, 1, none⟩ = some (.int .i64 0) := (blk_cell BK335.out 1).trans rfl
    have hfs11 := blk_frozen BK335.out 1
    have hns11_0 := NB334_335.out
    have hms11_0 := NB335_334.out
    have hs12 : w9.cell? ⟨gb335, 2, none⟩ = some (.int .i64 0) := (blk_cell BK335.out 2).trans rfl
    have hfs12 := blk_frozen BK335.out 2
    have hns12_0 := NB334_335.out
    have hms12_0 := NB335_334.out
    have hs13 : w9.cell? ⟨gb335, 3, none⟩ = some (.string (⟨#[]⟩ : ByteArray)) := (blk_cell BK335.out 3).trans rfl
    have hfs13 := blk_frozen BK335.out 3
    have hns13_0 := NB334_335.out
    have hms13_0 := NB335_334.out
    have hs14 : w9.cell? ⟨gb335, 4, none⟩ = some (.string (⟨#[]⟩ : ByteArray)) := (blk_cell BK335.out 4).trans rfl
    have hfs14 := blk_frozen BK335.out 4
    have hns14_0 := NB334_335.out
    have hms14_0 := NB335_334.out
    have hs15 : w9.cell? ⟨gb335, 5, none⟩ = some (.int .i64 0) := (blk_cell BK335.out 5).trans rfl
    have hfs15 := blk_frozen BK335.out 5
    have hns15_0 := NB334_335.out
    have hms15_0 := NB335_334.out
    refine skip_ (w1 := ?_) (by rfl) rfl ?_ ?_
    rotate_left
    · go_simp
      rfl
    refine hK.out _ _ ⟨((cell_far (p := ⟨gb335, _, none⟩) NB334_335.out _).trans (((cell_far (p := ⟨gb335, _, none⟩) NB334_335.out _).trans (((cell_far (p := ⟨gb335, _, none⟩) NB334_335.out _).trans (((cell_far (p := ⟨gb335, _, none⟩) NB334_335.out _).trans (((cell_far (p := ⟨gb335, _, none⟩) NB334_335.out _).trans (((cell_far (p := ⟨gb335, _, none⟩) NB334_335.out _).trans (hHeld.1)))))))))))), ((cell_far (p := ⟨gb335, _, none⟩) NB334_335.out _).trans (((cell_far (p := ⟨gb335, _, none⟩) NB334_335.out _).trans (((cell_far (p := ⟨gb335, _, none⟩) NB334_335.out _).trans (((cell_far (p := ⟨gb335, _, none⟩) NB334_335.out _).trans (((cell_far (p := ⟨gb335, _, none⟩) NB334_335.out _).trans (((cell_far (p := ⟨gb335, _, none⟩) NB334_335.out _).trans (hHeld.2.1)))))))))))), ((cell_far (p := ⟨gb335, _, none⟩) NB334_335.out _).trans (((cell_far (p := ⟨gb335, _, none⟩) NB334_335.out _).trans (((cell_far (p := ⟨gb335, _, none⟩) NB334_335.out _).trans (((cell_far (p := ⟨gb335, _, none⟩) NB334_335.out _).trans (((cell_far (p := ⟨gb335, _, none⟩) NB334_335.out _).trans (((cell_far (p := ⟨gb335, _, none⟩) NB334_335.out _).trans (hHeld.2.2.1)))))))))))), ((cell_far (p := ⟨gb335, _, none⟩) NB334_335.out _).trans (((cell_far (p := ⟨gb335, _, none⟩) NB334_335.out _).trans (((cell_far (p := ⟨gb335, _, none⟩) NB334_335.out _).trans (((cell_far (p := ⟨gb335, _, none⟩) NB334_335.out _).trans (((cell_far (p := ⟨gb335, _, none⟩) NB334_335.out _).trans (((cell_far (p := ⟨gb335, _, none⟩) NB334_335.out _).trans (hHeld.2.2.2.1)))))))))))), ((cell_far (p := ⟨gb335, _, none⟩) NB334_335.out _).trans (((cell_far (p := ⟨gb335, _, none⟩) NB334_335.out _).trans (((cell_far (p := ⟨gb335, _, none⟩) NB334_335.out _).trans (((cell_far (p := ⟨gb335, _, none⟩) NB334_335.out _).trans (((cell_far (p := ⟨gb335, _, none⟩) NB334_335.out _).trans (((cell_far (p := ⟨gb335, _, none⟩) NB334_335.out _).trans (hHeld.2.2.2.2.1)))))))))))), ((cell_far (p := ⟨gb335, _, none⟩) NB334_335.out _).trans (((cell_far (p := ⟨gb335, _, none⟩) NB334_335.out _).trans (((cell_far (p := ⟨gb335, _, none⟩) NB334_335.out _).trans (((cell_far (p := ⟨gb335, _, none⟩) NB334_335.out _).trans (((cell_far (p := ⟨gb335, _, none⟩) NB334_335.out _).trans (((cell_far (p := ⟨gb335, _, none⟩) NB334_335.out _).trans (hHeld.2.2.2.2.2.1)))))))))))), ((cell_far (p := ⟨gb335, _, none⟩) NB334_335.out _).trans (((cell_far (p := ⟨gb335, _, none⟩) NB334_335.out _).trans (((cell_far (p := ⟨gb335, _, none⟩) NB334_335.out _).trans (((cell_far (p := ⟨gb335, _, none⟩) NB334_335.out _).trans (((cell_far (p := ⟨gb335, _, none⟩) NB334_335.out _).trans (((cell_far (p := ⟨gb335, _, none⟩) NB334_335.out _).trans (hHeld.2.2.2.2.2.2))))))))))))⟩ (fun hHeld => ?_)
    clear hK K
    refine done_ (by kernel_rfl) ?_
    go_upto_region 4 with (first | ((with_reducible refine gate_callee (f := 10) rfl ?_); refine goesL_ (some 24) rfl rfl Tryd.func10 (by kernel_rfl) rfl #[] rfl (by (try simp only [List.map_toArray, List.map_cons, List.map_nil]); first | done | rfl | (simp only [List.length_drop, List.length_take]; rfl)) ?_; (with_reducible refine (quipulaw09_awake.calls  true _ (Gd.below HG.out (by repeat (first | (with_reducible first | exact HB.out | apply below_alloc | apply pw_below_drewN | apply below_drew1 | refine below_set ?_ GE334.out | refine below_set ?_ GE335.out) | exact HB.out))) A4.out).mono ?_); rintro e w16 ⟨rfl, hb⟩; refine ⟨_, rfl, ?_⟩; have n0_ := Aside0.mk (blk_below (g := gb334) (o := .cells #[.int .i64 a2_0, .string a2_1, .int .i64 a2_2, .int .i64 a2_3, .string a2_4, .string a2_5, .int .i64 a2_6] 42 (0, 0)) (by (with_reducible repeat (first | refine blk_drewN ?_ _ | refine blk_drew ?_ | refine blk_alloc ?_ _)); refine blk_far ?_ NB334_335.out _; (with_reducible repeat (first | refine blk_drewN ?_ _ | refine blk_drew ?_ | refine blk_alloc ?_ _)); refine blk_far ?_ NB334_335.out _; (with_reducible repeat (first | refine blk_drewN ?_ _ | refine blk_drew ?_ | refine blk_alloc ?_ _)); refine blk_far ?_ NB334_335.out _; (with_reducible repeat (first | refine blk_drewN ?_ _ | refine blk_drew ?_ | refine blk_alloc ?_ _)); refine blk_far ?_ NB334_335.out _; (with_reducible repeat (first | refine blk_drewN ?_ _ | refine blk_drew ?_ | refine blk_alloc ?_ _)); refine blk_far ?_ NB334_335.out _; (with_reducible repeat (first | refine blk_drewN ?_ _ | refine blk_drew ?_ | refine blk_alloc ?_ _)); refine blk_far ?_ NB334_335.out _; (with_reducible repeat (first | refine blk_drewN ?_ _ | refine blk_drew ?_ | refine blk_alloc ?_ _)); exact BK334.out) hb); have n1_ := Aside0.mk (blk_below (g := gb335) (o := .cells #[.string a2_1, .int .i64 a2_2, .int .i64 a2_3, .string a2_4, .string a2_5, .int .i64 a2_6] 29 (0, 0)) (by (with_reducible repeat (first | refine blk_drewN ?_ _ | refine blk_drew ?_ | refine blk_alloc ?_ _)); refine blk_put (cs := #[.string a2_1, .int .i64 a2_2, .int .i64 a2_3, .string a2_4, .string a2_5, .int .i64 0]) ?_ 5 _ rfl; (with_reducible repeat (first | refine blk_drewN ?_ _ | refine blk_drew ?_ | refine blk_alloc ?_ _)); refine blk_put (cs := #[.string a2_1, .int .i64 a2_2, .int .i64 a2_3, .string a2_4, .string (⟨#[]⟩ : ByteArray), .int .i64 0]) ?_ 4 _ rfl; (with_reducible repeat (first | refine blk_drewN ?_ _ | refine blk_drew ?_ | refine blk_alloc ?_ _)); refine blk_put (cs := #[.string a2_1, .int .i64 a2_2, .int .i64 a2_3, .string (⟨#[]⟩ : ByteArray), .string (⟨#[]⟩ : ByteArray), .int .i64 0]) ?_ 3 _ rfl; (with_reducible repeat (first | refine blk_drewN ?_ _ | refine blk_drew ?_ | refine blk_alloc ?_ _)); refine blk_put (cs := #[.string a2_1, .int .i64 a2_2, .int .i64 0, .string (⟨#[]⟩ : ByteArray), .string (⟨#[]⟩ : ByteArray), .int .i64 0]) ?_ 2 _ rfl; (with_reducible repeat (first | refine blk_drewN ?_ _ | refine blk_drew ?_ | refine blk_alloc ?_ _)); refine blk_put (cs := #[.string a2_1, .int .i64 0, .int .i64 0, .string (⟨#[]⟩ : ByteArray), .string (⟨#[]⟩ : ByteArray), .int .i64 0]) ?_ 1 _ rfl; (with_reducible repeat (first | refine blk_drewN ?_ _ | refine blk_drew ?_ | refine blk_alloc ?_ _)); refine blk_put (cs := #[.string (⟨#[]⟩ : ByteArray), .int .i64 0, .int .i64 0, .string (⟨#[]⟩ : ByteArray), .string (⟨#[]⟩ : ByteArray), .int .i64 0]) ?_ 0 _ rfl; (with_reducible repeat (first | refine blk_drewN ?_ _ | refine blk_drew ?_ | refine blk_alloc ?_ _)); exact BK335.out) hb); have n2_ := Aside0.mk (below_step (by repeat (first | (with_reducible first | exact HB.out | apply below_alloc | apply pw_below_drewN | apply below_drew1 | refine below_set ?_ GE334.out | refine below_set ?_ GE335.out) | exact HB.out)) hb); clear BK334; clear BK335; clear HB; have BK334 := n0_; have BK335 := n1_; have HB := n2_; clear n0_ n1_ n2_; (try clear hb); (try clear hb2); (try clear hk); (try clear hi)))
    (try simp only [Act.put, List.setIfInBounds_toArray, List.set_cons_zero, List.set_cons_succ])
    go_cut [56] (fun v56 wc => ∃ (kq : Nat) (x56_5 : Bool), v56 = .bool x56_5 ∧ Aside0 (quipulaw09_RuleRests.j0 kq a0 a1 a2_0 x56_5 a2_1 a2_2 a2_3 a2_4 a2_5 a2_6 = some true) ∧ Aside0 (kq ≤ k) ∧ Aside0 (wc.heap[gb334]? = some (.cells #[.int .i64 a2_0, .string a2_1, .int .i64 a2_2, .int .i64 a2_3, .string a2_4, .string a2_5, .int .i64 a2_6] 42 (0, 0))) ∧ Aside0 (wc.heap[gb335]? = some (.cells #[.string a2_1, .int .i64 a2_2, .int .i64 a2_3, .string a2_4, .string a2_5, .int .i64 a2_6] 29 (0, 0))) ∧ Aside0 (Below w.heap.size w wc))
    case first =>
      have H := HC6.out
      clear HC6
      by_cases c17 : a2_0 < 1
      · rw [if_pos c17] at H
        have c17b0 : decide (a2_0 < 1) = true := decide_eq_true c17
        clear c17
        (first | rw [c17b0] | rw [c17b1] | (simp only [i64_w, i32_w]; rw [c17b0]) | skip)
        have H' := Aside0.mk H
        clear H
        go_wp2
        go_meet
        case rel => exact ⟨_, (true), (by first | rfl | (simp; done) | (simp [*]; done)), H', ⟨by first | omega | exact Nat.le_refl _⟩, ⟨by (with_reducible repeat (first | refine blk_drewN ?_ _ | refine blk_drew ?_ | refine blk_alloc ?_ _)); exact BK334.out⟩, ⟨by (with_reducible repeat (first | refine blk_drewN ?_ _ | refine blk_drew ?_ | refine blk_alloc ?_ _)); exact BK335.out⟩, ⟨by repeat (first | (with_reducible first | exact HB.out | apply below_alloc | apply pw_below_drewN | apply below_drew1 | refine below_set ?_ GE334.out | refine below_set ?_ GE335.out) | exact HB.out)⟩⟩
      · rw [if_neg c17] at H
        have c17b0 : decide (a2_0 < 1) = false := decide_eq_false c17
        clear c17
        (first | rw [c17b0] | rw [c17b1] | (simp only [i64_w, i32_w]; rw [c17b0]) | skip)
        by_cases c18 : a2_0 > 8
        · rw [if_pos c18] at H
          have c18b0 : decide (8 < a2_0) = true := decide_eq_true c18
          clear c18
          have H' := Aside0.mk H
          clear H
          go_wp2
          go_meet
          case rel => exact ⟨_, (true), (by first | rfl | (simp; done) | (simp [*]; done)), H', ⟨by first | omega | exact Nat.le_refl _⟩, ⟨by (with_reducible repeat (first | refine blk_drewN ?_ _ | refine blk_drew ?_ | refine blk_alloc ?_ _)); exact BK334.out⟩, ⟨by (with_reducible repeat (first | refine blk_drewN ?_ _ | refine blk_drew ?_ | refine blk_alloc ?_ _)); exact BK335.out⟩, ⟨by repeat (first | (with_reducible first | exact HB.out | apply below_alloc | apply pw_below_drewN | apply below_drew1 | refine below_set ?_ GE334.out | refine below_set ?_ GE335.out) | exact HB.out)⟩⟩
        · rw [if_neg c18] at H
          have c18b0 : decide (8 < a2_0) = false := decide_eq_false c18
          clear c18
          replace H := Option.bind_eq_some_iff.mp H
          obtain ⟨t337, A190, H⟩ := H
          replace H : (if t337 = true then (if (a2_1.size : Int) > 4000 then (quipulaw09_RuleRests.j0 k a0 a1 a2_0 true a2_1 a2_2 a2_3 a2_4 a2_5 a2_6) else (if (a1.size : Int) > 4000 then (quipulaw09_RuleRests.j0 k a0 a1 a2_0 true a2_1 a2_2 a2_3 a2_4 a2_5 a2_6) else (if a1.toList = ([] : List UInt8) then (quipulaw09_RuleRests.j0 k a0 a1 a2_0 true a2_1 a2_2 a2_3 a2_4 a2_5 a2_6) else (if 0 < (a1.size : Int) then (quipulaw09_RuleRests.j0 k a0 a1 a2_0 ((bt a1 0) == 48) a2_1 a2_2 a2_3 a2_4 a2_5 a2_6) else (none))))) else (quipulaw09_RuleRests.j0 k a0 a1 a2_0 true a2_1 a2_2 a2_3 a2_4 a2_5 a2_6)) = some true := H
          have A19 := Aside0.mk A190
          clear A190
          by_cases c20 : t337 = true
          · subst c20
            have H1 : (if (a2_1.size : Int) > 4000 then (quipulaw09_RuleRests.j0 k a0 a1 a2_0 true a2_1 a2_2 a2_3 a2_4 a2_5 a2_6) else (if (a1.size : Int) > 4000 then (quipulaw09_RuleRests.j0 k a0 a1 a2_0 true a2_1 a2_2 a2_3 a2_4 a2_5 a2_6) else (if a1.toList = ([] : List UInt8) then (quipulaw09_RuleRests.j0 k a0 a1 a2_0 true a2_1 a2_2 a2_3 a2_4 a2_5 a2_6) else (if 0 < (a1.size : Int) then (quipulaw09_RuleRests.j0 k a0 a1 a2_0 ((bt a1 0) == 48) a2_1 a2_2 a2_3 a2_4 a2_5 a2_6) else (none))))) = some true := by rw [if_pos rfl] at H; exact H
            clear H
            have H := H1
            clear H1
            by_cases c21 : (a2_1.size : Int) > 4000
            · rw [if_pos c21] at H
              have c21b0 : decide (4000 < (a2_1.size : Int)) = true := decide_eq_true c21
              have c21b1 : decide (4000 < a2_1.size) = true := decide_eq_true (by omega)
              clear c21
              have H' := Aside0.mk H
              clear H
              have hnb22 := NB335_334.out
              have hnc22 := NB334_335.out
              have hcz23_0 : w16.cell? ⟨gb335, 0, none⟩ = some (.string a2_1) := (blk_cell BK335.out 0).trans rfl
              have hcz23_1 : w16.cell? ⟨gb335, 1, none⟩ = some (.int .i64 a2_2) := (blk_cell BK335.out 1).trans rfl
              have hcz23_2 : w16.cell? ⟨gb335, 2, none⟩ = some (.int .i64 a2_3) := (blk_cell BK335.out 2).trans rfl
              have hcz23_3 : w16.cell? ⟨gb335, 3, none⟩ = some (.string a2_4) := (blk_cell BK335.out 3).trans rfl
              have hcz23_4 : w16.cell? ⟨gb335, 4, none⟩ = some (.string a2_5) := (blk_cell BK335.out 4).trans rfl
              have hcz23_5 : w16.cell? ⟨gb335, 5, none⟩ = some (.int .i64 a2_6) := (blk_cell BK335.out 5).trans rfl
              have hfz23_0 := blk_frozen BK335.out 0
              have hfz23_1 := blk_frozen BK335.out 1
              have hfz23_2 := blk_frozen BK335.out 2
              have hfz23_3 := blk_frozen BK335.out 3
              have hfz23_4 := blk_frozen BK335.out 4
              have hfz23_5 := blk_frozen BK335.out 5
              go_wp2_with (first | (go_at_call 17; (with_reducible refine (quipuref08_May.calls a2_1 a2_2 a2_3 a2_4 a2_5 a2_6 true _ A19.out).mono ?_); rintro e w24 ⟨rfl, hb⟩; have n0_ := Aside0.mk (blk_below (g := gb334) (o := .cells #[.int .i64 a2_0, .string a2_1, .int .i64 a2_2, .int .i64 a2_3, .string a2_4, .string a2_5, .int .i64 a2_6] 42 (0, 0)) (by (with_reducible repeat (first | refine blk_drewN ?_ _ | refine blk_drew ?_ | refine blk_alloc ?_ _)); exact BK334.out) hb); have n1_ := Aside0.mk (blk_below (g := gb335) (o := .cells #[.string a2_1, .int .i64 a2_2, .int .i64 a2_3, .string a2_4, .string a2_5, .int .i64 a2_6] 29 (0, 0)) (by (with_reducible repeat (first | refine blk_drewN ?_ _ | refine blk_drew ?_ | refine blk_alloc ?_ _)); exact BK335.out) hb); have n2_ := Aside0.mk (below_step (by repeat (first | (with_reducible first | exact HB.out | apply below_alloc | apply pw_below_drewN | apply below_drew1 | refine below_set ?_ GE334.out | refine below_set ?_ GE335.out) | exact HB.out)) hb); clear BK334; clear BK335; clear HB; have BK334 := n0_; have BK335 := n1_; have HB := n2_; clear n0_ n1_ n2_; (try clear hb); (try clear hb2); (try clear hk); (try clear hi); have hcz25_0 : w24.cell? ⟨gb335, 0, none⟩ = some (.string a2_1) := (blk_cell BK335.out 0).trans rfl; have hcz25_1 : w24.cell? ⟨gb335, 1, none⟩ = some (.int .i64 a2_2) := (blk_cell BK335.out 1).trans rfl; have hcz25_2 : w24.cell? ⟨gb335, 2, none⟩ = some (.int .i64 a2_3) := (blk_cell BK335.out 2).trans rfl; have hcz25_3 : w24.cell? ⟨gb335, 3, none⟩ = some (.string a2_4) := (blk_cell BK335.out 3).trans rfl; have hcz25_4 : w24.cell? ⟨gb335, 4, none⟩ = some (.string a2_5) := (blk_cell BK335.out 4).trans rfl; have hcz25_5 : w24.cell? ⟨gb335, 5, none⟩ = some (.int .i64 a2_6) := (blk_cell BK335.out 5).trans rfl; have hfz25_0 := blk_frozen BK335.out 0; have hfz25_1 := blk_frozen BK335.out 1; have hfz25_2 := blk_frozen BK335.out 2; have hfz25_3 := blk_frozen BK335.out 3; have hfz25_4 := blk_frozen BK335.out 4; have hfz25_5 := blk_frozen BK335.out 5))
              go_meet
              case rel => exact ⟨_, (true), (by first | rfl | (simp; done) | (simp [*]; done)), H', ⟨by first | omega | exact Nat.le_refl _⟩, ⟨by (with_reducible repeat (first | refine blk_drewN ?_ _ | refine blk_drew ?_ | refine blk_alloc ?_ _)); exact BK334.out⟩, ⟨by (with_reducible repeat (first | refine blk_drewN ?_ _ | refine blk_drew ?_ | refine blk_alloc ?_ _)); exact BK335.out⟩, ⟨by repeat (first | (with_reducible first | exact HB.out | apply below_alloc | apply pw_below_drewN | apply below_drew1 | refine below_set ?_ GE334.out | refine below_set ?_ GE335.out) | exact HB.out)⟩⟩
            · rw [if_neg c21] at H
              have c21b0 : decide (4000 < (a2_1.size : Int)) = false := decide_eq_false c21
              have c21b1 : decide (4000 < a2_1.size) = false := decide_eq_false (by omega)
              clear c21
              by_cases c26 : (a1.size : Int) > 4000
              · rw [if_pos c26] at H
                have c26b0 : decide (4000 < (a1.size : Int)) = true := decide_eq_true c26
                have c26b1 : decide (4000 < a1.size) = true := decide_eq_true (by omega)
                clear c26
                have H' := Aside0.mk H
                clear H
                have hnb27 := NB335_334.out
                have hnc27 := NB334_335.out
                have hcz28_0 : w16.cell? ⟨gb335, 0, none⟩ = some (.string a2_1) := (blk_cell BK335.out 0).trans rfl
                have hcz28_1 : w16.cell? ⟨gb335, 1, none⟩ = some (.int .i64 a2_2) := (blk_cell BK335.out 1).trans rfl
                have hcz28_2 : w16.cell? ⟨gb335, 2, none⟩ = some (.int .i64 a2_3) := (blk_cell BK335.out 2).trans rfl
                have hcz28_3 : w16.cell? ⟨gb335, 3, none⟩ = some (.string a2_4) := (blk_cell BK335.out 3).trans rfl
                have hcz28_4 : w16.cell? ⟨gb335, 4, none⟩ = some (.string a2_5) := (blk_cell BK335.out 4).trans rfl
                have hcz28_5 : w16.cell? ⟨gb335, 5, none⟩ = some (.int .i64 a2_6) := (blk_cell BK335.out 5).trans rfl
                have hfz28_0 := blk_frozen BK335.out 0
                have hfz28_1 := blk_frozen BK335.out 1
                have hfz28_2 := blk_frozen BK335.out 2
                have hfz28_3 := blk_frozen BK335.out 3
                have hfz28_4 := blk_frozen BK335.out 4
                have hfz28_5 := blk_frozen BK335.out 5
                go_wp2_with (first | (go_at_call 17; (with_reducible refine (quipuref08_May.calls a2_1 a2_2 a2_3 a2_4 a2_5 a2_6 true _ A19.out).mono ?_); rintro e w29 ⟨rfl, hb⟩; have n0_ := Aside0.mk (blk_below (g := gb334) (o := .cells #[.int .i64 a2_0, .string a2_1, .int .i64 a2_2, .int .i64 a2_3, .string a2_4, .string a2_5, .int .i64 a2_6] 42 (0, 0)) (by (with_reducible repeat (first | refine blk_drewN ?_ _ | refine blk_drew ?_ | refine blk_alloc ?_ _)); exact BK334.out) hb); have n1_ := Aside0.mk (blk_below (g := gb335) (o := .cells #[.string a2_1, .int .i64 a2_2, .int .i64 a2_3, .string a2_4, .string a2_5, .int .i64 a2_6] 29 (0, 0)) (by (with_reducible repeat (first | refine blk_drewN ?_ _ | refine blk_drew ?_ | refine blk_alloc ?_ _)); exact BK335.out) hb); have n2_ := Aside0.mk (below_step (by repeat (first | (with_reducible first | exact HB.out | apply below_alloc | apply pw_below_drewN | apply below_drew1 | refine below_set ?_ GE334.out | refine below_set ?_ GE335.out) | exact HB.out)) hb); clear BK334; clear BK335; clear HB; have BK334 := n0_; have BK335 := n1_; have HB := n2_; clear n0_ n1_ n2_; (try clear hb); (try clear hb2); (try clear hk); (try clear hi); have hcz30_0 : w29.cell? ⟨gb335, 0, none⟩ = some (.string a2_1) := (blk_cell BK335.out 0).trans rfl; have hcz30_1 : w29.cell? ⟨gb335, 1, none⟩ = some (.int .i64 a2_2) := (blk_cell BK335.out 1).trans rfl; have hcz30_2 : w29.cell? ⟨gb335, 2, none⟩ = some (.int .i64 a2_3) := (blk_cell BK335.out 2).trans rfl; have hcz30_3 : w29.cell? ⟨gb335, 3, none⟩ = some (.string a2_4) := (blk_cell BK335.out 3).trans rfl; have hcz30_4 : w29.cell? ⟨gb335, 4, none⟩ = some (.string a2_5) := (blk_cell BK335.out 4).trans rfl; have hcz30_5 : w29.cell? ⟨gb335, 5, none⟩ = some (.int .i64 a2_6) := (blk_cell BK335.out 5).trans rfl; have hfz30_0 := blk_frozen BK335.out 0; have hfz30_1 := blk_frozen BK335.out 1; have hfz30_2 := blk_frozen BK335.out 2; have hfz30_3 := blk_frozen BK335.out 3; have hfz30_4 := blk_frozen BK335.out 4; have hfz30_5 := blk_frozen BK335.out 5))
                go_meet
                case rel => exact ⟨_, (true), (by first | rfl | (simp; done) | (simp [*]; done)), H', ⟨by first | omega | exact Nat.le_refl _⟩, ⟨by (with_reducible repeat (first | refine blk_drewN ?_ _ | refine blk_drew ?_ | refine blk_alloc ?_ _)); exact BK334.out⟩, ⟨by (with_reducible repeat (first | refine blk_drewN ?_ _ | refine blk_drew ?_ | refine blk_alloc ?_ _)); exact BK335.out⟩, ⟨by repeat (first | (with_reducible first | exact HB.out | apply below_alloc | apply pw_below_drewN | apply below_drew1 | refine below_set ?_ GE334.out | refine below_set ?_ GE335.out) | exact HB.out)⟩⟩
              · rw [if_neg c26] at H
                have c26b0 : decide (4000 < (a1.size : Int)) = false := decide_eq_false c26
                have c26b1 : decide (4000 < a1.size) = false := decide_eq_false (by omega)
                clear c26
                by_cases c31 : a1.toList = ([] : List UInt8)
                · rw [if_pos c31] at H
                  have c31b0 : (a1.toList == ([] : List UInt8)) = true := beq_iff_eq.mpr c31
                  have c31b1 : (a1.toList != ([] : List UInt8)) = false := bne_eq_false_iff_eq.mpr c31
                  clear c31
                  have H' := Aside0.mk H
                  clear H
                  have hnb32 := NB335_334.out
                  have hnc32 := NB334_335.out
                  have hcz33_0 : w16.cell? ⟨gb335, 0, none⟩ = some (.string a2_1) := (blk_cell BK335.out 0).trans rfl
                  have hcz33_1 : w16.cell? ⟨gb335, 1, none⟩ = some (.int .i64 a2_2) := (blk_cell BK335.out 1).trans rfl
                  have hcz33_2 : w16.cell? ⟨gb335, 2, none⟩ = some (.int .i64 a2_3) := (blk_cell BK335.out 2).trans rfl
                  have hcz33_3 : w16.cell? ⟨gb335, 3, none⟩ = some (.string a2_4) := (blk_cell BK335.out 3).trans rfl
                  have hcz33_4 : w16.cell? ⟨gb335, 4, none⟩ = some (.string a2_5) := (blk_cell BK335.out 4).trans rfl
                  have hcz33_5 : w16.cell? ⟨gb335, 5, none⟩ = some (.int .i64 a2_6) := (blk_cell BK335.out 5).trans rfl
                  have hfz33_0 := blk_frozen BK335.out 0
                  have hfz33_1 := blk_frozen BK335.out 1
                  have hfz33_2 := blk_frozen BK335.out 2
                  have hfz33_3 := blk_frozen BK335.out 3
                  have hfz33_4 := blk_frozen BK335.out 4
                  have hfz33_5 := blk_frozen BK335.out 5
                  go_wp2_with (first | (go_at_call 17; (with_reducible refine (quipuref08_May.calls a2_1 a2_2 a2_3 a2_4 a2_5 a2_6 true _ A19.out).mono ?_); rintro e w34 ⟨rfl, hb⟩; have n0_ := Aside0.mk (blk_below (g := gb334) (o := .cells #[.int .i64 a2_0, .string a2_1, .int .i64 a2_2, .int .i64 a2_3, .string a2_4, .string a2_5, .int .i64 a2_6] 42 (0, 0)) (by (with_reducible repeat (first | refine blk_drewN ?_ _ | refine blk_drew ?_ | refine blk_alloc ?_ _)); exact BK334.out) hb); have n1_ := Aside0.mk (blk_below (g := gb335) (o := .cells #[.string a2_1, .int .i64 a2_2, .int .i64 a2_3, .string a2_4, .string a2_5, .int .i64 a2_6] 29 (0, 0)) (by (with_reducible repeat (first | refine blk_drewN ?_ _ | refine blk_drew ?_ | refine blk_alloc ?_ _)); exact BK335.out) hb); have n2_ := Aside0.mk (below_step (by repeat (first | (with_reducible first | exact HB.out | apply below_alloc | apply pw_below_drewN | apply below_drew1 | refine below_set ?_ GE334.out | refine below_set ?_ GE335.out) | exact HB.out)) hb); clear BK334; clear BK335; clear HB; have BK334 := n0_; have BK335 := n1_; have HB := n2_; clear n0_ n1_ n2_; (try clear hb); (try clear hb2); (try clear hk); (try clear hi); have hcz35_0 : w34.cell? ⟨gb335, 0, none⟩ = some (.string a2_1) := (blk_cell BK335.out 0).trans rfl; have hcz35_1 : w34.cell? ⟨gb335, 1, none⟩ = some (.int .i64 a2_2) := (blk_cell BK335.out 1).trans rfl; have hcz35_2 : w34.cell? ⟨gb335, 2, none⟩ = some (.int .i64 a2_3) := (blk_cell BK335.out 2).trans rfl; have hcz35_3 : w34.cell? ⟨gb335, 3, none⟩ = some (.string a2_4) := (blk_cell BK335.out 3).trans rfl; have hcz35_4 : w34.cell? ⟨gb335, 4, none⟩ = some (.string a2_5) := (blk_cell BK335.out 4).trans rfl; have hcz35_5 : w34.cell? ⟨gb335, 5, none⟩ = some (.int .i64 a2_6) := (blk_cell BK335.out 5).trans rfl; have hfz35_0 := blk_frozen BK335.out 0; have hfz35_1 := blk_frozen BK335.out 1; have hfz35_2 := blk_frozen BK335.out 2; have hfz35_3 := blk_frozen BK335.out 3; have hfz35_4 := blk_frozen BK335.out 4; have hfz35_5 := blk_frozen BK335.out 5))
                  go_meet
                  case rel => exact ⟨_, (true), (by first | rfl | (simp; done) | (simp [*]; done)), H', ⟨by first | omega | exact Nat.le_refl _⟩, ⟨by (with_reducible repeat (first | refine blk_drewN ?_ _ | refine blk_drew ?_ | refine blk_alloc ?_ _)); exact BK334.out⟩, ⟨by (with_reducible repeat (first | refine blk_drewN ?_ _ | refine blk_drew ?_ | refine blk_alloc ?_ _)); exact BK335.out⟩, ⟨by repeat (first | (with_reducible first | exact HB.out | apply below_alloc | apply pw_below_drewN | apply below_drew1 | refine below_set ?_ GE334.out | refine below_set ?_ GE335.out) | exact HB.out)⟩⟩
                · rw [if_neg c31] at H
                  have c31b0 : (a1.toList == ([] : List UInt8)) = false := beq_eq_false_iff_ne.mpr c31
                  have c31b1 : (a1.toList != ([] : List UInt8)) = true := bne_iff_ne.mpr c31
                  by_cases c36 : 0 < (a1.size : Int)
                  · rw [if_pos c36] at H
                    have c36b0 : decide (0 < (a1.size : Int)) = true := decide_eq_true c36
                    have c36b1 : decide (0 < a1.size) = true := decide_eq_true (by omega)
                    clear c36
                    have H' := Aside0.mk H
                    clear H
                    have hnb38 := NB335_334.out
                    have hnc38 := NB334_335.out
                    have hcz39_0 : w16.cell? ⟨gb335, 0, none⟩ = some (.string a2_1) := (blk_cell BK335.out 0).trans rfl
                    have hcz39_1 : w16.cell? ⟨gb335, 1, none⟩ = some (.int .i64 a2_2) := (blk_cell BK335.out 1).trans rfl
                    have hcz39_2 : w16.cell? ⟨gb335, 2, none⟩ = some (.int .i64 a2_3) := (blk_cell BK335.out 2).trans rfl
                    have hcz39_3 : w16.cell? ⟨gb335, 3, none⟩ = some (.string a2_4) := (blk_cell BK335.out 3).trans rfl
                    have hcz39_4 : w16.cell? ⟨gb335, 4, none⟩ = some (.string a2_5) := (blk_cell BK335.out 4).trans rfl
                    have hcz39_5 : w16.cell? ⟨gb335, 5, none⟩ = some (.int .i64 a2_6) := (blk_cell BK335.out 5).trans rfl
                    have hfz39_0 := blk_frozen BK335.out 0
                    have hfz39_1 := blk_frozen BK335.out 1
                    have hfz39_2 := blk_frozen BK335.out 2
                    have hfz39_3 := blk_frozen BK335.out 3
                    have hfz39_4 := blk_frozen BK335.out 4
                    have hfz39_5 := blk_frozen BK335.out 5
                    go_wp2_with (first | (go_at_call 17; (with_reducible refine (quipuref08_May.calls a2_1 a2_2 a2_3 a2_4 a2_5 a2_6 true _ A19.out).mono ?_); rintro e w40 ⟨rfl, hb⟩; have n0_ := Aside0.mk (blk_below (g := gb334) (o := .cells #[.int .i64 a2_0, .string a2_1, .int .i64 a2_2, .int .i64 a2_3, .string a2_4, .string a2_5, .int .i64 a2_6] 42 (0, 0)) (by (with_reducible repeat (first | refine blk_drewN ?_ _ | refine blk_drew ?_ | refine blk_alloc ?_ _)); exact BK334.out) hb); have n1_ := Aside0.mk (blk_below (g := gb335) (o := .cells #[.string a2_1, .int .i64 a2_2, .int .i64 a2_3, .string a2_4, .string a2_5, .int .i64 a2_6] 29 (0, 0)) (by (with_reducible repeat (first | refine blk_drewN ?_ _ | refine blk_drew ?_ | refine blk_alloc ?_ _)); exact BK335.out) hb); have n2_ := Aside0.mk (below_step (by repeat (first | (with_reducible first | exact HB.out | apply below_alloc | apply pw_below_drewN | apply below_drew1 | refine below_set ?_ GE334.out | refine below_set ?_ GE335.out) | exact HB.out)) hb); clear BK334; clear BK335; clear HB; have BK334 := n0_; have BK335 := n1_; have HB := n2_; clear n0_ n1_ n2_; (try clear hb); (try clear hb2); (try clear hk); (try clear hi); have hcz41_0 : w40.cell? ⟨gb335, 0, none⟩ = some (.string a2_1) := (blk_cell BK335.out 0).trans rfl; have hcz41_1 : w40.cell? ⟨gb335, 1, none⟩ = some (.int .i64 a2_2) := (blk_cell BK335.out 1).trans rfl; have hcz41_2 : w40.cell? ⟨gb335, 2, none⟩ = some (.int .i64 a2_3) := (blk_cell BK335.out 2).trans rfl; have hcz41_3 : w40.cell? ⟨gb335, 3, none⟩ = some (.string a2_4) := (blk_cell BK335.out 3).trans rfl; have hcz41_4 : w40.cell? ⟨gb335, 4, none⟩ = some (.string a2_5) := (blk_cell BK335.out 4).trans rfl; have hcz41_5 : w40.cell? ⟨gb335, 5, none⟩ = some (.int .i64 a2_6) := (blk_cell BK335.out 5).trans rfl; have hfz41_0 := blk_frozen BK335.out 0; have hfz41_1 := blk_frozen BK335.out 1; have hfz41_2 := blk_frozen BK335.out 2; have hfz41_3 := blk_frozen BK335.out 3; have hfz41_4 := blk_frozen BK335.out 4; have hfz41_5 := blk_frozen BK335.out 5; have p37 : 0 ≤ (0 : Int) := (by omega); have q37 : 0 < a1.size := (by have : (0 : Int) < (a1.size : Int) := of_decide_eq_true (by first | (with_reducible assumption) | assumption); omega); have hx37 : ∀ h : 0 < a1.size, ((a1[0]'h).toNat : Int) = bt a1 0 := bt_at a1 0; clear p37; have qi37 : (0 < (a1.size : Int)) = True := eq_true (of_decide_eq_true (by first | (with_reducible assumption) | assumption)); replace q37 := eq_true q37))
                    go_meet
                    case rel => exact ⟨_, (((bt a1 0) == 48)), (by first | rfl | (simp; done) | (simp [*]; done)), H', ⟨by first | omega | exact Nat.le_refl _⟩, ⟨by (with_reducible repeat (first | refine blk_drewN ?_ _ | refine blk_drew ?_ | refine blk_alloc ?_ _)); exact BK334.out⟩, ⟨by (with_reducible repeat (first | refine blk_drewN ?_ _ | refine blk_drew ?_ | refine blk_alloc ?_ _)); exact BK335.out⟩, ⟨by repeat (first | (with_reducible first | exact HB.out | apply below_alloc | apply pw_below_drewN | apply below_drew1 | refine below_set ?_ GE334.out | refine below_set ?_ GE335.out) | exact HB.out)⟩⟩
                  · rw [if_neg c36] at H
                    exact absurd H (by simp)
          · replace c20 := Bool.eq_false_iff.mpr c20
            subst c20
            have H1 : (quipulaw09_RuleRests.j0 k a0 a1 a2_0 true a2_1 a2_2 a2_3 a2_4 a2_5 a2_6) = some true := by rw [if_neg (show ¬ (false = true) by decide)] at H; exact H
            clear H
            have H := H1
            clear H1
            have H' := Aside0.mk H
            clear H
            have hnb42 := NB335_334.out
            have hnc42 := NB334_335.out
            have hcz43_0 : w16.cell? ⟨gb335, 0, none⟩ = some (.string a2_1) := (blk_cell BK335.out 0).trans rfl
            have hcz43_1 : w16.cell? ⟨gb335, 1, none⟩ = some (.int .i64 a2_2) := (blk_cell BK335.out 1).trans rfl
            have hcz43_2 : w16.cell? ⟨gb335, 2, none⟩ = some (.int .i64 a2_3) := (blk_cell BK335.out 2).trans rfl
            have hcz43_3 : w16.cell? ⟨gb335, 3, none⟩ = some (.string a2_4) := (blk_cell BK335.out 3).trans rfl
            have hcz43_4 : w16.cell? ⟨gb335, 4, none⟩ = some (.string a2_5) := (blk_cell BK335.out 4).trans rfl
            have hcz43_5 : w16.cell? ⟨gb335, 5, none⟩ = some (.int .i64 a2_6) := (blk_cell BK335.out 5).trans rfl
            have hfz43_0 := blk_frozen BK335.out 0
            have hfz43_1 := blk_frozen BK335.out 1
            have hfz43_2 := blk_frozen BK335.out 2
            have hfz43_3 := blk_frozen BK335.out 3
            have hfz43_4 := blk_frozen BK335.out 4
            have hfz43_5 := blk_frozen BK335.out 5
            go_wp2_with (first | (go_at_call 17; (with_reducible refine (quipuref08_May.calls a2_1 a2_2 a2_3 a2_4 a2_5 a2_6 false _ A19.out).mono ?_); rintro e w44 ⟨rfl, hb⟩; have n0_ := Aside0.mk (blk_below (g := gb334) (o := .cells #[.int .i64 a2_0, .string a2_1, .int .i64 a2_2, .int .i64 a2_3, .string a2_4, .string a2_5, .int .i64 a2_6] 42 (0, 0)) (by (with_reducible repeat (first | refine blk_drewN ?_ _ | refine blk_drew ?_ | refine blk_alloc ?_ _)); exact BK334.out) hb); have n1_ := Aside0.mk (blk_below (g := gb335) (o := .cells #[.string a2_1, .int .i64 a2_2, .int .i64 a2_3, .string a2_4, .string a2_5, .int .i64 a2_6] 29 (0, 0)) (by (with_reducible repeat (first | refine blk_drewN ?_ _ | refine blk_drew ?_ | refine blk_alloc ?_ _)); exact BK335.out) hb); have n2_ := Aside0.mk (below_step (by repeat (first | (with_reducible first | exact HB.out | apply below_alloc | apply pw_below_drewN | apply below_drew1 | refine below_set ?_ GE334.out | refine below_set ?_ GE335.out) | exact HB.out)) hb); clear BK334; clear BK335; clear HB; have BK334 := n0_; have BK335 := n1_; have HB := n2_; clear n0_ n1_ n2_; (try clear hb); (try clear hb2); (try clear hk); (try clear hi)))
            go_meet
            case rel => exact ⟨_, (true), (by first | rfl | (simp; done) | (simp [*]; done)), H', ⟨by first | omega | exact Nat.le_refl _⟩, ⟨by (with_reducible repeat (first | refine blk_drewN ?_ _ | refine blk_drew ?_ | refine blk_alloc ?_ _)); exact BK334.out⟩, ⟨by (with_reducible repeat (first | refine blk_drewN ?_ _ | refine blk_drew ?_ | refine blk_alloc ?_ _)); exact BK335.out⟩, ⟨by repeat (first | (with_reducible first | exact HB.out | apply below_alloc | apply pw_below_drewN | apply below_drew1 | refine below_set ?_ GE334.out | refine below_set ?_ GE335.out) | exact HB.out)⟩⟩
    case rest =>
      clear HC6
      try clear c1
      try clear c2
      try clear p2
      try clear c3
      try clear p3
      try clear q3
      try clear hx3
      try clear qi3
      try clear c4
      try clear c5
      try clear c7
      try clear c10
      try clear c17
      try clear c17b0
      try clear c17b1
      try clear c18
      try clear c18b0
      try clear c20
      try clear c21
      try clear c21b0
      try clear c21b1
      try clear c22
      try clear c26
      try clear c26b0
      try clear c26b1
      try clear c27
      try clear c31
      try clear c31b0
      try clear c31b1
      try clear c32
      try clear c36
      try clear c36b0
      try clear c36b1
      try clear p37
      try clear q37
      try clear hx37
      try clear qi37
      try clear c38
      try clear c42
      try clear hcz23_0
      try clear hcz23_1
      try clear hcz23_2
      try clear hcz23_3
      try clear hcz23_4
      try clear hcz23_5
      try clear hcz25_0
      try clear hcz25_1
      try clear hcz25_2
      try clear hcz25_3
      try clear hcz25_4
      try clear hcz25_5
      try clear hcz28_0
      try clear hcz28_1
      try clear hcz28_2
      try clear hcz28_3
      try clear hcz28_4
      try clear hcz28_5
      try clear hcz30_0
      try clear hcz30_1
      try clear hcz30_2
      try clear hcz30_3
      try clear hcz30_4
      try clear hcz30_5
      try clear hcz33_0
      try clear hcz33_1
      try clear hcz33_2
      try clear hcz33_3
      try clear hcz33_4
      try clear hcz33_5
      try clear hcz35_0
      try clear hcz35_1
      try clear hcz35_2
      try clear hcz35_3
      try clear hcz35_4
      try clear hcz35_5
      try clear hcz39_0
      try clear hcz39_1
      try clear hcz39_2
      try clear hcz39_3
      try clear hcz39_4
      try clear hcz39_5
      try clear hcz41_0
      try clear hcz41_1
      try clear hcz41_2
      try clear hcz41_3
      try clear hcz41_4
      try clear hcz41_5
      try clear hcz43_0
      try clear hcz43_1
      try clear hcz43_2
      try clear hcz43_3
      try clear hcz43_4
      try clear hcz43_5
      try clear hfz23_0
      try clear hfz23_1
      try clear hfz23_2
      try clear hfz23_3
      try clear hfz23_4
      try clear hfz23_5
      try clear hfz25_0
      try clear hfz25_1
      try clear hfz25_2
      try clear hfz25_3
      try clear hfz25_4
      try clear hfz25_5
      try clear hfz28_0
      try clear hfz28_1
      try clear hfz28_2
      try clear hfz28_3
      try clear hfz28_4
      try clear hfz28_5
      try clear hfz30_0
      try clear hfz30_1
      try clear hfz30_2
      try clear hfz30_3
      try clear hfz30_4
      try clear hfz30_5
      try clear hfz33_0
      try clear hfz33_1
      try clear hfz33_2
      try clear hfz33_3
      try clear hfz33_4
      try clear hfz33_5
      try clear hfz35_0
      try clear hfz35_1
      try clear hfz35_2
      try clear hfz35_3
      try clear hfz35_4
      try clear hfz35_5
      try clear hfz39_0
      try clear hfz39_1
      try clear hfz39_2
      try clear hfz39_3
      try clear hfz39_4
      try clear hfz39_5
      try clear hfz41_0
      try clear hfz41_1
      try clear hfz41_2
      try clear hfz41_3
      try clear hfz41_4
      try clear hfz41_5
      try clear hfz43_0
      try clear hfz43_1
      try clear hfz43_2
      try clear hfz43_3
      try clear hfz43_4
      try clear hfz43_5
      try clear p37
      try clear q37
      obtain ⟨kq, x56_5, rfl, HA, HJ5, BK334, BK335, HB⟩ := hcut
      cases kq with
      | zero => exact absurd HA.out (by simp [quipulaw09_RuleRests.j0])
      | succ kj5 =>
        have H := HA.out
        clear HA
        simp only [quipulaw09_RuleRests.j0] at H
        by_cases c45 : x56_5 = true
        · subst c45
          have H1 : (some true) = some true := by first | rfl | rw [if_pos rfl] at H; exact H
          clear H
          have H := H1
          clear H1
          have HT := Option.some.inj H
          go_wp2
          go_ret
          exact ⟨by first | rfl | (simp [errW_none, errW_some] <;> rfl) | (simp [*, errW_none, errW_some] <;> rfl) | (simp only [ne_nil_b]; first | done | rfl) | (simp [ne_nil_b]; done), by repeat (first | (with_reducible first | exact HB.out | apply below_alloc | apply pw_below_drewN | apply below_drew1 | refine below_set ?_ GE334.out | refine below_set ?_ GE335.out) | exact HB.out)⟩
        · replace c45 := Bool.eq_false_iff.mpr c45
          subst c45
          have H1 : (quipulaw09_RuleRests.l0 kj5 a0 a1 a2_0 0 a2_1 a2_2 a2_3 a2_4 a2_5 a2_6) = some true := by rw [if_neg (show ¬ (false = true) by decide)] at H; exact H
          clear H
          have H := H1
          clear H1
          have H' := Aside0.mk H
          clear H
          go_wp2
          go_loopg [9] kj5 (fun kq v9 w' => ∃ (x9_2 : Int), v9 = .int .i64 x9_2 ∧ Aside0 (quipulaw09_RuleRests.l0 kq a0 a1 a2_0 x9_2 a2_1 a2_2 a2_3 a2_4 a2_5 a2_6 = some true) ∧ Aside0 (kq ≤ kj5) ∧ Aside0 (w'.heap[gb334]? = some (.cells #[.int .i64 a2_0, .string a2_1, .int .i64 a2_2, .int .i64 a2_3, .string a2_4, .string a2_5, .int .i64 a2_6] 42 (0, 0))) ∧ Aside0 (w'.heap[gb335]? = some (.cells #[.string a2_1, .int .i64 a2_2, .int .i64 a2_3, .string a2_4, .string a2_5, .int .i64 a2_6] 29 (0, 0))) ∧ Aside0 (Below w.heap.size w w'))
          case atStart => exact ⟨(0), (by first | rfl | (simp; done) | (simp [*]; done)), H', ⟨Nat.le_refl _⟩, ⟨by (with_reducible repeat (first | refine blk_drewN ?_ _ | refine blk_drew ?_ | refine blk_alloc ?_ _)); exact BK334.out⟩, ⟨by (with_reducible repeat (first | refine blk_drewN ?_ _ | refine blk_drew ?_ | refine blk_alloc ?_ _)); exact BK335.out⟩, ⟨by repeat (first | (with_reducible first | exact HB.out | apply below_alloc | apply pw_below_drewN | apply below_drew1 | refine below_set ?_ GE334.out | refine below_set ?_ GE335.out) | exact HB.out)⟩⟩
          case round =>
            clear H'
            try clear c1
            try clear c2
            try clear p2
            try clear c3
            try clear p3
            try clear q3
            try clear hx3
            try clear qi3
            try clear c4
            try clear c5
            try clear c7
            try clear c10
            try clear c17
            try clear c17b0
            try clear c17b1
            try clear c18
            try clear c18b0
            try clear c20
            try clear c21
            try clear c21b0
            try clear c21b1
            try clear c22
            try clear c26
            try clear c26b0
            try clear c26b1
            try clear c27
            try clear c31
            try clear c31b0
            try clear c31b1
            try clear c32
            try clear c36
            try clear c36b0
            try clear c36b1
            try clear p37
            try clear q37
            try clear hx37
            try clear qi37
            try clear c38
            try clear c42
            try clear c45
            try clear hcz23_0
            try clear hcz23_1
            try clear hcz23_2
            try clear hcz23_3
            try clear hcz23_4
            try clear hcz23_5
            try clear hcz25_0
            try clear hcz25_1
            try clear hcz25_2
            try clear hcz25_3
            try clear hcz25_4
            try clear hcz25_5
            try clear hcz28_0
            try clear hcz28_1
            try clear hcz28_2
            try clear hcz28_3
            try clear hcz28_4
            try clear hcz28_5
            try clear hcz30_0
            try clear hcz30_1
            try clear hcz30_2
            try clear hcz30_3
            try clear hcz30_4
            try clear hcz30_5
            try clear hcz33_0
            try clear hcz33_1
            try clear hcz33_2
            try clear hcz33_3
            try clear hcz33_4
            try clear hcz33_5
            try clear hcz35_0
            try clear hcz35_1
            try clear hcz35_2
            try clear hcz35_3
            try clear hcz35_4
            try clear hcz35_5
            try clear hcz39_0
            try clear hcz39_1
            try clear hcz39_2
            try clear hcz39_3
            try clear hcz39_4
            try clear hcz39_5
            try clear hcz41_0
            try clear hcz41_1
            try clear hcz41_2
            try clear hcz41_3
            try clear hcz41_4
            try clear hcz41_5
            try clear hcz43_0
            try clear hcz43_1
            try clear hcz43_2
            try clear hcz43_3
            try clear hcz43_4
            try clear hcz43_5
            try clear hfz23_0
            try clear hfz23_1
            try clear hfz23_2
            try clear hfz23_3
            try clear hfz23_4
            try clear hfz23_5
            try clear hfz25_0
            try clear hfz25_1
            try clear hfz25_2
            try clear hfz25_3
            try clear hfz25_4
            try clear hfz25_5
            try clear hfz28_0
            try clear hfz28_1
            try clear hfz28_2
            try clear hfz28_3
            try clear hfz28_4
            try clear hfz28_5
            try clear hfz30_0
            try clear hfz30_1
            try clear hfz30_2
            try clear hfz30_3
            try clear hfz30_4
            try clear hfz30_5
            try clear hfz33_0
            try clear hfz33_1
            try clear hfz33_2
            try clear hfz33_3
            try clear hfz33_4
            try clear hfz33_5
            try clear hfz35_0
            try clear hfz35_1
            try clear hfz35_2
            try clear hfz35_3
            try clear hfz35_4
            try clear hfz35_5
            try clear hfz39_0
            try clear hfz39_1
            try clear hfz39_2
            try clear hfz39_3
            try clear hfz39_4
            try clear hfz39_5
            try clear hfz41_0
            try clear hfz41_1
            try clear hfz41_2
            try clear hfz41_3
            try clear hfz41_4
            try clear hfz41_5
            try clear hfz43_0
            try clear hfz43_1
            try clear hfz43_2
            try clear hfz43_3
            try clear hfz43_4
            try clear hfz43_5
            try clear p2
            try clear p3
            try clear p37
            try clear q3
            try clear q37
            obtain ⟨x9_2, rfl, HA, HK2, BK334, BK335, HB⟩ := hrel
            cases gk with
            | zero => exact absurd HA.out (by simp [quipulaw09_RuleRests.l0])
            | succ k2 =>
              have H := HA.out
              clear HA
              simp only [quipulaw09_RuleRests.l0] at H
              by_cases c46 : x9_2 < (a1.size : Int)
              · rw [if_pos c46] at H
                have c46b0 : decide (x9_2 < (a1.size : Int)) = true := decide_eq_true c46
                clear c46
                by_cases c47 : 0 ≤ x9_2
                · rw [if_pos c47] at H
                  have c47b0 : decide (0 ≤ x9_2) = true := decide_eq_true c47
                  clear c47
                  by_cases c49 : (bt a1 x9_2) < 48
                  · rw [if_pos c49] at H
                    have c49b0 : decide ((bt a1 x9_2) < 48) = true := decide_eq_true c49
                    clear c49
                    have HT := Option.some.inj H
                    have p48 : 0 ≤ (x9_2 : Int) := of_decide_eq_true (by first | (with_reducible assumption) | assumption)
                    have q48 : x9_2 < (a1.size : Int) := of_decide_eq_true (by first | (with_reducible assumption) | assumption)
                    have hx48 := bt_at a1 x9_2
                    replace p48 := eq_true p48
                    replace q48 := eq_true q48
                    go_wp2
                    go_ret
                    exact ⟨by first | rfl | (simp [errW_none, errW_some] <;> rfl) | (simp [*, errW_none, errW_some] <;> rfl) | (simp only [ne_nil_b]; first | done | rfl) | (simp [ne_nil_b]; done), by repeat (first | (with_reducible first | exact HB.out | apply below_alloc | apply pw_below_drewN | apply below_drew1 | refine below_set ?_ GE334.out | refine below_set ?_ GE335.out) | exact HB.out)⟩
                  · rw [if_neg c49] at H
                    have c49b0 : decide ((bt a1 x9_2) < 48) = false := decide_eq_false c49
                    clear c49
                    by_cases c51 : (bt a1 x9_2) > 57
                    · rw [if_pos c51] at H
                      have c51b0 : decide (57 < (bt a1 x9_2)) = true := decide_eq_true c51
                      clear c51
                      have HT := Option.some.inj H
                      have p48 : 0 ≤ (x9_2 : Int) := of_decide_eq_true (by first | (with_reducible assumption) | assumption)
                      have q48 : x9_2 < (a1.size : Int) := of_decide_eq_true (by first | (with_reducible assumption) | assumption)
                      have hx48 := bt_at a1 x9_2
                      replace p48 := eq_true p48
                      replace q48 := eq_true q48
                      have p50 : 0 ≤ (x9_2 : Int) := of_decide_eq_true (by first | (with_reducible assumption) | assumption)
                      have q50 : x9_2 < (a1.size : Int) := of_decide_eq_true (by first | (with_reducible assumption) | assumption)
                      have hx50 := bt_at a1 x9_2
                      replace p50 := eq_true p50
                      replace q50 := eq_true q50
                      go_wp2
                      go_ret
                      exact ⟨by first | rfl | (simp [errW_none, errW_some] <;> rfl) | (simp [*, errW_none, errW_some] <;> rfl) | (simp only [ne_nil_b]; first | done | rfl) | (simp [ne_nil_b]; done), by repeat (first | (with_reducible first | exact HB.out | apply below_alloc | apply pw_below_drewN | apply below_drew1 | refine below_set ?_ GE334.out | refine below_set ?_ GE335.out) | exact HB.out)⟩
                    · rw [if_neg c51] at H
                      have c51b0 : decide (57 < (bt a1 x9_2)) = false := decide_eq_false c51
                      clear c51
                      have H' := Aside0.mk H
                      clear H
                      have p48 : 0 ≤ (x9_2 : Int) := of_decide_eq_true (by first | (with_reducible assumption) | assumption)
                      have q48 : x9_2 < (a1.size : Int) := of_decide_eq_true (by first | (with_reducible assumption) | assumption)
                      have hx48 := bt_at a1 x9_2
                      replace p48 := eq_true p48
                      replace q48 := eq_true q48
                      have p50 : 0 ≤ (x9_2 : Int) := of_decide_eq_true (by first | (with_reducible assumption) | assumption)
                      have q50 : x9_2 < (a1.size : Int) := of_decide_eq_true (by first | (with_reducible assumption) | assumption)
                      have hx50 := bt_at a1 x9_2
                      replace p50 := eq_true p50
                      replace q50 := eq_true q50
                      go_wp2
                      go_roundg k2
                      case measure => have := HJ5.out; have := HK2.out; omega
                      case rel => exact ⟨(wrap64 (x9_2 + 1)), (by first | rfl | (simp; done) | (simp [*]; done)), H', ⟨by have := HJ5.out; have := HK2.out; omega⟩, ⟨by (with_reducible repeat (first | refine blk_drewN ?_ _ | refine blk_drew ?_ | refine blk_alloc ?_ _)); exact BK334.out⟩, ⟨by (with_reducible repeat (first | refine blk_drewN ?_ _ | refine blk_drew ?_ | refine blk_alloc ?_ _)); exact BK335.out⟩, ⟨by repeat (first | (with_reducible first | exact HB.out | apply below_alloc | apply pw_below_drewN | apply below_drew1 | refine below_set ?_ GE334.out | refine below_set ?_ GE335.out) | exact HB.out)⟩⟩
                · rw [if_neg c47] at H
                  exact absurd H (by simp)
              · rw [if_neg c46] at H
                have c46b0 : decide (x9_2 < (a1.size : Int)) = false := decide_eq_false c46
                clear c46
                have H' := Aside0.mk H
                clear H
                go_wp2
                go_loopg [10] k2 (fun kq v10 w' => ∃ (x10_3 : Int), v10 = .int .i64 x10_3 ∧ Aside0 (quipulaw09_RuleRests.l1 kq a0 a1 a2_0 x10_3 a2_1 a2_2 a2_3 a2_4 a2_5 a2_6 = some true) ∧ Aside0 (kq ≤ k2) ∧ Aside0 (w'.heap[gb334]? = some (.cells #[.int .i64 a2_0, .string a2_1, .int .i64 a2_2, .int .i64 a2_3, .string a2_4, .string a2_5, .int .i64 a2_6] 42 (0, 0))) ∧ Aside0 (w'.heap[gb335]? = some (.cells #[.string a2_1, .int .i64 a2_2, .int .i64 a2_3, .string a2_4, .string a2_5, .int .i64 a2_6] 29 (0, 0))) ∧ Aside0 (Below w.heap.size w w'))
                case atStart => exact ⟨(0), (by first | rfl | (simp; done) | (simp [*]; done)), H', ⟨Nat.le_refl _⟩, ⟨by (with_reducible repeat (first | refine blk_drewN ?_ _ | refine blk_drew ?_ | refine blk_alloc ?_ _)); exact BK334.out⟩, ⟨by (with_reducible repeat (first | refine blk_drewN ?_ _ | refine blk_drew ?_ | refine blk_alloc ?_ _)); exact BK335.out⟩, ⟨by repeat (first | (with_reducible first | exact HB.out | apply below_alloc | apply pw_below_drewN | apply below_drew1 | refine below_set ?_ GE334.out | refine below_set ?_ GE335.out) | exact HB.out)⟩⟩
                case round =>
                  clear H'
                  try clear c1
                  try clear c2
                  try clear p2
                  try clear c3
                  try clear p3
                  try clear q3
                  try clear hx3
                  try clear qi3
                  try clear c4
                  try clear p4
                  try clear q4
                  try clear hx4
                  try clear c5
                  try clear p5
                  try clear q5
                  try clear hx5
                  try clear p6
                  try clear c7
                  try clear c10
                  try clear c17
                  try clear c17b0
                  try clear c17b1
                  try clear c18
                  try clear c18b0
                  try clear c20
                  try clear c21
                  try clear c21b0
                  try clear c21b1
                  try clear c22
                  try clear c26
                  try clear c26b0
                  try clear c26b1
                  try clear c27
                  try clear c31
                  try clear c31b0
                  try clear c31b1
                  try clear c32
                  try clear c36
                  try clear c36b0
                  try clear c36b1
                  try clear p37
                  try clear q37
                  try clear hx37
                  try clear qi37
                  try clear c38
                  try clear c42
                  try clear c45
                  try clear c46
                  try clear c46b0
                  try clear c47
                  try clear c47b0
                  try clear p48
                  try clear q48
                  try clear hx48
                  try clear c49
                  try clear c49b0
                  try clear p50
                  try clear q50
                  try clear hx50
                  try clear c51
                  try clear c51b0
                  try clear hcz23_0
                  try clear hcz23_1
                  try clear hcz23_2
                  try clear hcz23_3
                  try clear hcz23_4
                  try clear hcz23_5
                  try clear hcz25_0
                  try clear hcz25_1
                  try clear hcz25_2
                  try clear hcz25_3
                  try clear hcz25_4
                  try clear hcz25_5
                  try clear hcz28_0
                  try clear hcz28_1
                  try clear hcz28_2
                  try clear hcz28_3
                  try clear hcz28_4
                  try clear hcz28_5
                  try clear hcz30_0
                  try clear hcz30_1
                  try clear hcz30_2
                  try clear hcz30_3
                  try clear hcz30_4
                  try clear hcz30_5
                  try clear hcz33_0
                  try clear hcz33_1
                  try clear hcz33_2
                  try clear hcz33_3
                  try clear hcz33_4
                  try clear hcz33_5
                  try clear hcz35_0
                  try clear hcz35_1
                  try clear hcz35_2
                  try clear hcz35_3
                  try clear hcz35_4
                  try clear hcz35_5
                  try clear hcz39_0
                  try clear hcz39_1
                  try clear hcz39_2
                  try clear hcz39_3
                  try clear hcz39_4
                  try clear hcz39_5
                  try clear hcz41_0
                  try clear hcz41_1
                  try clear hcz41_2
                  try clear hcz41_3
                  try clear hcz41_4
                  try clear hcz41_5
                  try clear hcz43_0
                  try clear hcz43_1
                  try clear hcz43_2
                  try clear hcz43_3
                  try clear hcz43_4
                  try clear hcz43_5
                  try clear hfz23_0
                  try clear hfz23_1
                  try clear hfz23_2
                  try clear hfz23_3
                  try clear hfz23_4
                  try clear hfz23_5
                  try clear hfz25_0
                  try clear hfz25_1
                  try clear hfz25_2
                  try clear hfz25_3
                  try clear hfz25_4
                  try clear hfz25_5
                  try clear hfz28_0
                  try clear hfz28_1
                  try clear hfz28_2
                  try clear hfz28_3
                  try clear hfz28_4
                  try clear hfz28_5
                  try clear hfz30_0
                  try clear hfz30_1
                  try clear hfz30_2
                  try clear hfz30_3
                  try clear hfz30_4
                  try clear hfz30_5
                  try clear hfz33_0
                  try clear hfz33_1
                  try clear hfz33_2
                  try clear hfz33_3
                  try clear hfz33_4
                  try clear hfz33_5
                  try clear hfz35_0
                  try clear hfz35_1
                  try clear hfz35_2
                  try clear hfz35_3
                  try clear hfz35_4
                  try clear hfz35_5
                  try clear hfz39_0
                  try clear hfz39_1
                  try clear hfz39_2
                  try clear hfz39_3
                  try clear hfz39_4
                  try clear hfz39_5
                  try clear hfz41_0
                  try clear hfz41_1
                  try clear hfz41_2
                  try clear hfz41_3
                  try clear hfz41_4
                  try clear hfz41_5
                  try clear hfz43_0
                  try clear hfz43_1
                  try clear hfz43_2
                  try clear hfz43_3
                  try clear hfz43_4
                  try clear hfz43_5
                  try clear p2
                  try clear p3
                  try clear p37
                  try clear p48
                  try clear p50
                  try clear q3
                  try clear q37
                  try clear q48
                  try clear q50
                  obtain ⟨x10_3, rfl, HA, HK3, BK334, BK335, HB⟩ := hrel
                  cases gk with
                  | zero => exact absurd HA.out (by simp [quipulaw09_RuleRests.l1])
                  | succ k3 =>
                    have H := HA.out
                    clear HA
                    simp only [quipulaw09_RuleRests.l1] at H
                    by_cases c52 : x10_3 < (a0.size : Int)
                    · rw [if_pos c52] at H
                      have c52b0 : decide (x10_3 < (a0.size : Int)) = true := decide_eq_true c52
                      clear c52
                      by_cases c53 : 0 ≤ x10_3
                      · rw [if_pos c53] at H
                        have c53b0 : decide (0 ≤ x10_3) = true := decide_eq_true c53
                        clear c53
                        by_cases c55 : (bt a0 x10_3) < 48
                        · rw [if_pos c55] at H
                          have c55b0 : decide ((bt a0 x10_3) < 48) = true := decide_eq_true c55
                          clear c55
                          by_cases c57 : (bt a0 x10_3) = 44
                          · rw [if_pos c57] at H
                            have c57b0 : ((bt a0 x10_3) == 44) = true := beq_iff_eq.mpr c57
                            have c57b1 : ((bt a0 x10_3) != 44) = false := bne_eq_false_iff_eq.mpr c57
                            clear c57
                            have H' := Aside0.mk H
                            clear H
                            have p54 : 0 ≤ (x10_3 : Int) := of_decide_eq_true (by first | (with_reducible assumption) | assumption)
                            have q54 : x10_3 < (a0.size : Int) := of_decide_eq_true (by first | (with_reducible assumption) | assumption)
                            have hx54 := bt_at a0 x10_3
                            replace p54 := eq_true p54
                            replace q54 := eq_true q54
                            have p56 : 0 ≤ (x10_3 : Int) := of_decide_eq_true (by first | (with_reducible assumption) | assumption)
                            have q56 : x10_3 < (a0.size : Int) := of_decide_eq_true (by first | (with_reducible assumption) | assumption)
                            have hx56 := bt_at a0 x10_3
                            replace p56 := eq_true p56
                            replace q56 := eq_true q56
                            go_wp2
                            go_roundg k3
                            case measure => have := HJ5.out; have := HK2.out; have := HK3.out; omega
                            case rel => exact ⟨(wrap64 (x10_3 + 1)), (by first | rfl | (simp; done) | (simp [*]; done)), H', ⟨by have := HJ5.out; have := HK2.out; have := HK3.out; omega⟩, ⟨by (with_reducible repeat (first | refine blk_drewN ?_ _ | refine blk_drew ?_ | refine blk_alloc ?_ _)); exact BK334.out⟩, ⟨by (with_reducible repeat (first | refine blk_drewN ?_ _ | refine blk_drew ?_ | refine blk_alloc ?_ _)); exact BK335.out⟩, ⟨by repeat (first | (with_reducible first | exact HB.out | apply below_alloc | apply pw_below_drewN | apply below_drew1 | refine below_set ?_ GE334.out | refine below_set ?_ GE335.out) | exact HB.out)⟩⟩
                          · rw [if_neg c57] at H
                            have c57b0 : ((bt a0 x10_3) == 44) = false := beq_eq_false_iff_ne.mpr c57
                            have c57b1 : ((bt a0 x10_3) != 44) = true := bne_iff_ne.mpr c57
                            by_cases c59 : (bt a0 x10_3) = 46
                            · rw [if_pos c59] at H
                              have c59b0 : ((bt a0 x10_3) == 46) = true := beq_iff_eq.mpr c59
                              have c59b1 : ((bt a0 x10_3) != 46) = false := bne_eq_false_iff_eq.mpr c59
                              clear c59
                              have H' := Aside0.mk H
                              clear H
                              have p54 : 0 ≤ (x10_3 : Int) := of_decide_eq_true (by first | (with_reducible assumption) | assumption)
                              have q54 : x10_3 < (a0.size : Int) := of_decide_eq_true (by first | (with_reducible assumption) | assumption)
                              have hx54 := bt_at a0 x10_3
                              replace p54 := eq_true p54
                              replace q54 := eq_true q54
                              have p56 : 0 ≤ (x10_3 : Int) := of_decide_eq_true (by first | (with_reducible assumption) | assumption)
                              have q56 : x10_3 < (a0.size : Int) := of_decide_eq_true (by first | (with_reducible assumption) | assumption)
                              have hx56 := bt_at a0 x10_3
                              replace p56 := eq_true p56
                              replace q56 := eq_true q56
                              have p58 : 0 ≤ (x10_3 : Int) := of_decide_eq_true (by first | (with_reducible assumption) | assumption)
                              have q58 : x10_3 < (a0.size : Int) := of_decide_eq_true (by first | (with_reducible assumption) | assumption)
                              have hx58 := bt_at a0 x10_3
                              replace p58 := eq_true p58
                              replace q58 := eq_true q58
                              go_wp2
                              go_roundg k3
                              case measure => have := HJ5.out; have := HK2.out; have := HK3.out; omega
                              case rel => exact ⟨(wrap64 (x10_3 + 1)), (by first | rfl | (simp; done) | (simp [*]; done)), H', ⟨by have := HJ5.out; have := HK2.out; have := HK3.out; omega⟩, ⟨by (with_reducible repeat (first | refine blk_drewN ?_ _ | refine blk_drew ?_ | refine blk_alloc ?_ _)); exact BK334.out⟩, ⟨by (with_reducible repeat (first | refine blk_drewN ?_ _ | refine blk_drew ?_ | refine blk_alloc ?_ _)); exact BK335.out⟩, ⟨by repeat (first | (with_reducible first | exact HB.out | apply below_alloc | apply pw_below_drewN | apply below_drew1 | refine below_set ?_ GE334.out | refine below_set ?_ GE335.out) | exact HB.out)⟩⟩
                            · rw [if_neg c59] at H
                              have c59b0 : ((bt a0 x10_3) == 46) = false := beq_eq_false_iff_ne.mpr c59
                              have c59b1 : ((bt a0 x10_3) != 46) = true := bne_iff_ne.mpr c59
                              by_cases c61 : (bt a0 x10_3) = 32
                              · rw [if_pos c61] at H
                                have c61b0 : ((bt a0 x10_3) == 32) = true := beq_iff_eq.mpr c61
                                have c61b1 : ((bt a0 x10_3) != 32) = false := bne_eq_false_iff_eq.mpr c61
                                clear c61
                                have H' := Aside0.mk H
                                clear H
                                have p54 : 0 ≤ (x10_3 : Int) := of_decide_eq_true (by first | (with_reducible assumption) | assumption)
                                have q54 : x10_3 < (a0.size : Int) := of_decide_eq_true (by first | (with_reducible assumption) | assumption)
                                have hx54 := bt_at a0 x10_3
                                replace p54 := eq_true p54
                                replace q54 := eq_true q54
                                have p56 : 0 ≤ (x10_3 : Int) := of_decide_eq_true (by first | (with_reducible assumption) | assumption)
                                have q56 : x10_3 < (a0.size : Int) := of_decide_eq_true (by first | (with_reducible assumption) | assumption)
                                have hx56 := bt_at a0 x10_3
                                replace p56 := eq_true p56
                                replace q56 := eq_true q56
                                have p58 : 0 ≤ (x10_3 : Int) := of_decide_eq_true (by first | (with_reducible assumption) | assumption)
                                have q58 : x10_3 < (a0.size : Int) := of_decide_eq_true (by first | (with_reducible assumption) | assumption)
                                have hx58 := bt_at a0 x10_3
                                replace p58 := eq_true p58
                                replace q58 := eq_true q58
                                have p60 : 0 ≤ (x10_3 : Int) := of_decide_eq_true (by first | (with_reducible assumption) | assumption)
                                have q60 : x10_3 < (a0.size : Int) := of_decide_eq_true (by first | (with_reducible assumption) | assumption)
                                have hx60 := bt_at a0 x10_3
                                replace p60 := eq_true p60
                                replace q60 := eq_true q60
                                go_wp2
                                go_roundg k3
                                case measure => have := HJ5.out; have := HK2.out; have := HK3.out; omega
                                case rel => exact ⟨(wrap64 (x10_3 + 1)), (by first | rfl | (simp; done) | (simp [*]; done)), H', ⟨by have := HJ5.out; have := HK2.out; have := HK3.out; omega⟩, ⟨by (with_reducible repeat (first | refine blk_drewN ?_ _ | refine blk_drew ?_ | refine blk_alloc ?_ _)); exact BK334.out⟩, ⟨by (with_reducible repeat (first | refine blk_drewN ?_ _ | refine blk_drew ?_ | refine blk_alloc ?_ _)); exact BK335.out⟩, ⟨by repeat (first | (with_reducible first | exact HB.out | apply below_alloc | apply pw_below_drewN | apply below_drew1 | refine below_set ?_ GE334.out | refine below_set ?_ GE335.out) | exact HB.out)⟩⟩
                              · rw [if_neg c61] at H
                                have c61b0 : ((bt a0 x10_3) == 32) = false := beq_eq_false_iff_ne.mpr c61
                                have c61b1 : ((bt a0 x10_3) != 32) = true := bne_iff_ne.mpr c61
                                have HT := Option.some.inj H
                                have p54 : 0 ≤ (x10_3 : Int) := of_decide_eq_true (by first | (with_reducible assumption) | assumption)
                                have q54 : x10_3 < (a0.size : Int) := of_decide_eq_true (by first | (with_reducible assumption) | assumption)
                                have hx54 := bt_at a0 x10_3
                                replace p54 := eq_true p54
                                replace q54 := eq_true q54
                                have p56 : 0 ≤ (x10_3 : Int) := of_decide_eq_true (by first | (with_reducible assumption) | assumption)
                                have q56 : x10_3 < (a0.size : Int) := of_decide_eq_true (by first | (with_reducible assumption) | assumption)
                                have hx56 := bt_at a0 x10_3
                                replace p56 := eq_true p56
                                replace q56 := eq_true q56
                                have p58 : 0 ≤ (x10_3 : Int) := of_decide_eq_true (by first | (with_reducible assumption) | assumption)
                                have q58 : x10_3 < (a0.size : Int) := of_decide_eq_true (by first | (with_reducible assumption) | assumption)
                                have hx58 := bt_at a0 x10_3
                                replace p58 := eq_true p58
                                replace q58 := eq_true q58
                                have p60 : 0 ≤ (x10_3 : Int) := of_decide_eq_true (by first | (with_reducible assumption) | assumption)
                                have q60 : x10_3 < (a0.size : Int) := of_decide_eq_true (by first | (with_reducible assumption) | assumption)
                                have hx60 := bt_at a0 x10_3
                                replace p60 := eq_true p60
                                replace q60 := eq_true q60
                                go_wp2
                                go_ret
                                exact ⟨by first | rfl | (simp [errW_none, errW_some] <;> rfl) | (simp [*, errW_none, errW_some] <;> rfl) | (simp only [ne_nil_b]; first | done | rfl) | (simp [ne_nil_b]; done), by repeat (first | (with_reducible first | exact HB.out | apply below_alloc | apply pw_below_drewN | apply below_drew1 | refine below_set ?_ GE334.out | refine below_set ?_ GE335.out) | exact HB.out)⟩
                        · rw [if_neg c55] at H
                          have c55b0 : decide ((bt a0 x10_3) < 48) = false := decide_eq_false c55
                          clear c55
                          by_cases c63 : (bt a0 x10_3) > 57
                          · rw [if_pos c63] at H
                            have c63b0 : decide (57 < (bt a0 x10_3)) = true := decide_eq_true c63
                            clear c63
                            by_cases c65 : (bt a0 x10_3) = 44
                            · rw [if_pos c65] at H
                              have c65b0 : ((bt a0 x10_3) == 44) = true := beq_iff_eq.mpr c65
                              have c65b1 : ((bt a0 x10_3) != 44) = false := bne_eq_false_iff_eq.mpr c65
                              clear c65
                              have H' := Aside0.mk H
                              clear H
                              have p54 : 0 ≤ (x10_3 : Int) := of_decide_eq_true (by first | (with_reducible assumption) | assumption)
                              have q54 : x10_3 < (a0.size : Int) := of_decide_eq_true (by first | (with_reducible assumption) | assumption)
                              have hx54 := bt_at a0 x10_3
                              replace p54 := eq_true p54
                              replace q54 := eq_true q54
                              have p62 : 0 ≤ (x10_3 : Int) := of_decide_eq_true (by first | (with_reducible assumption) | assumption)
                              have q62 : x10_3 < (a0.size : Int) := of_decide_eq_true (by first | (with_reducible assumption) | assumption)
                              have hx62 := bt_at a0 x10_3
                              replace p62 := eq_true p62
                              replace q62 := eq_true q62
                              have p64 : 0 ≤ (x10_3 : Int) := of_decide_eq_true (by first | (with_reducible assumption) | assumption)
                              have q64 : x10_3 < (a0.size : Int) := of_decide_eq_true (by first | (with_reducible assumption) | assumption)
                              have hx64 := bt_at a0 x10_3
                              replace p64 := eq_true p64
                              replace q64 := eq_true q64
                              go_wp2
                              go_roundg k3
                              case measure => have := HJ5.out; have := HK2.out; have := HK3.out; omega
                              case rel => exact ⟨(wrap64 (x10_3 + 1)), (by first | rfl | (simp; done) | (simp [*]; done)), H', ⟨by have := HJ5.out; have := HK2.out; have := HK3.out; omega⟩, ⟨by (with_reducible repeat (first | refine blk_drewN ?_ _ | refine blk_drew ?_ | refine blk_alloc ?_ _)); exact BK334.out⟩, ⟨by (with_reducible repeat (first | refine blk_drewN ?_ _ | refine blk_drew ?_ | refine blk_alloc ?_ _)); exact BK335.out⟩, ⟨by repeat (first | (with_reducible first | exact HB.out | apply below_alloc | apply pw_below_drewN | apply below_drew1 | refine below_set ?_ GE334.out | refine below_set ?_ GE335.out) | exact HB.out)⟩⟩
                            · rw [if_neg c65] at H
                              have c65b0 : ((bt a0 x10_3) == 44) = false := beq_eq_false_iff_ne.mpr c65
                              have c65b1 : ((bt a0 x10_3) != 44) = true := bne_iff_ne.mpr c65
                              by_cases c67 : (bt a0 x10_3) = 46
                              · rw [if_pos c67] at H
                                have c67b0 : ((bt a0 x10_3) == 46) = true := beq_iff_eq.mpr c67
                                have c67b1 : ((bt a0 x10_3) != 46) = false := bne_eq_false_iff_eq.mpr c67
                                clear c67
                                have H' := Aside0.mk H
                                clear H
                                have p54 : 0 ≤ (x10_3 : Int) := of_decide_eq_true (by first | (with_reducible assumption) | assumption)
                                have q54 : x10_3 < (a0.size : Int) := of_decide_eq_true (by first | (with_reducible assumption) | assumption)
                                have hx54 := bt_at a0 x10_3
                                replace p54 := eq_true p54
                                replace q54 := eq_true q54
                                have p62 : 0 ≤ (x10_3 : Int) := of_decide_eq_true (by first | (with_reducible assumption) | assumption)
                                have q62 : x10_3 < (a0.size : Int) := of_decide_eq_true (by first | (with_reducible assumption) | assumption)
                                have hx62 := bt_at a0 x10_3
                                replace p62 := eq_true p62
                                replace q62 := eq_true q62
                                have p64 : 0 ≤ (x10_3 : Int) := of_decide_eq_true (by first | (with_reducible assumption) | assumption)
                                have q64 : x10_3 < (a0.size : Int) := of_decide_eq_true (by first | (with_reducible assumption) | assumption)
                                have hx64 := bt_at a0 x10_3
                                replace p64 := eq_true p64
                                replace q64 := eq_true q64
                                have p66 : 0 ≤ (x10_3 : Int) := of_decide_eq_true (by first | (with_reducible assumption) | assumption)
                                have q66 : x10_3 < (a0.size : Int) := of_decide_eq_true (by first | (with_reducible assumption) | assumption)
                                have hx66 := bt_at a0 x10_3
                                replace p66 := eq_true p66
                                replace q66 := eq_true q66
                                go_wp2
                                go_roundg k3
                                case measure => have := HJ5.out; have := HK2.out; have := HK3.out; omega
                                case rel => exact ⟨(wrap64 (x10_3 + 1)), (by first | rfl | (simp; done) | (simp [*]; done)), H', ⟨by have := HJ5.out; have := HK2.out; have := HK3.out; omega⟩, ⟨by (with_reducible repeat (first | refine blk_drewN ?_ _ | refine blk_drew ?_ | refine blk_alloc ?_ _)); exact BK334.out⟩, ⟨by (with_reducible repeat (first | refine blk_drewN ?_ _ | refine blk_drew ?_ | refine blk_alloc ?_ _)); exact BK335.out⟩, ⟨by repeat (first | (with_reducible first | exact HB.out | apply below_alloc | apply pw_below_drewN | apply below_drew1 | refine below_set ?_ GE334.out | refine below_set ?_ GE335.out) | exact HB.out)⟩⟩
                              · rw [if_neg c67] at H
                                have c67b0 : ((bt a0 x10_3) == 46) = false := beq_eq_false_iff_ne.mpr c67
                                have c67b1 : ((bt a0 x10_3) != 46) = true := bne_iff_ne.mpr c67
                                by_cases c69 : (bt a0 x10_3) = 32
                                · rw [if_pos c69] at H
                                  have c69b0 : ((bt a0 x10_3) == 32) = true := beq_iff_eq.mpr c69
                                  have c69b1 : ((bt a0 x10_3) != 32) = false := bne_eq_false_iff_eq.mpr c69
                                  clear c69
                                  have H' := Aside0.mk H
                                  clear H
                                  have p54 : 0 ≤ (x10_3 : Int) := of_decide_eq_true (by first | (with_reducible assumption) | assumption)
                                  have q54 : x10_3 < (a0.size : Int) := of_decide_eq_true (by first | (with_reducible assumption) | assumption)
                                  have hx54 := bt_at a0 x10_3
                                  replace p54 := eq_true p54
                                  replace q54 := eq_true q54
                                  have p62 : 0 ≤ (x10_3 : Int) := of_decide_eq_true (by first | (with_reducible assumption) | assumption)
                                  have q62 : x10_3 < (a0.size : Int) := of_decide_eq_true (by first | (with_reducible assumption) | assumption)
                                  have hx62 := bt_at a0 x10_3
                                  replace p62 := eq_true p62
                                  replace q62 := eq_true q62
                                  have p64 : 0 ≤ (x10_3 : Int) := of_decide_eq_true (by first | (with_reducible assumption) | assumption)
                                  have q64 : x10_3 < (a0.size : Int) := of_decide_eq_true (by first | (with_reducible assumption) | assumption)
                                  have hx64 := bt_at a0 x10_3
                                  replace p64 := eq_true p64
                                  replace q64 := eq_true q64
                                  have p66 : 0 ≤ (x10_3 : Int) := of_decide_eq_true (by first | (with_reducible assumption) | assumption)
                                  have q66 : x10_3 < (a0.size : Int) := of_decide_eq_true (by first | (with_reducible assumption) | assumption)
                                  have hx66 := bt_at a0 x10_3
                                  replace p66 := eq_true p66
                                  replace q66 := eq_true q66
                                  have p68 : 0 ≤ (x10_3 : Int) := of_decide_eq_true (by first | (with_reducible assumption) | assumption)
                                  have q68 : x10_3 < (a0.size : Int) := of_decide_eq_true (by first | (with_reducible assumption) | assumption)
                                  have hx68 := bt_at a0 x10_3
                                  replace p68 := eq_true p68
                                  replace q68 := eq_true q68
                                  go_wp2
                                  go_roundg k3
                                  case measure => have := HJ5.out; have := HK2.out; have := HK3.out; omega
                                  case rel => exact ⟨(wrap64 (x10_3 + 1)), (by first | rfl | (simp; done) | (simp [*]; done)), H', ⟨by have := HJ5.out; have := HK2.out; have := HK3.out; omega⟩, ⟨by (with_reducible repeat (first | refine blk_drewN ?_ _ | refine blk_drew ?_ | refine blk_alloc ?_ _)); exact BK334.out⟩, ⟨by (with_reducible repeat (first | refine blk_drewN ?_ _ | refine blk_drew ?_ | refine blk_alloc ?_ _)); exact BK335.out⟩, ⟨by repeat (first | (with_reducible first | exact HB.out | apply below_alloc | apply pw_below_drewN | apply below_drew1 | refine below_set ?_ GE334.out | refine below_set ?_ GE335.out) | exact HB.out)⟩⟩
                                · rw [if_neg c69] at H
                                  have c69b0 : ((bt a0 x10_3) == 32) = false := beq_eq_false_iff_ne.mpr c69
                                  have c69b1 : ((bt a0 x10_3) != 32) = true := bne_iff_ne.mpr c69
                                  have HT := Option.some.inj H
                                  have p54 : 0 ≤ (x10_3 : Int) := of_decide_eq_true (by first | (with_reducible assumption) | assumption)
                                  have q54 : x10_3 < (a0.size : Int) := of_decide_eq_true (by first | (with_reducible assumption) | assumption)
                                  have hx54 := bt_at a0 x10_3
                                  replace p54 := eq_true p54
                                  replace q54 := eq_true q54
                                  have p62 : 0 ≤ (x10_3 : Int) := of_decide_eq_true (by first | (with_reducible assumption) | assumption)
                                  have q62 : x10_3 < (a0.size : Int) := of_decide_eq_true (by first | (with_reducible assumption) | assumption)
                                  have hx62 := bt_at a0 x10_3
                                  replace p62 := eq_true p62
                                  replace q62 := eq_true q62
                                  have p64 : 0 ≤ (x10_3 : Int) := of_decide_eq_true (by first | (with_reducible assumption) | assumption)
                                  have q64 : x10_3 < (a0.size : Int) := of_decide_eq_true (by first | (with_reducible assumption) | assumption)
                                  have hx64 := bt_at a0 x10_3
                                  replace p64 := eq_true p64
                                  replace q64 := eq_true q64
                                  have p66 : 0 ≤ (x10_3 : Int) := of_decide_eq_true (by first | (with_reducible assumption) | assumption)
                                  have q66 : x10_3 < (a0.size : Int) := of_decide_eq_true (by first | (with_reducible assumption) | assumption)
                                  have hx66 := bt_at a0 x10_3
                                  replace p66 := eq_true p66
                                  replace q66 := eq_true q66
                                  have p68 : 0 ≤ (x10_3 : Int) := of_decide_eq_true (by first | (with_reducible assumption) | assumption)
                                  have q68 : x10_3 < (a0.size : Int) := of_decide_eq_true (by first | (with_reducible assumption) | assumption)
                                  have hx68 := bt_at a0 x10_3
                                  replace p68 := eq_true p68
                                  replace q68 := eq_true q68
                                  go_wp2
                                  go_ret
                                  exact ⟨by first | rfl | (simp [errW_none, errW_some] <;> rfl) | (simp [*, errW_none, errW_some] <;> rfl) | (simp only [ne_nil_b]; first | done | rfl) | (simp [ne_nil_b]; done), by repeat (first | (with_reducible first | exact HB.out | apply below_alloc | apply pw_below_drewN | apply below_drew1 | refine below_set ?_ GE334.out | refine below_set ?_ GE335.out) | exact HB.out)⟩
                          · rw [if_neg c63] at H
                            have c63b0 : decide (57 < (bt a0 x10_3)) = false := decide_eq_false c63
                            clear c63
                            have H' := Aside0.mk H
                            clear H
                            have p54 : 0 ≤ (x10_3 : Int) := of_decide_eq_true (by first | (with_reducible assumption) | assumption)
                            have q54 : x10_3 < (a0.size : Int) := of_decide_eq_true (by first | (with_reducible assumption) | assumption)
                            have hx54 := bt_at a0 x10_3
                            replace p54 := eq_true p54
                            replace q54 := eq_true q54
                            have p62 : 0 ≤ (x10_3 : Int) := of_decide_eq_true (by first | (with_reducible assumption) | assumption)
                            have q62 : x10_3 < (a0.size : Int) := of_decide_eq_true (by first | (with_reducible assumption) | assumption)
                            have hx62 := bt_at a0 x10_3
                            replace p62 := eq_true p62
                            replace q62 := eq_true q62
                            go_wp2
                            go_roundg k3
                            case measure => have := HJ5.out; have := HK2.out; have := HK3.out; omega
                            case rel => exact ⟨(wrap64 (x10_3 + 1)), (by first | rfl | (simp; done) | (simp [*]; done)), H', ⟨by have := HJ5.out; have := HK2.out; have := HK3.out; omega⟩, ⟨by (with_reducible repeat (first | refine blk_drewN ?_ _ | refine blk_drew ?_ | refine blk_alloc ?_ _)); exact BK334.out⟩, ⟨by (with_reducible repeat (first | refine blk_drewN ?_ _ | refine blk_drew ?_ | refine blk_alloc ?_ _)); exact BK335.out⟩, ⟨by repeat (first | (with_reducible first | exact HB.out | apply below_alloc | apply pw_below_drewN | apply below_drew1 | refine below_set ?_ GE334.out | refine below_set ?_ GE335.out) | exact HB.out)⟩⟩
                      · rw [if_neg c53] at H
                        exact absurd H (by simp)
                    · rw [if_neg c52] at H
                      have c52b0 : decide (x10_3 < (a0.size : Int)) = false := decide_eq_false c52
                      clear c52
                      have H' := Aside0.mk H
                      clear H
                      go_wp2
                      go_loopg [11, 12] k3 (fun kq v11 v12 w' => ∃ (x11_4 : ByteArray) (x12_4 : Int), v11 = .string x11_4 ∧ v12 = .int .i64 x12_4 ∧ Aside0 (quipulaw09_RuleRests.l2 kq a0 a1 a2_0 x11_4 x12_4 a2_1 a2_2 a2_3 a2_4 a2_5 a2_6 = some true) ∧ Aside0 (kq ≤ k3) ∧ Aside0 (w'.heap[gb334]? = some (.cells #[.int .i64 a2_0, .string a2_1, .int .i64 a2_2, .int .i64 a2_3, .string a2_4, .string a2_5, .int .i64 a2_6] 42 (0, 0))) ∧ Aside0 (w'.heap[gb335]? = some (.cells #[.string a2_1, .int .i64 a2_2, .int .i64 a2_3, .string a2_4, .string a2_5, .int .i64 a2_6] 29 (0, 0))) ∧ Aside0 (Below w.heap.size w w'))
                      case atStart => exact ⟨((⟨#[49]⟩ : ByteArray)), (0), (by first | rfl | (simp; done) | (simp [*]; done)), (by first | rfl | (simp; done) | (simp [*]; done)), H', ⟨Nat.le_refl _⟩, ⟨by (with_reducible repeat (first | refine blk_drewN ?_ _ | refine blk_drew ?_ | refine blk_alloc ?_ _)); exact BK334.out⟩, ⟨by (with_reducible repeat (first | refine blk_drewN ?_ _ | refine blk_drew ?_ | refine blk_alloc ?_ _)); exact BK335.out⟩, ⟨by repeat (first | (with_reducible first | exact HB.out | apply below_alloc | apply pw_below_drewN | apply below_drew1 | refine below_set ?_ GE334.out | refine below_set ?_ GE335.out) | exact HB.out)⟩⟩
                      case round =>
                        clear H'
                        try clear c1
                        try clear c2
                        try clear p2
                        try clear c3
                        try clear p3
                        try clear q3
                        try clear hx3
                        try clear qi3
                        try clear c4
                        try clear p4
                        try clear q4
                        try clear hx4
                        try clear c5
                        try clear p5
                        try clear q5
                        try clear hx5
                        try clear c6
                        try clear p6
                        try clear q6
                        try clear hx6
                        try clear c7
                        try clear c10
                        try clear c17
                        try clear c17b0
                        try clear c17b1
                        try clear c18
                        try clear c18b0
                        try clear c20
                        try clear c21
                        try clear c21b0
                        try clear c21b1
                        try clear c22
                        try clear c26
                        try clear c26b0
                        try clear c26b1
                        try clear c27
                        try clear c31
                        try clear c31b0
                        try clear c31b1
                        try clear c32
                        try clear c36
                        try clear c36b0
                        try clear c36b1
                        try clear p37
                        try clear q37
                        try clear hx37
                        try clear qi37
                        try clear c38
                        try clear c42
                        try clear c45
                        try clear c46
                        try clear c46b0
                        try clear c47
                        try clear c47b0
                        try clear p48
                        try clear q48
                        try clear hx48
                        try clear c49
                        try clear c49b0
                        try clear p50
                        try clear q50
                        try clear hx50
                        try clear c51
                        try clear c51b0
                        try clear c52
                        try clear c52b0
                        try clear c53
                        try clear c53b0
                        try clear p54
                        try clear q54
                        try clear hx54
                        try clear c55
                        try clear c55b0
                        try clear p56
                        try clear q56
                        try clear hx56
                        try clear c57
                        try clear c57b0
                        try clear c57b1
                        try clear p58
                        try clear q58
                        try clear hx58
                        try clear c59
                        try clear c59b0
                        try clear c59b1
                        try clear p60
                        try clear q60
                        try clear hx60
                        try clear c61
                        try clear c61b0
                        try clear c61b1
                        try clear p62
                        try clear q62
                        try clear hx62
                        try clear c63
                        try clear c63b0
                        try clear p64
                        try clear q64
                        try clear hx64
                        try clear c65
                        try clear c65b0
                        try clear c65b1
                        try clear p66
                        try clear q66
                        try clear hx66
                        try clear c67
                        try clear c67b0
                        try clear c67b1
                        try clear p68
                        try clear q68
                        try clear hx68
                        try clear c69
                        try clear c69b0
                        try clear c69b1
                        try clear hcz23_0
                        try clear hcz23_1
                        try clear hcz23_2
                        try clear hcz23_3
                        try clear hcz23_4
                        try clear hcz23_5
                        try clear hcz25_0
                        try clear hcz25_1
                        try clear hcz25_2
                        try clear hcz25_3
                        try clear hcz25_4
                        try clear hcz25_5
                        try clear hcz28_0
                        try clear hcz28_1
                        try clear hcz28_2
                        try clear hcz28_3
                        try clear hcz28_4
                        try clear hcz28_5
                        try clear hcz30_0
                        try clear hcz30_1
                        try clear hcz30_2
                        try clear hcz30_3
                        try clear hcz30_4
                        try clear hcz30_5
                        try clear hcz33_0
                        try clear hcz33_1
                        try clear hcz33_2
                        try clear hcz33_3
                        try clear hcz33_4
                        try clear hcz33_5
                        try clear hcz35_0
                        try clear hcz35_1
                        try clear hcz35_2
                        try clear hcz35_3
                        try clear hcz35_4
                        try clear hcz35_5
                        try clear hcz39_0
                        try clear hcz39_1
                        try clear hcz39_2
                        try clear hcz39_3
                        try clear hcz39_4
                        try clear hcz39_5
                        try clear hcz41_0
                        try clear hcz41_1
                        try clear hcz41_2
                        try clear hcz41_3
                        try clear hcz41_4
                        try clear hcz41_5
                        try clear hcz43_0
                        try clear hcz43_1
                        try clear hcz43_2
                        try clear hcz43_3
                        try clear hcz43_4
                        try clear hcz43_5
                        try clear hfz23_0
                        try clear hfz23_1
                        try clear hfz23_2
                        try clear hfz23_3
                        try clear hfz23_4
                        try clear hfz23_5
                        try clear hfz25_0
                        try clear hfz25_1
                        try clear hfz25_2
                        try clear hfz25_3
                        try clear hfz25_4
                        try clear hfz25_5
                        try clear hfz28_0
                        try clear hfz28_1
                        try clear hfz28_2
                        try clear hfz28_3
                        try clear hfz28_4
                        try clear hfz28_5
                        try clear hfz30_0
                        try clear hfz30_1
                        try clear hfz30_2
                        try clear hfz30_3
                        try clear hfz30_4
                        try clear hfz30_5
                        try clear hfz33_0
                        try clear hfz33_1
                        try clear hfz33_2
                        try clear hfz33_3
                        try clear hfz33_4
                        try clear hfz33_5
                        try clear hfz35_0
                        try clear hfz35_1
                        try clear hfz35_2
                        try clear hfz35_3
                        try clear hfz35_4
                        try clear hfz35_5
                        try clear hfz39_0
                        try clear hfz39_1
                        try clear hfz39_2
                        try clear hfz39_3
                        try clear hfz39_4
                        try clear hfz39_5
                        try clear hfz41_0
                        try clear hfz41_1
                        try clear hfz41_2
                        try clear hfz41_3
                        try clear hfz41_4
                        try clear hfz41_5
                        try clear hfz43_0
                        try clear hfz43_1
                        try clear hfz43_2
                        try clear hfz43_3
                        try clear hfz43_4
                        try clear hfz43_5
                        try clear p2
                        try clear p3
                        try clear p37
                        try clear p4
                        try clear p48
                        try clear p5
                        try clear p50
                        try clear p54
                        try clear p56
                        try clear p58
                        try clear p6
                        try clear p60
                        try clear p62
                        try clear p64
                        try clear p66
                        try clear p68
                        try clear q3
                        try clear q37
                        try clear q4
                        try clear q48
                        try clear q5
                        try clear q50
                        try clear q54
                        try clear q56
                        try clear q58
                        try clear q60
                        try clear q62
                        try clear q64
                        try clear q66
                        try clear q68
                        obtain ⟨x11_4, x12_4, rfl, rfl, HA, HK4, BK334, BK335, HB⟩ := hrel
                        cases gk with
                        | zero => exact absurd HA.out (by simp [quipulaw09_RuleRests.l2])
                        | succ k4 =>
                          have H := HA.out
                          clear HA
                          simp only [quipulaw09_RuleRests.l2] at H
                          by_cases c70 : x12_4 < a2_0
                          · rw [if_pos c70] at H
                            have c70b0 : decide (x12_4 < a2_0) = true := decide_eq_true c70
                            clear c70
                            by_cases c71 : x11_4.size + 1 ≤ 9223372036854775807
                            · rw [if_pos c71] at H
                              have c71b0 := eq_true c71
                              have c71b1 : decide (x11_4.size + 1 ≤ 9223372036854775807) = true := decide_eq_true c71
                              try have c71b2 : (9223372036854775807 < x11_4.size + 1) = False := eq_false (Nat.not_lt.2 c71)
                              have H' := Aside0.mk H
                              clear H
                              go_wp2
                              go_roundg k4
                              case measure => have := HJ5.out; have := HK2.out; have := HK3.out; have := HK4.out; omega
                              case rel => exact ⟨(x11_4 ++ (⟨#[48]⟩ : ByteArray)), (wrap64 (x12_4 + 1)), (by first | rfl | (simp; done) | (simp [*]; done)), (by first | rfl | (simp; done) | (simp [*]; done)), H', ⟨by have := HJ5.out; have := HK2.out; have := HK3.out; have := HK4.out; omega⟩, ⟨by (with_reducible repeat (first | refine blk_drewN ?_ _ | refine blk_drew ?_ | refine blk_alloc ?_ _)); exact BK334.out⟩, ⟨by (with_reducible repeat (first | refine blk_drewN ?_ _ | refine blk_drew ?_ | refine blk_alloc ?_ _)); exact BK335.out⟩, ⟨by repeat (first | (with_reducible first | exact HB.out | apply below_alloc | apply pw_below_drewN | apply below_drew1 | refine below_set ?_ GE334.out | refine below_set ?_ GE335.out) | exact HB.out)⟩⟩
                            · rw [if_neg c71] at H
                              exact absurd H (by simp)
                          · rw [if_neg c70] at H
                            have c70b0 : decide (x12_4 < a2_0) = false := decide_eq_false c70
                            clear c70
                            have HC72 := Aside0.mk H
                            clear H
                            have hnb73 := NB335_334.out
                            have hnc73 := NB334_335.out
                            have hcz74_0 : wr.cell? ⟨gb335, 0, none⟩ = some (.string a2_1) := (blk_cell BK335.out 0).trans rfl
                            have hcz74_1 : wr.cell? ⟨gb335, 1, none⟩ = some (.int .i64 a2_2) := (blk_cell BK335.out 1).trans rfl
                            have hcz74_2 : wr.cell? ⟨gb335, 2, none⟩ = some (.int .i64 a2_3) := (blk_cell BK335.out 2).trans rfl
                            have hcz74_3 : wr.cell? ⟨gb335, 3, none⟩ = some (.string a2_4) := (blk_cell BK335.out 3).trans rfl
                            have hcz74_4 : wr.cell? ⟨gb335, 4, none⟩ = some (.string a2_5) := (blk_cell BK335.out 4).trans rfl
                            have hcz74_5 : wr.cell? ⟨gb335, 5, none⟩ = some (.int .i64 a2_6) := (blk_cell BK335.out 5).trans rfl
                            have hfz74_0 := blk_frozen BK335.out 0
                            have hfz74_1 := blk_frozen BK335.out 1
                            have hfz74_2 := blk_frozen BK335.out 2
                            have hfz74_3 := blk_frozen BK335.out 3
                            have hfz74_4 := blk_frozen BK335.out 4
                            have hfz74_5 := blk_frozen BK335.out 5
                            go_upto_if 117 with (first | ((with_reducible refine gate_dst (N := 13) rfl ?_); (try (refine gate_guard (by rfl) ?_; dsimp only)); refine box_event ?hg (N := 13) ?hd (cs := #[.string (⟨#[]⟩ : ByteArray), .int .i64 0, .int .i64 0, .string (⟨#[]⟩ : ByteArray), .string (⟨#[]⟩ : ByteArray), .int .i64 0]) (t := 29) ?hr ?_; (case hd => rfl); (case hg => rfl); (case hr => first | (go_simp; done) | (go_simp; rfl)); intro gb338 hg w75 hbox hb; have n0_ := Aside0.mk (blk_below (g := gb334) (o := .cells #[.int .i64 a2_0, .string a2_1, .int .i64 a2_2, .int .i64 a2_3, .string a2_4, .string a2_5, .int .i64 a2_6] 42 (0, 0)) (by (with_reducible repeat (first | refine blk_drewN ?_ _ | refine blk_drew ?_ | refine blk_alloc ?_ _)); exact BK334.out) hb); have n1_ := Aside0.mk (blk_below (g := gb335) (o := .cells #[.string a2_1, .int .i64 a2_2, .int .i64 a2_3, .string a2_4, .string a2_5, .int .i64 a2_6] 29 (0, 0)) (by (with_reducible repeat (first | refine blk_drewN ?_ _ | refine blk_drew ?_ | refine blk_alloc ?_ _)); exact BK335.out) hb); have n2_ := Aside0.mk (below_step (by repeat (first | (with_reducible first | exact HB.out | apply below_alloc | apply pw_below_drewN | apply below_drew1 | refine below_set ?_ GE334.out | refine below_set ?_ GE335.out) | exact HB.out)) hb); have n3_ := Aside0.mk (hbox); have n4_ := Aside0.mk ((by rw [hg]; exact (below_size (by repeat (first | (with_reducible first | exact HB.out | apply below_alloc | apply pw_below_drewN | apply below_drew1 | refine below_set ?_ GE334.out | refine below_set ?_ GE335.out) | exact HB.out))) : w.heap.size ≤ gb338)); have n5_ := Aside0.mk ((by rw [hg]; exact (below_size (by repeat (first | (with_reducible first | exact HB.out | apply below_alloc | apply pw_below_drewN | apply below_drew1 | refine below_set ?_ GE334.out | refine below_set ?_ GE335.out) | exact HB.out))) : w.heap.size ≤ gb338)); have n6_ := Aside0.mk ((by rw [hg]; exact Nat.ne_of_lt (blk_lt (g := gb334) (o := .cells #[.int .i64 a2_0, .string a2_1, .int .i64 a2_2, .int .i64 a2_3, .string a2_4, .string a2_5, .int .i64 a2_6] 42 (0, 0)) (by (with_reducible repeat (first | refine blk_drewN ?_ _ | refine blk_drew ?_ | refine blk_alloc ?_ _)); exact BK334.out)) : gb334 ≠ gb338)); have n7_ := Aside0.mk ((by rw [hg]; exact Nat.ne_of_gt (blk_lt (g := gb334) (o := .cells #[.int .i64 a2_0, .string a2_1, .int .i64 a2_2, .int .i64 a2_3, .string a2_4, .string a2_5, .int .i64 a2_6] 42 (0, 0)) (by (with_reducible repeat (first | refine blk_drewN ?_ _ | refine blk_drew ?_ | refine blk_alloc ?_ _)); exact BK334.out)) : gb338 ≠ gb334)); have n8_ := Aside0.mk ((by rw [hg]; exact Nat.ne_of_lt (blk_lt (g := gb335) (o := .cells #[.string a2_1, .int .i64 a2_2, .int .i64 a2_3, .string a2_4, .string a2_5, .int .i64 a2_6] 29 (0, 0)) (by (with_reducible repeat (first | refine blk_drewN ?_ _ | refine blk_drew ?_ | refine blk_alloc ?_ _)); exact BK335.out)) : gb335 ≠ gb338)); have n9_ := Aside0.mk ((by rw [hg]; exact Nat.ne_of_gt (blk_lt (g := gb335) (o := .cells #[.string a2_1, .int .i64 a2_2, .int .i64 a2_3, .string a2_4, .string a2_5, .int .i64 a2_6] 29 (0, 0)) (by (with_reducible repeat (first | refine blk_drewN ?_ _ | refine blk_drew ?_ | refine blk_alloc ?_ _)); exact BK335.out)) : gb338 ≠ gb335)); clear BK334; clear BK335; clear HB; have BK334 := n0_; have BK335 := n1_; have HB := n2_; have BK338 := n3_; have GW338 := n4_; have GE338 := n5_; have NB334_338 := n6_; have NB338_334 := n7_; have NB335_338 := n8_; have NB338_335 := n9_; clear n0_ n1_ n2_ n3_ n4_ n5_ n6_ n7_ n8_ n9_; clear hb hbox hg; have hnb76 := NB338_334.out; have hnc76 := NB334_338.out; have hnb77 := NB338_335.out; have hnc77 := NB335_338.out; have hcz78_0 : w75.cell? ⟨gb338, 0, none⟩ = some (.string (⟨#[]⟩ : ByteArray)) := (blk_cell BK338.out 0).trans rfl; have hcz78_1 : w75.cell? ⟨gb338, 1, none⟩ = some (.int .i64 0) := (blk_cell BK338.out 1).trans rfl; have hcz78_2 : w75.cell? ⟨gb338, 2, none⟩ = some (.int .i64 0) := (blk_cell BK338.out 2).trans rfl; have hcz78_3 : w75.cell? ⟨gb338, 3, none⟩ = some (.string (⟨#[]⟩ : ByteArray)) := (blk_cell BK338.out 3).trans rfl; have hcz78_4 : w75.cell? ⟨gb338, 4, none⟩ = some (.string (⟨#[]⟩ : ByteArray)) := (blk_cell BK338.out 4).trans rfl; have hcz78_5 : w75.cell? ⟨gb338, 5, none⟩ = some (.int .i64 0) := (blk_cell BK338.out 5).trans rfl; have hfz78_0 := blk_frozen BK338.out 0; have hfz78_1 := blk_frozen BK338.out 1; have hfz78_2 := blk_frozen BK338.out 2; have hfz78_3 := blk_frozen BK338.out 3; have hfz78_4 := blk_frozen BK338.out 4; have hfz78_5 := blk_frozen BK338.out 5; have hcz79_0 : w75.cell? ⟨gb335, 0, none⟩ = some (.string a2_1) := (blk_cell BK335.out 0).trans rfl; have hcz79_1 : w75.cell? ⟨gb335, 1, none⟩ = some (.int .i64 a2_2) := (blk_cell BK335.out 1).trans rfl; have hcz79_2 : w75.cell? ⟨gb335, 2, none⟩ = some (.int .i64 a2_3) := (blk_cell BK335.out 2).trans rfl; have hcz79_3 : w75.cell? ⟨gb335, 3, none⟩ = some (.string a2_4) := (blk_cell BK335.out 3).trans rfl; have hcz79_4 : w75.cell? ⟨gb335, 4, none⟩ = some (.string a2_5) := (blk_cell BK335.out 4).trans rfl; have hcz79_5 : w75.cell? ⟨gb335, 5, none⟩ = some (.int .i64 a2_6) := (blk_cell BK335.out 5).trans rfl; have hfz79_0 := blk_frozen BK335.out 0; have hfz79_1 := blk_frozen BK335.out 1; have hfz79_2 := blk_frozen BK335.out 2; have hfz79_3 := blk_frozen BK335.out 3; have hfz79_4 := blk_frozen BK335.out 4; have hfz79_5 := blk_frozen BK335.out 5))
                            (try simp only [Act.put, List.setIfInBounds_toArray, List.set_cons_zero, List.set_cons_succ])
                            go_cut [] (fun wc => ∃ (kq : Nat) (x339000_71 : ByteArray), Aside0 (quipulaw09_RuleRests.j4 kq a0 a1 a2_0 x11_4 a2_1 a2_2 a2_3 a2_4 a2_5 a2_6 x339000_71 a2_2 a2_3 a2_4 a2_5 a2_6 = some true) ∧ Aside0 (kq ≤ k4) ∧ Aside0 (wc.heap[gb334]? = some (.cells #[.int .i64 a2_0, .string a2_1, .int .i64 a2_2, .int .i64 a2_3, .string a2_4, .string a2_5, .int .i64 a2_6] 42 (0, 0))) ∧ Aside0 (wc.heap[gb335]? = some (.cells #[.string a2_1, .int .i64 a2_2, .int .i64 a2_3, .string a2_4, .string a2_5, .int .i64 a2_6] 29 (0, 0))) ∧ Aside0 (wc.heap[gb338]? = some (.cells #[.string x339000_71, .int .i64 a2_2, .int .i64 a2_3, .string a2_4, .string a2_5, .int .i64 a2_6] 29 (0, 0))) ∧ Aside0 (Below w.heap.size w wc))
                            case first =>
                              have H := HC72.out
                              clear HC72
                              by_cases c80 : a2_1.toList = ([48] : List UInt8)
                              · rw [if_pos c80] at H
                                have c80b0 : (a2_1.toList == ([48] : List UInt8)) = true := beq_iff_eq.mpr c80
                                have c80b1 : (a2_1.toList != ([48] : List UInt8)) = false := bne_eq_false_iff_eq.mpr c80
                                clear c80
                                (first | rw [c80b0] | rw [c80b1] | (simp only [i64_w, i32_w]; rw [c80b0]) | skip)
                                have H' := Aside0.mk H
                                clear H
                                have hnb81 := NB338_334.out
                                have hnc81 := NB334_338.out
                                have hnb82 := NB338_335.out
                                have hnc82 := NB335_338.out
                                have hcz83_0 : w75.cell? ⟨gb338, 0, none⟩ = some (.string (⟨#[]⟩ : ByteArray)) := (blk_cell BK338.out 0).trans rfl
                                have hcz83_1 : w75.cell? ⟨gb338, 1, none⟩ = some (.int .i64 0) := (blk_cell BK338.out 1).trans rfl
                                have hcz83_2 : w75.cell? ⟨gb338, 2, none⟩ = some (.int .i64 0) := (blk_cell BK338.out 2).trans rfl
                                have hcz83_3 : w75.cell? ⟨gb338, 3, none⟩ = some (.string (⟨#[]⟩ : ByteArray)) := (blk_cell BK338.out 3).trans rfl
                                have hcz83_4 : w75.cell? ⟨gb338, 4, none⟩ = some (.string (⟨#[]⟩ : ByteArray)) := (blk_cell BK338.out 4).trans rfl
                                have hcz83_5 : w75.cell? ⟨gb338, 5, none⟩ = some (.int .i64 0) := (blk_cell BK338.out 5).trans rfl
                                have hfz83_0 := blk_frozen BK338.out 0
                                have hfz83_1 := blk_frozen BK338.out 1
                                have hfz83_2 := blk_frozen BK338.out 2
                                have hfz83_3 := blk_frozen BK338.out 3
                                have hfz83_4 := blk_frozen BK338.out 4
                                have hfz83_5 := blk_frozen BK338.out 5
                                go_wp2
                                go_meet
                                case rel => exact ⟨_, ((⟨#[]⟩ : ByteArray)), H', ⟨by have := HJ5.out; have := HK2.out; have := HK3.out; have := HK4.out; first | omega | exact Nat.le_refl _⟩, ⟨by (with_reducible repeat (first | refine blk_drewN ?_ _ | refine blk_drew ?_ | refine blk_alloc ?_ _)); refine blk_far ?_ NB334_338.out _; (with_reducible repeat (first | refine blk_drewN ?_ _ | refine blk_drew ?_ | refine blk_alloc ?_ _)); refine blk_far ?_ NB334_338.out _; (with_reducible repeat (first | refine blk_drewN ?_ _ | refine blk_drew ?_ | refine blk_alloc ?_ _)); refine blk_far ?_ NB334_338.out _; (with_reducible repeat (first | refine blk_drewN ?_ _ | refine blk_drew ?_ | refine blk_alloc ?_ _)); refine blk_far ?_ NB334_338.out _; (with_reducible repeat (first | refine blk_drewN ?_ _ | refine blk_drew ?_ | refine blk_alloc ?_ _)); refine blk_far ?_ NB334_338.out _; (with_reducible repeat (first | refine blk_drewN ?_ _ | refine blk_drew ?_ | refine blk_alloc ?_ _)); refine blk_far ?_ NB334_338.out _; (with_reducible repeat (first | refine blk_drewN ?_ _ | refine blk_drew ?_ | refine blk_alloc ?_ _)); refine blk_far ?_ NB334_338.out _; (with_reducible repeat (first | refine blk_drewN ?_ _ | refine blk_drew ?_ | refine blk_alloc ?_ _)); exact BK334.out⟩, ⟨by (with_reducible repeat (first | refine blk_drewN ?_ _ | refine blk_drew ?_ | refine blk_alloc ?_ _)); refine blk_far ?_ NB335_338.out _; (with_reducible repeat (first | refine blk_drewN ?_ _ | refine blk_drew ?_ | refine blk_alloc ?_ _)); refine blk_far ?_ NB335_338.out _; (with_reducible repeat (first | refine blk_drewN ?_ _ | refine blk_drew ?_ | refine blk_alloc ?_ _)); refine blk_far ?_ NB335_338.out _; (with_reducible repeat (first | refine blk_drewN ?_ _ | refine blk_drew ?_ | refine blk_alloc ?_ _)); refine blk_far ?_ NB335_338.out _; (with_reducible repeat (first | refine blk_drewN ?_ _ | refine blk_drew ?_ | refine blk_alloc ?_ _)); refine blk_far ?_ NB335_338.out _; (with_reducible repeat (first | refine blk_drewN ?_ _ | refine blk_drew ?_ | refine blk_alloc ?_ _)); refine blk_far ?_ NB335_338.out _; (with_reducible repeat (first | refine blk_drewN ?_ _ | refine blk_drew ?_ | refine blk_alloc ?_ _)); refine blk_far ?_ NB335_338.out _; (with_reducible repeat (first | refine blk_drewN ?_ _ | refine blk_drew ?_ | refine blk_alloc ?_ _)); exact BK335.out⟩, ⟨by (with_reducible repeat (first | refine blk_drewN ?_ _ | refine blk_drew ?_ | refine blk_alloc ?_ _)); refine blk_put (cs := #[.string a2_1, .int .i64 a2_2, .int .i64 a2_3, .string a2_4, .string a2_5, .int .i64 a2_6]) ?_ 0 _ rfl; (with_reducible repeat (first | refine blk_drewN ?_ _ | refine blk_drew ?_ | refine blk_alloc ?_ _)); refine blk_put (cs := #[.string a2_1, .int .i64 a2_2, .int .i64 a2_3, .string a2_4, .string a2_5, .int .i64 0]) ?_ 5 _ rfl; (with_reducible repeat (first | refine blk_drewN ?_ _ | refine blk_drew ?_ | refine blk_alloc ?_ _)); refine blk_put (cs := #[.string a2_1, .int .i64 a2_2, .int .i64 a2_3, .string a2_4, .string (⟨#[]⟩ : ByteArray), .int .i64 0]) ?_ 4 _ rfl; (with_reducible repeat (first | refine blk_drewN ?_ _ | refine blk_drew ?_ | refine blk_alloc ?_ _)); refine blk_put (cs := #[.string a2_1, .int .i64 a2_2, .int .i64 a2_3, .string (⟨#[]⟩ : ByteArray), .string (⟨#[]⟩ : ByteArray), .int .i64 0]) ?_ 3 _ rfl; (with_reducible repeat (first | refine blk_drewN ?_ _ | refine blk_drew ?_ | refine blk_alloc ?_ _)); refine blk_put (cs := #[.string a2_1, .int .i64 a2_2, .int .i64 0, .string (⟨#[]⟩ : ByteArray), .string (⟨#[]⟩ : ByteArray), .int .i64 0]) ?_ 2 _ rfl; (with_reducible repeat (first | refine blk_drewN ?_ _ | refine blk_drew ?_ | refine blk_alloc ?_ _)); refine blk_put (cs := #[.string a2_1, .int .i64 0, .int .i64 0, .string (⟨#[]⟩ : ByteArray), .string (⟨#[]⟩ : ByteArray), .int .i64 0]) ?_ 1 _ rfl; (with_reducible repeat (first | refine blk_drewN ?_ _ | refine blk_drew ?_ | refine blk_alloc ?_ _)); refine blk_put (cs := #[.string (⟨#[]⟩ : ByteArray), .int .i64 0, .int .i64 0, .string (⟨#[]⟩ : ByteArray), .string (⟨#[]⟩ : ByteArray), .int .i64 0]) ?_ 0 _ rfl; (with_reducible repeat (first | refine blk_drewN ?_ _ | refine blk_drew ?_ | refine blk_alloc ?_ _)); exact BK338.out⟩, ⟨by repeat (first | (with_reducible first | exact HB.out | apply below_alloc | apply pw_below_drewN | apply below_drew1 | refine below_set ?_ GE334.out | refine below_set ?_ GE335.out | refine below_set ?_ GE338.out) | exact HB.out)⟩⟩
                              · rw [if_neg c80] at H
                                have c80b0 : (a2_1.toList == ([48] : List UInt8)) = false := beq_eq_false_iff_ne.mpr c80
                                have c80b1 : (a2_1.toList != ([48] : List UInt8)) = true := bne_iff_ne.mpr c80
                                (first | rw [c80b0] | rw [c80b1] | (simp only [i64_w, i32_w]; rw [c80b0]) | skip)
                                have H' := Aside0.mk H
                                clear H
                                go_wp2
                                go_meet
                                case rel => exact ⟨_, (a2_1), H', ⟨by have := HJ5.out; have := HK2.out; have := HK3.out; have := HK4.out; first | omega | exact Nat.le_refl _⟩, ⟨by (with_reducible repeat (first | refine blk_drewN ?_ _ | refine blk_drew ?_ | refine blk_alloc ?_ _)); refine blk_far ?_ NB334_338.out _; (with_reducible repeat (first | refine blk_drewN ?_ _ | refine blk_drew ?_ | refine blk_alloc ?_ _)); refine blk_far ?_ NB334_338.out _; (with_reducible repeat (first | refine blk_drewN ?_ _ | refine blk_drew ?_ | refine blk_alloc ?_ _)); refine blk_far ?_ NB334_338.out _; (with_reducible repeat (first | refine blk_drewN ?_ _ | refine blk_drew ?_ | refine blk_alloc ?_ _)); refine blk_far ?_ NB334_338.out _; (with_reducible repeat (first | refine blk_drewN ?_ _ | refine blk_drew ?_ | refine blk_alloc ?_ _)); refine blk_far ?_ NB334_338.out _; (with_reducible repeat (first | refine blk_drewN ?_ _ | refine blk_drew ?_ | refine blk_alloc ?_ _)); refine blk_far ?_ NB334_338.out _; (with_reducible repeat (first | refine blk_drewN ?_ _ | refine blk_drew ?_ | refine blk_alloc ?_ _)); exact BK334.out⟩, ⟨by (with_reducible repeat (first | refine blk_drewN ?_ _ | refine blk_drew ?_ | refine blk_alloc ?_ _)); refine blk_far ?_ NB335_338.out _; (with_reducible repeat (first | refine blk_drewN ?_ _ | refine blk_drew ?_ | refine blk_alloc ?_ _)); refine blk_far ?_ NB335_338.out _; (with_reducible repeat (first | refine blk_drewN ?_ _ | refine blk_drew ?_ | refine blk_alloc ?_ _)); refine blk_far ?_ NB335_338.out _; (with_reducible repeat (first | refine blk_drewN ?_ _ | refine blk_drew ?_ | refine blk_alloc ?_ _)); refine blk_far ?_ NB335_338.out _; (with_reducible repeat (first | refine blk_drewN ?_ _ | refine blk_drew ?_ | refine blk_alloc ?_ _)); refine blk_far ?_ NB335_338.out _; (with_reducible repeat (first | refine blk_drewN ?_ _ | refine blk_drew ?_ | refine blk_alloc ?_ _)); refine blk_far ?_ NB335_338.out _; (with_reducible repeat (first | refine blk_drewN ?_ _ | refine blk_drew ?_ | refine blk_alloc ?_ _)); exact BK335.out⟩, ⟨by (with_reducible repeat (first | refine blk_drewN ?_ _ | refine blk_drew ?_ | refine blk_alloc ?_ _)); refine blk_put (cs := #[.string a2_1, .int .i64 a2_2, .int .i64 a2_3, .string a2_4, .string a2_5, .int .i64 0]) ?_ 5 _ rfl; (with_reducible repeat (first | refine blk_drewN ?_ _ | refine blk_drew ?_ | refine blk_alloc ?_ _)); refine blk_put (cs := #[.string a2_1, .int .i64 a2_2, .int .i64 a2_3, .string a2_4, .string (⟨#[]⟩ : ByteArray), .int .i64 0]) ?_ 4 _ rfl; (with_reducible repeat (first | refine blk_drewN ?_ _ | refine blk_drew ?_ | refine blk_alloc ?_ _)); refine blk_put (cs := #[.string a2_1, .int .i64 a2_2, .int .i64 a2_3, .string (⟨#[]⟩ : ByteArray), .string (⟨#[]⟩ : ByteArray), .int .i64 0]) ?_ 3 _ rfl; (with_reducible repeat (first | refine blk_drewN ?_ _ | refine blk_drew ?_ | refine blk_alloc ?_ _)); refine blk_put (cs := #[.string a2_1, .int .i64 a2_2, .int .i64 0, .string (⟨#[]⟩ : ByteArray), .string (⟨#[]⟩ : ByteArray), .int .i64 0]) ?_ 2 _ rfl; (with_reducible repeat (first | refine blk_drewN ?_ _ | refine blk_drew ?_ | refine blk_alloc ?_ _)); refine blk_put (cs := #[.string a2_1, .int .i64 0, .int .i64 0, .string (⟨#[]⟩ : ByteArray), .string (⟨#[]⟩ : ByteArray), .int .i64 0]) ?_ 1 _ rfl; (with_reducible repeat (first | refine blk_drewN ?_ _ | refine blk_drew ?_ | refine blk_alloc ?_ _)); refine blk_put (cs := #[.string (⟨#[]⟩ : ByteArray), .int .i64 0, .int .i64 0, .string (⟨#[]⟩ : ByteArray), .string (⟨#[]⟩ : ByteArray), .int .i64 0]) ?_ 0 _ rfl; (with_reducible repeat (first | refine blk_drewN ?_ _ | refine blk_drew ?_ | refine blk_alloc ?_ _)); exact BK338.out⟩, ⟨by repeat (first | (with_reducible first | exact HB.out | apply below_alloc | apply pw_below_drewN | apply below_drew1 | refine below_set ?_ GE334.out | refine below_set ?_ GE335.out | refine below_set ?_ GE338.out) | exact HB.out)⟩⟩
                            case rest =>
                              clear HC72
                              try clear c1
                              try clear c2
                              try clear p2
                              try clear c3
                              try clear p3
                              try clear q3
                              try clear hx3
                              try clear qi3
                              try clear c4
                              try clear p4
                              try clear q4
                              try clear hx4
                              try clear c5
                              try clear p5
                              try clear q5
                              try clear hx5
                              try clear c6
                              try clear p6
                              try clear q6
                              try clear hx6
                              try clear c7
                              try clear c8
                              try clear c10
                              try clear c17
                              try clear c17b0
                              try clear c17b1
                              try clear c18
                              try clear c18b0
                              try clear c20
                              try clear c21
                              try clear c21b0
                              try clear c21b1
                              try clear c22
                              try clear c26
                              try clear c26b0
                              try clear c26b1
                              try clear c27
                              try clear c31
                              try clear c31b0
                              try clear c31b1
                              try clear c32
                              try clear c36
                              try clear c36b0
                              try clear c36b1
                              try clear p37
                              try clear q37
                              try clear hx37
                              try clear qi37
                              try clear c38
                              try clear c42
                              try clear c45
                              try clear c46
                              try clear c46b0
                              try clear c47
                              try clear c47b0
                              try clear p48
                              try clear q48
                              try clear hx48
                              try clear c49
                              try clear c49b0
                              try clear p50
                              try clear q50
                              try clear hx50
                              try clear c51
                              try clear c51b0
                              try clear c52
                              try clear c52b0
                              try clear c53
                              try clear c53b0
                              try clear p54
                              try clear q54
                              try clear hx54
                              try clear c55
                              try clear c55b0
                              try clear p56
                              try clear q56
                              try clear hx56
                              try clear c57
                              try clear c57b0
                              try clear c57b1
                              try clear p58
                              try clear q58
                              try clear hx58
                              try clear c59
                              try clear c59b0
                              try clear c59b1
                              try clear p60
                              try clear q60
                              try clear hx60
                              try clear c61
                              try clear c61b0
                              try clear c61b1
                              try clear p62
                              try clear q62
                              try clear hx62
                              try clear c63
                              try clear c63b0
                              try clear p64
                              try clear q64
                              try clear hx64
                              try clear c65
                              try clear c65b0
                              try clear c65b1
                              try clear p66
                              try clear q66
                              try clear hx66
                              try clear c67
                              try clear c67b0
                              try clear c67b1
                              try clear p68
                              try clear q68
                              try clear hx68
                              try clear c69
                              try clear c69b0
                              try clear c69b1
                              try clear c70
                              try clear c70b0
                              try clear c71
                              try clear c71b0
                              try clear c71b1
                              try clear c71b2
                              try clear c73
                              try clear c76
                              try clear c77
                              try clear c80
                              try clear c80b0
                              try clear c80b1
                              try clear c81
                              try clear c82
                              try clear hcz23_0
                              try clear hcz23_1
                              try clear hcz23_2
                              try clear hcz23_3
                              try clear hcz23_4
                              try clear hcz23_5
                              try clear hcz25_0
                              try clear hcz25_1
                              try clear hcz25_2
                              try clear hcz25_3
                              try clear hcz25_4
                              try clear hcz25_5
                              try clear hcz28_0
                              try clear hcz28_1
                              try clear hcz28_2
                              try clear hcz28_3
                              try clear hcz28_4
                              try clear hcz28_5
                              try clear hcz30_0
                              try clear hcz30_1
                              try clear hcz30_2
                              try clear hcz30_3
                              try clear hcz30_4
                              try clear hcz30_5
                              try clear hcz33_0
                              try clear hcz33_1
                              try clear hcz33_2
                              try clear hcz33_3
                              try clear hcz33_4
                              try clear hcz33_5
                              try clear hcz35_0
                              try clear hcz35_1
                              try clear hcz35_2
                              try clear hcz35_3
                              try clear hcz35_4
                              try clear hcz35_5
                              try clear hcz39_0
                              try clear hcz39_1
                              try clear hcz39_2
                              try clear hcz39_3
                              try clear hcz39_4
                              try clear hcz39_5
                              try clear hcz41_0
                              try clear hcz41_1
                              try clear hcz41_2
                              try clear hcz41_3
                              try clear hcz41_4
                              try clear hcz41_5
                              try clear hcz43_0
                              try clear hcz43_1
                              try clear hcz43_2
                              try clear hcz43_3
                              try clear hcz43_4
                              try clear hcz43_5
                              try clear hcz74_0
                              try clear hcz74_1
                              try clear hcz74_2
                              try clear hcz74_3
                              try clear hcz74_4
                              try clear hcz74_5
                              try clear hcz78_0
                              try clear hcz78_1
                              try clear hcz78_2
                              try clear hcz78_3
                              try clear hcz78_4
                              try clear hcz78_5
                              try clear hcz79_0
                              try clear hcz79_1
                              try clear hcz79_2
                              try clear hcz79_3
                              try clear hcz79_4
                              try clear hcz79_5
                              try clear hcz83_0
                              try clear hcz83_1
                              try clear hcz83_2
                              try clear hcz83_3
                              try clear hcz83_4
                              try clear hcz83_5
                              try clear hfz23_0
                              try clear hfz23_1
                              try clear hfz23_2
                              try clear hfz23_3
                              try clear hfz23_4
                              try clear hfz23_5
                              try clear hfz25_0
                              try clear hfz25_1
                              try clear hfz25_2
                              try clear hfz25_3
                              try clear hfz25_4
                              try clear hfz25_5
                              try clear hfz28_0
                              try clear hfz28_1
                              try clear hfz28_2
                              try clear hfz28_3
                              try clear hfz28_4
                              try clear hfz28_5
                              try clear hfz30_0
                              try clear hfz30_1
                              try clear hfz30_2
                              try clear hfz30_3
                              try clear hfz30_4
                              try clear hfz30_5
                              try clear hfz33_0
                              try clear hfz33_1
                              try clear hfz33_2
                              try clear hfz33_3
                              try clear hfz33_4
                              try clear hfz33_5
                              try clear hfz35_0
                              try clear hfz35_1
                              try clear hfz35_2
                              try clear hfz35_3
                              try clear hfz35_4
                              try clear hfz35_5
                              try clear hfz39_0
                              try clear hfz39_1
                              try clear hfz39_2
                              try clear hfz39_3
                              try clear hfz39_4
                              try clear hfz39_5
                              try clear hfz41_0
                              try clear hfz41_1
                              try clear hfz41_2
                              try clear hfz41_3
                              try clear hfz41_4
                              try clear hfz41_5
                              try clear hfz43_0
                              try clear hfz43_1
                              try clear hfz43_2
                              try clear hfz43_3
                              try clear hfz43_4
                              try clear hfz43_5
                              try clear hfz74_0
                              try clear hfz74_1
                              try clear hfz74_2
                              try clear hfz74_3
                              try clear hfz74_4
                              try clear hfz74_5
                              try clear hfz78_0
                              try clear hfz78_1
                              try clear hfz78_2
                              try clear hfz78_3
                              try clear hfz78_4
                              try clear hfz78_5
                              try clear hfz79_0
                              try clear hfz79_1
                              try clear hfz79_2
                              try clear hfz79_3
                              try clear hfz79_4
                              try clear hfz79_5
                              try clear hfz83_0
                              try clear hfz83_1
                              try clear hfz83_2
                              try clear hfz83_3
                              try clear hfz83_4
                              try clear hfz83_5
                              try clear p2
                              try clear p3
                              try clear p37
                              try clear p4
                              try clear p48
                              try clear p5
                              try clear p50
                              try clear p54
                              try clear p56
                              try clear p58
                              try clear p6
                              try clear p60
                              try clear p62
                              try clear p64
                              try clear p66
                              try clear p68
                              try clear q3
                              try clear q37
                              try clear q4
                              try clear q48
                              try clear q5
                              try clear q50
                              try clear q54
                              try clear q56
                              try clear q58
                              try clear q6
                              try clear q60
                              try clear q62
                              try clear q64
                              try clear q66
                              try clear q68
                              obtain ⟨kq, x339000_71, HA, HJ71, BK334, BK335, BK338, HB⟩ := hcut
                              cases kq with
                              | zero => exact absurd HA.out (by simp [quipulaw09_RuleRests.j4])
                              | succ kj71 =>
                                have H := HA.out
                                clear HA
                                simp only [quipulaw09_RuleRests.j4] at H
                                have H' := Aside0.mk H
                                clear H
                                go_wp2
                                go_loopg [] kj71 (fun kq w' => ∃ (x339000_6 : ByteArray), Aside0 (quipulaw09_RuleRests.l3 kq a0 a1 a2_0 x11_4 a2_1 a2_2 a2_3 a2_4 a2_5 a2_6 x339000_6 a2_2 a2_3 a2_4 a2_5 a2_6 = some true) ∧ Aside0 (kq ≤ kj71) ∧ Aside0 (w'.heap[gb334]? = some (.cells #[.int .i64 a2_0, .string a2_1, .int .i64 a2_2, .int .i64 a2_3, .string a2_4, .string a2_5, .int .i64 a2_6] 42 (0, 0))) ∧ Aside0 (w'.heap[gb335]? = some (.cells #[.string a2_1, .int .i64 a2_2, .int .i64 a2_3, .string a2_4, .string a2_5, .int .i64 a2_6] 29 (0, 0))) ∧ Aside0 (w'.heap[gb338]? = some (.cells #[.string x339000_6, .int .i64 a2_2, .int .i64 a2_3, .string a2_4, .string a2_5, .int .i64 a2_6] 29 (0, 0))) ∧ Aside0 (Below w.heap.size w w'))
                                case atStart => exact ⟨(x339000_71), H', ⟨Nat.le_refl _⟩, ⟨by (with_reducible repeat (first | refine blk_drewN ?_ _ | refine blk_drew ?_ | refine blk_alloc ?_ _)); exact BK334.out⟩, ⟨by (with_reducible repeat (first | refine blk_drewN ?_ _ | refine blk_drew ?_ | refine blk_alloc ?_ _)); exact BK335.out⟩, ⟨by (with_reducible repeat (first | refine blk_drewN ?_ _ | refine blk_drew ?_ | refine blk_alloc ?_ _)); exact BK338.out⟩, ⟨by repeat (first | (with_reducible first | exact HB.out | apply below_alloc | apply pw_below_drewN | apply below_drew1 | refine below_set ?_ GE334.out | refine below_set ?_ GE335.out | refine below_set ?_ GE338.out) | exact HB.out)⟩⟩
                                case round =>
                                  clear H'
                                  try clear c1
                                  try clear c2
                                  try clear p2
                                  try clear c3
                                  try clear p3
                                  try clear q3
                                  try clear hx3
                                  try clear qi3
                                  try clear c4
                                  try clear p4
                                  try clear q4
                                  try clear hx4
                                  try clear c5
                                  try clear p5
                                  try clear q5
                                  try clear hx5
                                  try clear c6
                                  try clear p6
                                  try clear q6
                                  try clear hx6
                                  try clear c7
                                  try clear c8
                                  try clear c10
                                  try clear c17
                                  try clear c17b0
                                  try clear c17b1
                                  try clear c18
                                  try clear c18b0
                                  try clear c20
                                  try clear c21
                                  try clear c21b0
                                  try clear c21b1
                                  try clear c22
                                  try clear c26
                                  try clear c26b0
                                  try clear c26b1
                                  try clear c27
                                  try clear c31
                                  try clear c31b0
                                  try clear c31b1
                                  try clear c32
                                  try clear c36
                                  try clear c36b0
                                  try clear c36b1
                                  try clear p37
                                  try clear q37
                                  try clear hx37
                                  try clear qi37
                                  try clear c38
                                  try clear c42
                                  try clear c45
                                  try clear c46
                                  try clear c46b0
                                  try clear c47
                                  try clear c47b0
                                  try clear p48
                                  try clear q48
                                  try clear hx48
                                  try clear c49
                                  try clear c49b0
                                  try clear p50
                                  try clear q50
                                  try clear hx50
                                  try clear c51
                                  try clear c51b0
                                  try clear c52
                                  try clear c52b0
                                  try clear c53
                                  try clear c53b0
                                  try clear p54
                                  try clear q54
                                  try clear hx54
                                  try clear c55
                                  try clear c55b0
                                  try clear p56
                                  try clear q56
                                  try clear hx56
                                  try clear c57
                                  try clear c57b0
                                  try clear c57b1
                                  try clear p58
                                  try clear q58
                                  try clear hx58
                                  try clear c59
                                  try clear c59b0
                                  try clear c59b1
                                  try clear p60
                                  try clear q60
                                  try clear hx60
                                  try clear c61
                                  try clear c61b0
                                  try clear c61b1
                                  try clear p62
                                  try clear q62
                                  try clear hx62
                                  try clear c63
                                  try clear c63b0
                                  try clear p64
                                  try clear q64
                                  try clear hx64
                                  try clear c65
                                  try clear c65b0
                                  try clear c65b1
                                  try clear p66
                                  try clear q66
                                  try clear hx66
                                  try clear c67
                                  try clear c67b0
                                  try clear c67b1
                                  try clear p68
                                  try clear q68
                                  try clear hx68
                                  try clear c69
                                  try clear c69b0
                                  try clear c69b1
                                  try clear c70
                                  try clear c70b0
                                  try clear c71
                                  try clear c71b0
                                  try clear c71b1
                                  try clear c71b2
                                  try clear c73
                                  try clear c76
                                  try clear c77
                                  try clear c80
                                  try clear c80b0
                                  try clear c80b1
                                  try clear c81
                                  try clear c82
                                  try clear hcz23_0
                                  try clear hcz23_1
                                  try clear hcz23_2
                                  try clear hcz23_3
                                  try clear hcz23_4
                                  try clear hcz23_5
                                  try clear hcz25_0
                                  try clear hcz25_1
                                  try clear hcz25_2
                                  try clear hcz25_3
                                  try clear hcz25_4
                                  try clear hcz25_5
                                  try clear hcz28_0
                                  try clear hcz28_1
                                  try clear hcz28_2
                                  try clear hcz28_3
                                  try clear hcz28_4
                                  try clear hcz28_5
                                  try clear hcz30_0
                                  try clear hcz30_1
                                  try clear hcz30_2
                                  try clear hcz30_3
                                  try clear hcz30_4
                                  try clear hcz30_5
                                  try clear hcz33_0
                                  try clear hcz33_1
                                  try clear hcz33_2
                                  try clear hcz33_3
                                  try clear hcz33_4
                                  try clear hcz33_5
                                  try clear hcz35_0
                                  try clear hcz35_1
                                  try clear hcz35_2
                                  try clear hcz35_3
                                  try clear hcz35_4
                                  try clear hcz35_5
                                  try clear hcz39_0
                                  try clear hcz39_1
                                  try clear hcz39_2
                                  try clear hcz39_3
                                  try clear hcz39_4
                                  try clear hcz39_5
                                  try clear hcz41_0
                                  try clear hcz41_1
                                  try clear hcz41_2
                                  try clear hcz41_3
                                  try clear hcz41_4
                                  try clear hcz41_5
                                  try clear hcz43_0
                                  try clear hcz43_1
                                  try clear hcz43_2
                                  try clear hcz43_3
                                  try clear hcz43_4
                                  try clear hcz43_5
                                  try clear hcz74_0
                                  try clear hcz74_1
                                  try clear hcz74_2
                                  try clear hcz74_3
                                  try clear hcz74_4
                                  try clear hcz74_5
                                  try clear hcz78_0
                                  try clear hcz78_1
                                  try clear hcz78_2
                                  try clear hcz78_3
                                  try clear hcz78_4
                                  try clear hcz78_5
                                  try clear hcz79_0
                                  try clear hcz79_1
                                  try clear hcz79_2
                                  try clear hcz79_3
                                  try clear hcz79_4
                                  try clear hcz79_5
                                  try clear hcz83_0
                                  try clear hcz83_1
                                  try clear hcz83_2
                                  try clear hcz83_3
                                  try clear hcz83_4
                                  try clear hcz83_5
                                  try clear hfz23_0
                                  try clear hfz23_1
                                  try clear hfz23_2
                                  try clear hfz23_3
                                  try clear hfz23_4
                                  try clear hfz23_5
                                  try clear hfz25_0
                                  try clear hfz25_1
                                  try clear hfz25_2
                                  try clear hfz25_3
                                  try clear hfz25_4
                                  try clear hfz25_5
                                  try clear hfz28_0
                                  try clear hfz28_1
                                  try clear hfz28_2
                                  try clear hfz28_3
                                  try clear hfz28_4
                                  try clear hfz28_5
                                  try clear hfz30_0
                                  try clear hfz30_1
                                  try clear hfz30_2
                                  try clear hfz30_3
                                  try clear hfz30_4
                                  try clear hfz30_5
                                  try clear hfz33_0
                                  try clear hfz33_1
                                  try clear hfz33_2
                                  try clear hfz33_3
                                  try clear hfz33_4
                                  try clear hfz33_5
                                  try clear hfz35_0
                                  try clear hfz35_1
                                  try clear hfz35_2
                                  try clear hfz35_3
                                  try clear hfz35_4
                                  try clear hfz35_5
                                  try clear hfz39_0
                                  try clear hfz39_1
                                  try clear hfz39_2
                                  try clear hfz39_3
                                  try clear hfz39_4
                                  try clear hfz39_5
                                  try clear hfz41_0
                                  try clear hfz41_1
                                  try clear hfz41_2
                                  try clear hfz41_3
                                  try clear hfz41_4
                                  try clear hfz41_5
                                  try clear hfz43_0
                                  try clear hfz43_1
                                  try clear hfz43_2
                                  try clear hfz43_3
                                  try clear hfz43_4
                                  try clear hfz43_5
                                  try clear hfz74_0
                                  try clear hfz74_1
                                  try clear hfz74_2
                                  try clear hfz74_3
                                  try clear hfz74_4
                                  try clear hfz74_5
                                  try clear hfz78_0
                                  try clear hfz78_1
                                  try clear hfz78_2
                                  try clear hfz78_3
                                  try clear hfz78_4
                                  try clear hfz78_5
                                  try clear hfz79_0
                                  try clear hfz79_1
                                  try clear hfz79_2
                                  try clear hfz79_3
                                  try clear hfz79_4
                                  try clear hfz79_5
                                  try clear hfz83_0
                                  try clear hfz83_1
                                  try clear hfz83_2
                                  try clear hfz83_3
                                  try clear hfz83_4
                                  try clear hfz83_5
                                  try clear p2
                                  try clear p3
                                  try clear p37
                                  try clear p4
                                  try clear p48
                                  try clear p5
                                  try clear p50
                                  try clear p54
                                  try clear p56
                                  try clear p58
                                  try clear p6
                                  try clear p60
                                  try clear p62
                                  try clear p64
                                  try clear p66
                                  try clear p68
                                  try clear q3
                                  try clear q37
                                  try clear q4
                                  try clear q48
                                  try clear q5
                                  try clear q50
                                  try clear q54
                                  try clear q56
                                  try clear q58
                                  try clear q6
                                  try clear q60
                                  try clear q62
                                  try clear q64
                                  try clear q66
                                  try clear q68
                                  obtain ⟨x339000_6, HA, HK6, BK334, BK335, BK338, HB⟩ := hrel
                                  cases gk with
                                  | zero => exact absurd HA.out (by simp [quipulaw09_RuleRests.l3])
                                  | succ k6 =>
                                    have H := HA.out
                                    clear HA
                                    simp only [quipulaw09_RuleRests.l3] at H
                                    by_cases c84 : (x339000_6.size : Int) < a2_0
                                    · rw [if_pos c84] at H
                                      have c84b0 : decide ((x339000_6.size : Int) < a2_0) = true := decide_eq_true c84
                                      clear c84
                                      by_cases c85 : 1 + x339000_6.size ≤ 9223372036854775807
                                      · rw [if_pos c85] at H
                                        have c85b0 := eq_true c85
                                        have c85b1 : decide (1 + x339000_6.size ≤ 9223372036854775807) = true := decide_eq_true c85
                                        try have c85b2 : (9223372036854775807 < 1 + x339000_6.size) = False := eq_false (Nat.not_lt.2 c85)
                                        have H' := Aside0.mk H
                                        clear H
                                        have hnb86 := NB338_334.out
                                        have hnc86 := NB334_338.out
                                        have hnb87 := NB338_335.out
                                        have hnc87 := NB335_338.out
                                        have hcz88_0 : wr.cell? ⟨gb338, 0, none⟩ = some (.string x339000_6) := (blk_cell BK338.out 0).trans rfl
                                        have hcz88_1 : wr.cell? ⟨gb338, 1, none⟩ = some (.int .i64 a2_2) := (blk_cell BK338.out 1).trans rfl
                                        have hcz88_2 : wr.cell? ⟨gb338, 2, none⟩ = some (.int .i64 a2_3) := (blk_cell BK338.out 2).trans rfl
                                        have hcz88_3 : wr.cell? ⟨gb338, 3, none⟩ = some (.string a2_4) := (blk_cell BK338.out 3).trans rfl
                                        have hcz88_4 : wr.cell? ⟨gb338, 4, none⟩ = some (.string a2_5) := (blk_cell BK338.out 4).trans rfl
                                        have hcz88_5 : wr.cell? ⟨gb338, 5, none⟩ = some (.int .i64 a2_6) := (blk_cell BK338.out 5).trans rfl
                                        have hfz88_0 := blk_frozen BK338.out 0
                                        have hfz88_1 := blk_frozen BK338.out 1
                                        have hfz88_2 := blk_frozen BK338.out 2
                                        have hfz88_3 := blk_frozen BK338.out 3
                                        have hfz88_4 := blk_frozen BK338.out 4
                                        have hfz88_5 := blk_frozen BK338.out 5
                                        go_wp2
                                        go_roundg k6
                                        case measure => have := HJ5.out; have := HK2.out; have := HK3.out; have := HK4.out; have := HJ71.out; have := HK6.out; omega
                                        case rel => exact ⟨((⟨#[48]⟩ : ByteArray) ++ x339000_6), H', ⟨by have := HJ5.out; have := HK2.out; have := HK3.out; have := HK4.out; have := HJ71.out; have := HK6.out; omega⟩, ⟨by (with_reducible repeat (first | refine blk_drewN ?_ _ | refine blk_drew ?_ | refine blk_alloc ?_ _)); refine blk_far ?_ NB334_338.out _; (with_reducible repeat (first | refine blk_drewN ?_ _ | refine blk_drew ?_ | refine blk_alloc ?_ _)); exact BK334.out⟩, ⟨by (with_reducible repeat (first | refine blk_drewN ?_ _ | refine blk_drew ?_ | refine blk_alloc ?_ _)); refine blk_far ?_ NB335_338.out _; (with_reducible repeat (first | refine blk_drewN ?_ _ | refine blk_drew ?_ | refine blk_alloc ?_ _)); exact BK335.out⟩, ⟨by (with_reducible repeat (first | refine blk_drewN ?_ _ | refine blk_drew ?_ | refine blk_alloc ?_ _)); refine blk_put (cs := #[.string x339000_6, .int .i64 a2_2, .int .i64 a2_3, .string a2_4, .string a2_5, .int .i64 a2_6]) ?_ 0 _ rfl; (with_reducible repeat (first | refine blk_drewN ?_ _ | refine blk_drew ?_ | refine blk_alloc ?_ _)); exact BK338.out⟩, ⟨by repeat (first | (with_reducible first | exact HB.out | apply below_alloc | apply pw_below_drewN | apply below_drew1 | refine below_set ?_ GE334.out | refine below_set ?_ GE335.out | refine below_set ?_ GE338.out) | exact HB.out)⟩⟩
                                      · rw [if_neg c85] at H
                                        exact absurd H (by simp)
                                    · rw [if_neg c84] at H
                                      have c84b0 : decide ((x339000_6.size : Int) < a2_0) = false := decide_eq_false c84
                                      clear c84
                                      by_cases c89 : a1.size + x339000_6.size ≤ 9223372036854775807
                                      · rw [if_pos c89] at H
                                        have c89b0 := eq_true c89
                                        have c89b1 : decide (a1.size + x339000_6.size ≤ 9223372036854775807) = true := decide_eq_true c89
                                        try have c89b2 : (9223372036854775807 < a1.size + x339000_6.size) = False := eq_false (Nat.not_lt.2 c89)
                                        have H' := Aside0.mk H
                                        clear H
                                        have hnb90 := NB338_334.out
                                        have hnc90 := NB334_338.out
                                        have hnb91 := NB338_335.out
                                        have hnc91 := NB335_338.out
                                        have hcz92_0 : wr.cell? ⟨gb338, 0, none⟩ = some (.string x339000_6) := (blk_cell BK338.out 0).trans rfl
                                        have hcz92_1 : wr.cell? ⟨gb338, 1, none⟩ = some (.int .i64 a2_2) := (blk_cell BK338.out 1).trans rfl
                                        have hcz92_2 : wr.cell? ⟨gb338, 2, none⟩ = some (.int .i64 a2_3) := (blk_cell BK338.out 2).trans rfl
                                        have hcz92_3 : wr.cell? ⟨gb338, 3, none⟩ = some (.string a2_4) := (blk_cell BK338.out 3).trans rfl
                                        have hcz92_4 : wr.cell? ⟨gb338, 4, none⟩ = some (.string a2_5) := (blk_cell BK338.out 4).trans rfl
                                        have hcz92_5 : wr.cell? ⟨gb338, 5, none⟩ = some (.int .i64 a2_6) := (blk_cell BK338.out 5).trans rfl
                                        have hfz92_0 := blk_frozen BK338.out 0
                                        have hfz92_1 := blk_frozen BK338.out 1
                                        have hfz92_2 := blk_frozen BK338.out 2
                                        have hfz92_3 := blk_frozen BK338.out 3
                                        have hfz92_4 := blk_frozen BK338.out 4
                                        have hfz92_5 := blk_frozen BK338.out 5
                                        go_wp2
                                        go_loopg [14] k6 (fun kq v14 w' => ∃ (x14_7 : Int), v14 = .int .i64 x14_7 ∧ Aside0 (quipulaw09_RuleRests.l4 kq a0 x11_4 x14_7 a2_1 a2_2 a2_3 a2_4 a2_5 a2_6 (a1 ++ x339000_6) a2_2 a2_3 a2_4 a2_5 a2_6 = some true) ∧ Aside0 (kq ≤ k6) ∧ Aside0 (w'.heap[gb334]? = some (.cells #[.int .i64 a2_0, .string a2_1, .int .i64 a2_2, .int .i64 a2_3, .string a2_4, .string a2_5, .int .i64 a2_6] 42 (0, 0))) ∧ Aside0 (w'.heap[gb335]? = some (.cells #[.string a2_1, .int .i64 a2_2, .int .i64 a2_3, .string a2_4, .string a2_5, .int .i64 a2_6] 29 (0, 0))) ∧ Aside0 (w'.heap[gb338]? = some (.cells #[.string (a1 ++ x339000_6), .int .i64 a2_2, .int .i64 a2_3, .string a2_4, .string a2_5, .int .i64 a2_6] 29 (0, 0))) ∧ Aside0 (Below w.heap.size w w'))
                                        case atStart => exact ⟨(0), (by first | rfl | (simp; done) | (simp [*]; done)), H', ⟨Nat.le_refl _⟩, ⟨by (with_reducible repeat (first | refine blk_drewN ?_ _ | refine blk_drew ?_ | refine blk_alloc ?_ _)); refine blk_far ?_ NB334_338.out _; (with_reducible repeat (first | refine blk_drewN ?_ _ | refine blk_drew ?_ | refine blk_alloc ?_ _)); exact BK334.out⟩, ⟨by (with_reducible repeat (first | refine blk_drewN ?_ _ | refine blk_drew ?_ | refine blk_alloc ?_ _)); refine blk_far ?_ NB335_338.out _; (with_reducible repeat (first | refine blk_drewN ?_ _ | refine blk_drew ?_ | refine blk_alloc ?_ _)); exact BK335.out⟩, ⟨by (with_reducible repeat (first | refine blk_drewN ?_ _ | refine blk_drew ?_ | refine blk_alloc ?_ _)); refine blk_put (cs := #[.string x339000_6, .int .i64 a2_2, .int .i64 a2_3, .string a2_4, .string a2_5, .int .i64 a2_6]) ?_ 0 _ rfl; (with_reducible repeat (first | refine blk_drewN ?_ _ | refine blk_drew ?_ | refine blk_alloc ?_ _)); exact BK338.out⟩, ⟨by repeat (first | (with_reducible first | exact HB.out | apply below_alloc | apply pw_below_drewN | apply below_drew1 | refine below_set ?_ GE334.out | refine below_set ?_ GE335.out | refine below_set ?_ GE338.out) | exact HB.out)⟩⟩
                                        case round =>
                                          clear H'
                                          try clear c1
                                          try clear c2
                                          try clear p2
                                          try clear c3
                                          try clear p3
                                          try clear q3
                                          try clear hx3
                                          try clear qi3
                                          try clear c4
                                          try clear p4
                                          try clear q4
                                          try clear hx4
                                          try clear c5
                                          try clear p5
                                          try clear q5
                                          try clear hx5
                                          try clear c6
                                          try clear p6
                                          try clear q6
                                          try clear hx6
                                          try clear c7
                                          try clear c8
                                          try clear c9
                                          try clear c10
                                          try clear c17
                                          try clear c17b0
                                          try clear c17b1
                                          try clear c18
                                          try clear c18b0
                                          try clear c20
                                          try clear c21
                                          try clear c21b0
                                          try clear c21b1
                                          try clear c22
                                          try clear c26
                                          try clear c26b0
                                          try clear c26b1
                                          try clear c27
                                          try clear c31
                                          try clear c31b0
                                          try clear c31b1
                                          try clear c32
                                          try clear c36
                                          try clear c36b0
                                          try clear c36b1
                                          try clear p37
                                          try clear q37
                                          try clear hx37
                                          try clear qi37
                                          try clear c38
                                          try clear c42
                                          try clear c45
                                          try clear c46
                                          try clear c46b0
                                          try clear c47
                                          try clear c47b0
                                          try clear p48
                                          try clear q48
                                          try clear hx48
                                          try clear c49
                                          try clear c49b0
                                          try clear p50
                                          try clear q50
                                          try clear hx50
                                          try clear c51
                                          try clear c51b0
                                          try clear c52
                                          try clear c52b0
                                          try clear c53
                                          try clear c53b0
                                          try clear p54
                                          try clear q54
                                          try clear hx54
                                          try clear c55
                                          try clear c55b0
                                          try clear p56
                                          try clear q56
                                          try clear hx56
                                          try clear c57
                                          try clear c57b0
                                          try clear c57b1
                                          try clear p58
                                          try clear q58
                                          try clear hx58
                                          try clear c59
                                          try clear c59b0
                                          try clear c59b1
                                          try clear p60
                                          try clear q60
                                          try clear hx60
                                          try clear c61
                                          try clear c61b0
                                          try clear c61b1
                                          try clear p62
                                          try clear q62
                                          try clear hx62
                                          try clear c63
                                          try clear c63b0
                                          try clear p64
                                          try clear q64
                                          try clear hx64
                                          try clear c65
                                          try clear c65b0
                                          try clear c65b1
                                          try clear p66
                                          try clear q66
                                          try clear hx66
                                          try clear c67
                                          try clear c67b0
                                          try clear c67b1
                                          try clear p68
                                          try clear q68
                                          try clear hx68
                                          try clear c69
                                          try clear c69b0
                                          try clear c69b1
                                          try clear c70
                                          try clear c70b0
                                          try clear c71
                                          try clear c71b0
                                          try clear c71b1
                                          try clear c71b2
                                          try clear c73
                                          try clear c76
                                          try clear c77
                                          try clear c80
                                          try clear c80b0
                                          try clear c80b1
                                          try clear c81
                                          try clear c82
                                          try clear c84
                                          try clear c84b0
                                          try clear c85
                                          try clear c85b0
                                          try clear c85b1
                                          try clear c85b2
                                          try clear c86
                                          try clear c87
                                          try clear c89
                                          try clear c89b0
                                          try clear c89b1
                                          try clear c89b2
                                          try clear c90
                                          try clear c91
                                          try clear hcz23_0
                                          try clear hcz23_1
                                          try clear hcz23_2
                                          try clear hcz23_3
                                          try clear hcz23_4
                                          try clear hcz23_5
                                          try clear hcz25_0
                                          try clear hcz25_1
                                          try clear hcz25_2
                                          try clear hcz25_3
                                          try clear hcz25_4
                                          try clear hcz25_5
                                          try clear hcz28_0
                                          try clear hcz28_1
                                          try clear hcz28_2
                                          try clear hcz28_3
                                          try clear hcz28_4
                                          try clear hcz28_5
                                          try clear hcz30_0
                                          try clear hcz30_1
                                          try clear hcz30_2
                                          try clear hcz30_3
                                          try clear hcz30_4
                                          try clear hcz30_5
                                          try clear hcz33_0
                                          try clear hcz33_1
                                          try clear hcz33_2
                                          try clear hcz33_3
                                          try clear hcz33_4
                                          try clear hcz33_5
                                          try clear hcz35_0
                                          try clear hcz35_1
                                          try clear hcz35_2
                                          try clear hcz35_3
                                          try clear hcz35_4
                                          try clear hcz35_5
                                          try clear hcz39_0
                                          try clear hcz39_1
                                          try clear hcz39_2
                                          try clear hcz39_3
                                          try clear hcz39_4
                                          try clear hcz39_5
                                          try clear hcz41_0
                                          try clear hcz41_1
                                          try clear hcz41_2
                                          try clear hcz41_3
                                          try clear hcz41_4
                                          try clear hcz41_5
                                          try clear hcz43_0
                                          try clear hcz43_1
                                          try clear hcz43_2
                                          try clear hcz43_3
                                          try clear hcz43_4
                                          try clear hcz43_5
                                          try clear hcz74_0
                                          try clear hcz74_1
                                          try clear hcz74_2
                                          try clear hcz74_3
                                          try clear hcz74_4
                                          try clear hcz74_5
                                          try clear hcz78_0
                                          try clear hcz78_1
                                          try clear hcz78_2
                                          try clear hcz78_3
                                          try clear hcz78_4
                                          try clear hcz78_5
                                          try clear hcz79_0
                                          try clear hcz79_1
                                          try clear hcz79_2
                                          try clear hcz79_3
                                          try clear hcz79_4
                                          try clear hcz79_5
                                          try clear hcz83_0
                                          try clear hcz83_1
                                          try clear hcz83_2
                                          try clear hcz83_3
                                          try clear hcz83_4
                                          try clear hcz83_5
                                          try clear hcz88_0
                                          try clear hcz88_1
                                          try clear hcz88_2
                                          try clear hcz88_3
                                          try clear hcz88_4
                                          try clear hcz88_5
                                          try clear hcz92_0
                                          try clear hcz92_1
                                          try clear hcz92_2
                                          try clear hcz92_3
                                          try clear hcz92_4
                                          try clear hcz92_5
                                          try clear hfz23_0
                                          try clear hfz23_1
                                          try clear hfz23_2
                                          try clear hfz23_3
                                          try clear hfz23_4
                                          try clear hfz23_5
                                          try clear hfz25_0
                                          try clear hfz25_1
                                          try clear hfz25_2
                                          try clear hfz25_3
                                          try clear hfz25_4
                                          try clear hfz25_5
                                          try clear hfz28_0
                                          try clear hfz28_1
                                          try clear hfz28_2
                                          try clear hfz28_3
                                          try clear hfz28_4
                                          try clear hfz28_5
                                          try clear hfz30_0
                                          try clear hfz30_1
                                          try clear hfz30_2
                                          try clear hfz30_3
                                          try clear hfz30_4
                                          try clear hfz30_5
                                          try clear hfz33_0
                                          try clear hfz33_1
                                          try clear hfz33_2
                                          try clear hfz33_3
                                          try clear hfz33_4
                                          try clear hfz33_5
                                          try clear hfz35_0
                                          try clear hfz35_1
                                          try clear hfz35_2
                                          try clear hfz35_3
                                          try clear hfz35_4
                                          try clear hfz35_5
                                          try clear hfz39_0
                                          try clear hfz39_1
                                          try clear hfz39_2
                                          try clear hfz39_3
                                          try clear hfz39_4
                                          try clear hfz39_5
                                          try clear hfz41_0
                                          try clear hfz41_1
                                          try clear hfz41_2
                                          try clear hfz41_3
                                          try clear hfz41_4
                                          try clear hfz41_5
                                          try clear hfz43_0
                                          try clear hfz43_1
                                          try clear hfz43_2
                                          try clear hfz43_3
                                          try clear hfz43_4
                                          try clear hfz43_5
                                          try clear hfz74_0
                                          try clear hfz74_1
                                          try clear hfz74_2
                                          try clear hfz74_3
                                          try clear hfz74_4
                                          try clear hfz74_5
                                          try clear hfz78_0
                                          try clear hfz78_1
                                          try clear hfz78_2
                                          try clear hfz78_3
                                          try clear hfz78_4
                                          try clear hfz78_5
                                          try clear hfz79_0
                                          try clear hfz79_1
                                          try clear hfz79_2
                                          try clear hfz79_3
                                          try clear hfz79_4
                                          try clear hfz79_5
                                          try clear hfz83_0
                                          try clear hfz83_1
                                          try clear hfz83_2
                                          try clear hfz83_3
                                          try clear hfz83_4
                                          try clear hfz83_5
                                          try clear hfz88_0
                                          try clear hfz88_1
                                          try clear hfz88_2
                                          try clear hfz88_3
                                          try clear hfz88_4
                                          try clear hfz88_5
                                          try clear hfz92_0
                                          try clear hfz92_1
                                          try clear hfz92_2
                                          try clear hfz92_3
                                          try clear hfz92_4
                                          try clear hfz92_5
                                          try clear p2
                                          try clear p3
                                          try clear p37
                                          try clear p4
                                          try clear p48
                                          try clear p5
                                          try clear p50
                                          try clear p54
                                          try clear p56
                                          try clear p58
                                          try clear p6
                                          try clear p60
                                          try clear p62
                                          try clear p64
                                          try clear p66
                                          try clear p68
                                          try clear q3
                                          try clear q37
                                          try clear q4
                                          try clear q48
                                          try clear q5
                                          try clear q50
                                          try clear q54
                                          try clear q56
                                          try clear q58
                                          try clear q6
                                          try clear q60
                                          try clear q62
                                          try clear q64
                                          try clear q66
                                          try clear q68
                                          obtain ⟨x14_7, rfl, HA, HK7, BK334, BK335, BK338, HB⟩ := hrel
                                          cases gk with
                                          | zero => exact absurd HA.out (by simp [quipulaw09_RuleRests.l4])
                                          | succ k7 =>
                                            have H := HA.out
                                            clear HA
                                            simp only [quipulaw09_RuleRests.l4] at H
                                            by_cases c93 : x14_7 < 2
                                            · rw [if_pos c93] at H
                                              have c93b0 : decide (x14_7 < 2) = true := decide_eq_true c93
                                              clear c93
                                              by_cases c94 : 0 ≤ x14_7
                                              · rw [if_pos c94] at H
                                                have c94b0 : decide (0 ≤ x14_7) = true := decide_eq_true c94
                                                clear c94
                                                by_cases c96 : 5 + (Utf8.encode (bt (⟨#[105, 110]⟩ : ByteArray) x14_7)).size ≤ 9223372036854775807
                                                · rw [if_pos c96] at H
                                                  have c96b0 := eq_true c96
                                                  have c96b1 : decide (5 + (Utf8.encode (bt (⟨#[105, 110]⟩ : ByteArray) x14_7)).size ≤ 9223372036854775807) = true := decide_eq_true c96
                                                  try have c96b2 : (9223372036854775807 < 5 + (Utf8.encode (bt (⟨#[105, 110]⟩ : ByteArray) x14_7)).size) = False := eq_false (Nat.not_lt.2 c96)
                                                  by_cases c97 : ((⟨#[102, 101, 119, 58, 32]⟩ : ByteArray) ++ (Utf8.encode (bt (⟨#[105, 110]⟩ : ByteArray) x14_7))).size + 3 ≤ 9223372036854775807
                                                  · rw [if_pos c97] at H
                                                    have c97b0 := eq_true c97
                                                    have c97b1 : decide (((⟨#[102, 101, 119, 58, 32]⟩ : ByteArray) ++ (Utf8.encode (bt (⟨#[105, 110]⟩ : ByteArray) x14_7))).size + 3 ≤ 9223372036854775807) = true := decide_eq_true c97
                                                    (try (have c97n := c97; simp only [ByteArray.size_extract, ByteArray.size_append] at c97n; have c97n0 := eq_true c97n; have c97n1 := decide_eq_true c97n; (try have c97n2 := eq_false (Nat.not_lt.2 c97n))))
                                                    (try (have c97m := c97; simp at c97m; have c97m0 := eq_true c97m; have c97m1 := decide_eq_true c97m; (try have c97m2 := eq_false (Nat.not_lt.2 c97m))))
                                                    try have c97b2 : (9223372036854775807 < ((⟨#[102, 101, 119, 58, 32]⟩ : ByteArray) ++ (Utf8.encode (bt (⟨#[105, 110]⟩ : ByteArray) x14_7))).size + 3) = False := eq_false (Nat.not_lt.2 c97)
                                                    by_cases c98 : (((⟨#[102, 101, 119, 58, 32]⟩ : ByteArray) ++ (Utf8.encode (bt (⟨#[105, 110]⟩ : ByteArray) x14_7))) ++ (⟨#[32, 37, 32]⟩ : ByteArray)).size + x11_4.size ≤ 9223372036854775807
                                                    · rw [if_pos c98] at H
                                                      have c98b0 := eq_true c98
                                                      have c98b1 : decide ((((⟨#[102, 101, 119, 58, 32]⟩ : ByteArray) ++ (Utf8.encode (bt (⟨#[105, 110]⟩ : ByteArray) x14_7))) ++ (⟨#[32, 37, 32]⟩ : ByteArray)).size + x11_4.size ≤ 9223372036854775807) = true := decide_eq_true c98
                                                      (try (have c98n := c98; simp only [ByteArray.size_extract, ByteArray.size_append] at c98n; have c98n0 := eq_true c98n; have c98n1 := decide_eq_true c98n; (try have c98n2 := eq_false (Nat.not_lt.2 c98n))))
                                                      (try (have c98m := c98; simp at c98m; have c98m0 := eq_true c98m; have c98m1 := decide_eq_true c98m; (try have c98m2 := eq_false (Nat.not_lt.2 c98m))))
                                                      try have c98b2 : (9223372036854775807 < (((⟨#[102, 101, 119, 58, 32]⟩ : ByteArray) ++ (Utf8.encode (bt (⟨#[105, 110]⟩ : ByteArray) x14_7))) ++ (⟨#[32, 37, 32]⟩ : ByteArray)).size + x11_4.size) = False := eq_false (Nat.not_lt.2 c98)
                                                      by_cases c99 : ((((⟨#[102, 101, 119, 58, 32]⟩ : ByteArray) ++ (Utf8.encode (bt (⟨#[105, 110]⟩ : ByteArray) x14_7))) ++ (⟨#[32, 37, 32]⟩ : ByteArray)) ++ x11_4).size + 3 ≤ 9223372036854775807
                                                      · rw [if_pos c99] at H
                                                        have c99b0 := eq_true c99
                                                        have c99b1 : decide (((((⟨#[102, 101, 119, 58, 32]⟩ : ByteArray) ++ (Utf8.encode (bt (⟨#[105, 110]⟩ : ByteArray) x14_7))) ++ (⟨#[32, 37, 32]⟩ : ByteArray)) ++ x11_4).size + 3 ≤ 9223372036854775807) = true := decide_eq_true c99
                                                        (try (have c99n := c99; simp only [ByteArray.size_extract, ByteArray.size_append] at c99n; have c99n0 := eq_true c99n; have c99n1 := decide_eq_true c99n; (try have c99n2 := eq_false (Nat.not_lt.2 c99n))))
                                                        (try (have c99m := c99; simp at c99m; have c99m0 := eq_true c99m; have c99m1 := decide_eq_true c99m; (try have c99m2 := eq_false (Nat.not_lt.2 c99m))))
                                                        try have c99b2 : (9223372036854775807 < ((((⟨#[102, 101, 119, 58, 32]⟩ : ByteArray) ++ (Utf8.encode (bt (⟨#[105, 110]⟩ : ByteArray) x14_7))) ++ (⟨#[32, 37, 32]⟩ : ByteArray)) ++ x11_4).size + 3) = False := eq_false (Nat.not_lt.2 c99)
                                                        by_cases c100 : (((((⟨#[102, 101, 119, 58, 32]⟩ : ByteArray) ++ (Utf8.encode (bt (⟨#[105, 110]⟩ : ByteArray) x14_7))) ++ (⟨#[32, 37, 32]⟩ : ByteArray)) ++ x11_4) ++ (⟨#[32, 61, 32]⟩ : ByteArray)).size + a0.size ≤ 9223372036854775807
                                                        · rw [if_pos c100] at H
                                                          have zq1 := lq1 c97
                                                          have zq2 := lq2 c98
                                                          have zq3 := lq3 c99
                                                          have zq4 := lq4 c100
                                                          have c100b0 := eq_true c100
                                                          have c100b1 : decide ((((((⟨#[102, 101, 119, 58, 32]⟩ : ByteArray) ++ (Utf8.encode (bt (⟨#[105, 110]⟩ : ByteArray) x14_7))) ++ (⟨#[32, 37, 32]⟩ : ByteArray)) ++ x11_4) ++ (⟨#[32, 61, 32]⟩ : ByteArray)).size + a0.size ≤ 9223372036854775807) = true := decide_eq_true c100
                                                          (try (have c100n := c100; simp only [ByteArray.size_extract, ByteArray.size_append] at c100n; have c100n0 := eq_true c100n; have c100n1 := decide_eq_true c100n; (try have c100n2 := eq_false (Nat.not_lt.2 c100n))))
                                                          (try (have c100m := c100; simp at c100m; have c100m0 := eq_true c100m; have c100m1 := decide_eq_true c100m; (try have c100m2 := eq_false (Nat.not_lt.2 c100m))))
                                                          try have c100b2 : (9223372036854775807 < (((((⟨#[102, 101, 119, 58, 32]⟩ : ByteArray) ++ (Utf8.encode (bt (⟨#[105, 110]⟩ : ByteArray) x14_7))) ++ (⟨#[32, 37, 32]⟩ : ByteArray)) ++ x11_4) ++ (⟨#[32, 61, 32]⟩ : ByteArray)).size + a0.size) = False := eq_false (Nat.not_lt.2 c100)
                                                          replace H := Option.bind_eq_some_iff.mp H
                                                          obtain ⟨⟨t339, t340⟩, A1010, H⟩ := H
                                                          replace H : ((rule_Pick.f ((((((⟨#[102, 101, 119, 58, 32]⟩ : ByteArray) ++ (Utf8.encode (bt (⟨#[105, 110]⟩ : ByteArray) x14_7))) ++ (⟨#[32, 37, 32]⟩ : ByteArray)) ++ x11_4) ++ (⟨#[32, 61, 32]⟩ : ByteArray)) ++ a0) (a1 ++ x339000_6) a2_2 a2_3 a2_4 a2_5 a2_6).bind fun bt341 => (if t340 = bt341.2 then (if t339 = bt341.1 then (quipulaw09_RuleRests.l4 k7 a0 x11_4 (wrap64 (x14_7 + 1)) a2_1 a2_2 a2_3 a2_4 a2_5 a2_6 (a1 ++ x339000_6) a2_2 a2_3 a2_4 a2_5 a2_6) else (some false)) else (some false))) = some true := H
                                                          have A101 := Aside0.mk A1010
                                                          clear A1010
                                                          replace H := Option.bind_eq_some_iff.mp H
                                                          obtain ⟨⟨t341, t342⟩, A1020, H⟩ := H
                                                          replace H : (if t340 = t342 then (if t339 = t341 then (quipulaw09_RuleRests.l4 k7 a0 x11_4 (wrap64 (x14_7 + 1)) a2_1 a2_2 a2_3 a2_4 a2_5 a2_6 (a1 ++ x339000_6) a2_2 a2_3 a2_4 a2_5 a2_6) else (some false)) else (some false)) = some true := H
                                                          have A102 := Aside0.mk A1020
                                                          clear A1020
                                                          by_cases c103 : t340 = t342
                                                          · rw [if_pos c103] at H
                                                            have c103b0 : (t340 == t342) = true := beq_iff_eq.mpr c103
                                                            have c103b1 : (t340 != t342) = false := bne_eq_false_iff_eq.mpr c103
                                                            clear c103
                                                            by_cases c104 : t339 = t341
                                                            · rw [if_pos c104] at H
                                                              have c104b0 : (t339 == t341) = true := beq_iff_eq.mpr c104
                                                              have c104b1 : (t339 != t341) = false := bne_eq_false_iff_eq.mpr c104
                                                              clear c104
                                                              have H' := Aside0.mk H
                                                              clear H
                                                              have p95 : 0 ≤ (x14_7 : Int) := of_decide_eq_true (by first | (with_reducible assumption) | assumption)
                                                              have q95 : x14_7 < (2 : Int) := of_decide_eq_true (by first | (with_reducible assumption) | assumption)
                                                              have hx95 := bt_at (⟨#[105, 110]⟩ : ByteArray) x14_7
                                                              replace p95 := eq_true p95
                                                              replace q95 := eq_true q95
                                                              have hnb105 := NB335_334.out
                                                              have hnc105 := NB334_335.out
                                                              have hnb106 := NB335_338.out
                                                              have hnc106 := NB338_335.out
                                                              have hcz107_0 : wr.cell? ⟨gb335, 0, none⟩ = some (.string a2_1) := (blk_cell BK335.out 0).trans rfl
                                                              have hcz107_1 : wr.cell? ⟨gb335, 1, none⟩ = some (.int .i64 a2_2) := (blk_cell BK335.out 1).trans rfl
                                                              have hcz107_2 : wr.cell? ⟨gb335, 2, none⟩ = some (.int .i64 a2_3) := (blk_cell BK335.out 2).trans rfl
                                                              have hcz107_3 : wr.cell? ⟨gb335, 3, none⟩ = some (.string a2_4) := (blk_cell BK335.out 3).trans rfl
                                                              have hcz107_4 : wr.cell? ⟨gb335, 4, none⟩ = some (.string a2_5) := (blk_cell BK335.out 4).trans rfl
                                                              have hcz107_5 : wr.cell? ⟨gb335, 5, none⟩ = some (.int .i64 a2_6) := (blk_cell BK335.out 5).trans rfl
                                                              have hfz107_0 := blk_frozen BK335.out 0
                                                              have hfz107_1 := blk_frozen BK335.out 1
                                                              have hfz107_2 := blk_frozen BK335.out 2
                                                              have hfz107_3 := blk_frozen BK335.out 3
                                                              have hfz107_4 := blk_frozen BK335.out 4
                                                              have hfz107_5 := blk_frozen BK335.out 5
                                                              go_wp2_with (first | ((with_reducible refine gate_callee (f := 16) rfl ?_); refine goesL_ (some 150) rfl rfl Tryd.func16 (by kernel_rfl) rfl #[.string ((((((⟨#[102, 101, 119, 58, 32]⟩ : ByteArray) ++ (Utf8.encode (bt (⟨#[105, 110]⟩ : ByteArray) x14_7))) ++ (⟨#[32, 37, 32]⟩ : ByteArray)) ++ x11_4) ++ (⟨#[32, 61, 32]⟩ : ByteArray)) ++ a0), .agg #[.string a2_1, .int .i64 a2_2, .int .i64 a2_3, .string a2_4, .string a2_5, .int .i64 a2_6]] rfl (by (try simp only [List.map_toArray, List.map_cons, List.map_nil]); first | done | rfl | (simp only [List.length_drop, List.length_take]; rfl)) ?_; (with_reducible refine (rule_Pick.calls ((((((⟨#[102, 101, 119, 58, 32]⟩ : ByteArray) ++ (Utf8.encode (bt (⟨#[105, 110]⟩ : ByteArray) x14_7))) ++ (⟨#[32, 37, 32]⟩ : ByteArray)) ++ x11_4) ++ (⟨#[32, 61, 32]⟩ : ByteArray)) ++ a0) a2_1 a2_2 a2_3 a2_4 a2_5 a2_6 t339 t340 _ (Gd.below HG.out (by repeat (first | (with_reducible first | exact HB.out | apply below_alloc | apply pw_below_drewN | apply below_drew1 | refine below_set ?_ GE334.out | refine below_set ?_ GE335.out | refine below_set ?_ GE338.out) | exact HB.out))) A101.out).mono ?_); rintro e w108 ⟨rfl, hb⟩; refine ⟨_, rfl, ?_⟩; have n0_ := Aside0.mk (blk_below (g := gb334) (o := .cells #[.int .i64 a2_0, .string a2_1, .int .i64 a2_2, .int .i64 a2_3, .string a2_4, .string a2_5, .int .i64 a2_6] 42 (0, 0)) (by (with_reducible repeat (first | refine blk_drewN ?_ _ | refine blk_drew ?_ | refine blk_alloc ?_ _)); exact BK334.out) hb); have n1_ := Aside0.mk (blk_below (g := gb335) (o := .cells #[.string a2_1, .int .i64 a2_2, .int .i64 a2_3, .string a2_4, .string a2_5, .int .i64 a2_6] 29 (0, 0)) (by (with_reducible repeat (first | refine blk_drewN ?_ _ | refine blk_drew ?_ | refine blk_alloc ?_ _)); exact BK335.out) hb); have n2_ := Aside0.mk (blk_below (g := gb338) (o := .cells #[.string (a1 ++ x339000_6), .int .i64 a2_2, .int .i64 a2_3, .string a2_4, .string a2_5, .int .i64 a2_6] 29 (0, 0)) (by (with_reducible repeat (first | refine blk_drewN ?_ _ | refine blk_drew ?_ | refine blk_alloc ?_ _)); exact BK338.out) hb); have n3_ := Aside0.mk (below_step (by repeat (first | (with_reducible first | exact HB.out | apply below_alloc | apply pw_below_drewN | apply below_drew1 | refine below_set ?_ GE334.out | refine below_set ?_ GE335.out | refine below_set ?_ GE338.out) | exact HB.out)) hb); clear BK334; clear BK335; clear BK338; clear HB; have BK334 := n0_; have BK335 := n1_; have BK338 := n2_; have HB := n3_; clear n0_ n1_ n2_ n3_; (try clear hb); (try clear hb2); (try clear hk); (try clear hi); have hnb109 := NB338_334.out; have hnc109 := NB334_338.out; have hcz110_0 : w108.cell? ⟨gb338, 0, none⟩ = some (.string (a1 ++ x339000_6)) := (blk_cell BK338.out 0).trans rfl; have hcz110_1 : w108.cell? ⟨gb338, 1, none⟩ = some (.int .i64 a2_2) := (blk_cell BK338.out 1).trans rfl; have hcz110_2 : w108.cell? ⟨gb338, 2, none⟩ = some (.int .i64 a2_3) := (blk_cell BK338.out 2).trans rfl; have hcz110_3 : w108.cell? ⟨gb338, 3, none⟩ = some (.string a2_4) := (blk_cell BK338.out 3).trans rfl; have hcz110_4 : w108.cell? ⟨gb338, 4, none⟩ = some (.string a2_5) := (blk_cell BK338.out 4).trans rfl; have hcz110_5 : w108.cell? ⟨gb338, 5, none⟩ = some (.int .i64 a2_6) := (blk_cell BK338.out 5).trans rfl; have hfz110_0 := blk_frozen BK338.out 0; have hfz110_1 := blk_frozen BK338.out 1; have hfz110_2 := blk_frozen BK338.out 2; have hfz110_3 := blk_frozen BK338.out 3; have hfz110_4 := blk_frozen BK338.out 4; have hfz110_5 := blk_frozen BK338.out 5) | ((with_reducible refine gate_callee (f := 16) rfl ?_); refine goesL_ (some 156) rfl rfl Tryd.func16 (by kernel_rfl) rfl #[.string ((((((⟨#[102, 101, 119, 58, 32]⟩ : ByteArray) ++ (Utf8.encode (bt (⟨#[105, 110]⟩ : ByteArray) x14_7))) ++ (⟨#[32, 37, 32]⟩ : ByteArray)) ++ x11_4) ++ (⟨#[32, 61, 32]⟩ : ByteArray)) ++ a0), .agg #[.string (a1 ++ x339000_6), .int .i64 a2_2, .int .i64 a2_3, .string a2_4, .string a2_5, .int .i64 a2_6]] rfl (by (try simp only [List.map_toArray, List.map_cons, List.map_nil]); first | done | rfl | (simp only [List.length_drop, List.length_take]; rfl)) ?_; (with_reducible refine (rule_Pick.calls ((((((⟨#[102, 101, 119, 58, 32]⟩ : ByteArray) ++ (Utf8.encode (bt (⟨#[105, 110]⟩ : ByteArray) x14_7))) ++ (⟨#[32, 37, 32]⟩ : ByteArray)) ++ x11_4) ++ (⟨#[32, 61, 32]⟩ : ByteArray)) ++ a0) (a1 ++ x339000_6) a2_2 a2_3 a2_4 a2_5 a2_6 t341 t342 _ (Gd.below HG.out (by repeat (first | (with_reducible first | exact HB.out | apply below_alloc | apply pw_below_drewN | apply below_drew1 | refine below_set ?_ GE334.out | refine below_set ?_ GE335.out | refine below_set ?_ GE338.out) | exact HB.out))) A102.out).mono ?_); rintro e w111 ⟨rfl, hb⟩; refine ⟨_, rfl, ?_⟩; have n0_ := Aside0.mk (blk_below (g := gb334) (o := .cells #[.int .i64 a2_0, .string a2_1, .int .i64 a2_2, .int .i64 a2_3, .string a2_4, .string a2_5, .int .i64 a2_6] 42 (0, 0)) (by (with_reducible repeat (first | refine blk_drewN ?_ _ | refine blk_drew ?_ | refine blk_alloc ?_ _)); exact BK334.out) hb); have n1_ := Aside0.mk (blk_below (g := gb335) (o := .cells #[.string a2_1, .int .i64 a2_2, .int .i64 a2_3, .string a2_4, .string a2_5, .int .i64 a2_6] 29 (0, 0)) (by (with_reducible repeat (first | refine blk_drewN ?_ _ | refine blk_drew ?_ | refine blk_alloc ?_ _)); exact BK335.out) hb); have n2_ := Aside0.mk (blk_below (g := gb338) (o := .cells #[.string (a1 ++ x339000_6), .int .i64 a2_2, .int .i64 a2_3, .string a2_4, .string a2_5, .int .i64 a2_6] 29 (0, 0)) (by (with_reducible repeat (first | refine blk_drewN ?_ _ | refine blk_drew ?_ | refine blk_alloc ?_ _)); exact BK338.out) hb); have n3_ := Aside0.mk (below_step (by repeat (first | (with_reducible first | exact HB.out | apply below_alloc | apply pw_below_drewN | apply below_drew1 | refine below_set ?_ GE334.out | refine below_set ?_ GE335.out | refine below_set ?_ GE338.out) | exact HB.out)) hb); clear BK334; clear BK335; clear BK338; clear HB; have BK334 := n0_; have BK335 := n1_; have BK338 := n2_; have HB := n3_; clear n0_ n1_ n2_ n3_; (try clear hb); (try clear hb2); (try clear hk); (try clear hi)))
                                                              go_roundg k7
                                                              case measure => have := HJ5.out; have := HK2.out; have := HK3.out; have := HK4.out; have := HJ71.out; have := HK6.out; have := HK7.out; omega
                                                              case rel => exact ⟨(wrap64 (x14_7 + 1)), (by first | rfl | (simp; done) | (simp [*]; done)), H', ⟨by have := HJ5.out; have := HK2.out; have := HK3.out; have := HK4.out; have := HJ71.out; have := HK6.out; have := HK7.out; omega⟩, ⟨by (with_reducible repeat (first | refine blk_drewN ?_ _ | refine blk_drew ?_ | refine blk_alloc ?_ _)); exact BK334.out⟩, ⟨by (with_reducible repeat (first | refine blk_drewN ?_ _ | refine blk_drew ?_ | refine blk_alloc ?_ _)); exact BK335.out⟩, ⟨by (with_reducible repeat (first | refine blk_drewN ?_ _ | refine blk_drew ?_ | refine blk_alloc ?_ _)); exact BK338.out⟩, ⟨by repeat (first | (with_reducible first | exact HB.out | apply below_alloc | apply pw_below_drewN | apply below_drew1 | refine below_set ?_ GE334.out | refine below_set ?_ GE335.out | refine below_set ?_ GE338.out) | exact HB.out)⟩⟩
                                                            · rw [if_neg c104] at H
                                                              have c104b0 : (t339 == t341) = false := beq_eq_false_iff_ne.mpr c104
                                                              have c104b1 : (t339 != t341) = true := bne_iff_ne.mpr c104
                                                              have HT := Option.some.inj H
                                                              have p95 : 0 ≤ (x14_7 : Int) := of_decide_eq_true (by first | (with_reducible assumption) | assumption)
                                                              have q95 : x14_7 < (2 : Int) := of_decide_eq_true (by first | (with_reducible assumption) | assumption)
                                                              have hx95 := bt_at (⟨#[105, 110]⟩ : ByteArray) x14_7
                                                              replace p95 := eq_true p95
                                                              replace q95 := eq_true q95
                                                              have hnb112 := NB335_334.out
                                                              have hnc112 := NB334_335.out
                                                              have hnb113 := NB335_338.out
                                                              have hnc113 := NB338_335.out
                                                              have hcz114_0 : wr.cell? ⟨gb335, 0, none⟩ = some (.string a2_1) := (blk_cell BK335.out 0).trans rfl
                                                              have hcz114_1 : wr.cell? ⟨gb335, 1, none⟩ = some (.int .i64 a2_2) := (blk_cell BK335.out 1).trans rfl
                                                              have hcz114_2 : wr.cell? ⟨gb335, 2, none⟩ = some (.int .i64 a2_3) := (blk_cell BK335.out 2).trans rfl
                                                              have hcz114_3 : wr.cell? ⟨gb335, 3, none⟩ = some (.string a2_4) := (blk_cell BK335.out 3).trans rfl
                                                              have hcz114_4 : wr.cell? ⟨gb335, 4, none⟩ = some (.string a2_5) := (blk_cell BK335.out 4).trans rfl
                                                              have hcz114_5 : wr.cell? ⟨gb335, 5, none⟩ = some (.int .i64 a2_6) := (blk_cell BK335.out 5).trans rfl
                                                              have hfz114_0 := blk_frozen BK335.out 0
                                                              have hfz114_1 := blk_frozen BK335.out 1
                                                              have hfz114_2 := blk_frozen BK335.out 2
                                                              have hfz114_3 := blk_frozen BK335.out 3
                                                              have hfz114_4 := blk_frozen BK335.out 4
                                                              have hfz114_5 := blk_frozen BK335.out 5
                                                              go_wp2_with (first | ((with_reducible refine gate_callee (f := 16) rfl ?_); refine goesL_ (some 150) rfl rfl Tryd.func16 (by kernel_rfl) rfl #[.string ((((((⟨#[102, 101, 119, 58, 32]⟩ : ByteArray) ++ (Utf8.encode (bt (⟨#[105, 110]⟩ : ByteArray) x14_7))) ++ (⟨#[32, 37, 32]⟩ : ByteArray)) ++ x11_4) ++ (⟨#[32, 61, 32]⟩ : ByteArray)) ++ a0), .agg #[.string a2_1, .int .i64 a2_2, .int .i64 a2_3, .string a2_4, .string a2_5, .int .i64 a2_6]] rfl (by (try simp only [List.map_toArray, List.map_cons, List.map_nil]); first | done | rfl | (simp only [List.length_drop, List.length_take]; rfl)) ?_; (with_reducible refine (rule_Pick.calls ((((((⟨#[102, 101, 119, 58, 32]⟩ : ByteArray) ++ (Utf8.encode (bt (⟨#[105, 110]⟩ : ByteArray) x14_7))) ++ (⟨#[32, 37, 32]⟩ : ByteArray)) ++ x11_4) ++ (⟨#[32, 61, 32]⟩ : ByteArray)) ++ a0) a2_1 a2_2 a2_3 a2_4 a2_5 a2_6 t339 t340 _ (Gd.below HG.out (by repeat (first | (with_reducible first | exact HB.out | apply below_alloc | apply pw_below_drewN | apply below_drew1 | refine below_set ?_ GE334.out | refine below_set ?_ GE335.out | refine below_set ?_ GE338.out) | exact HB.out))) A101.out).mono ?_); rintro e w115 ⟨rfl, hb⟩; refine ⟨_, rfl, ?_⟩; have n0_ := Aside0.mk (blk_below (g := gb334) (o := .cells #[.int .i64 a2_0, .string a2_1, .int .i64 a2_2, .int .i64 a2_3, .string a2_4, .string a2_5, .int .i64 a2_6] 42 (0, 0)) (by (with_reducible repeat (first | refine blk_drewN ?_ _ | refine blk_drew ?_ | refine blk_alloc ?_ _)); exact BK334.out) hb); have n1_ := Aside0.mk (blk_below (g := gb335) (o := .cells #[.string a2_1, .int .i64 a2_2, .int .i64 a2_3, .string a2_4, .string a2_5, .int .i64 a2_6] 29 (0, 0)) (by (with_reducible repeat (first | refine blk_drewN ?_ _ | refine blk_drew ?_ | refine blk_alloc ?_ _)); exact BK335.out) hb); have n2_ := Aside0.mk (blk_below (g := gb338) (o := .cells #[.string (a1 ++ x339000_6), .int .i64 a2_2, .int .i64 a2_3, .string a2_4, .string a2_5, .int .i64 a2_6] 29 (0, 0)) (by (with_reducible repeat (first | refine blk_drewN ?_ _ | refine blk_drew ?_ | refine blk_alloc ?_ _)); exact BK338.out) hb); have n3_ := Aside0.mk (below_step (by repeat (first | (with_reducible first | exact HB.out | apply below_alloc | apply pw_below_drewN | apply below_drew1 | refine below_set ?_ GE334.out | refine below_set ?_ GE335.out | refine below_set ?_ GE338.out) | exact HB.out)) hb); clear BK334; clear BK335; clear BK338; clear HB; have BK334 := n0_; have BK335 := n1_; have BK338 := n2_; have HB := n3_; clear n0_ n1_ n2_ n3_; (try clear hb); (try clear hb2); (try clear hk); (try clear hi); have hnb116 := NB338_334.out; have hnc116 := NB334_338.out; have hcz117_0 : w115.cell? ⟨gb338, 0, none⟩ = some (.string (a1 ++ x339000_6)) := (blk_cell BK338.out 0).trans rfl; have hcz117_1 : w115.cell? ⟨gb338, 1, none⟩ = some (.int .i64 a2_2) := (blk_cell BK338.out 1).trans rfl; have hcz117_2 : w115.cell? ⟨gb338, 2, none⟩ = some (.int .i64 a2_3) := (blk_cell BK338.out 2).trans rfl; have hcz117_3 : w115.cell? ⟨gb338, 3, none⟩ = some (.string a2_4) := (blk_cell BK338.out 3).trans rfl; have hcz117_4 : w115.cell? ⟨gb338, 4, none⟩ = some (.string a2_5) := (blk_cell BK338.out 4).trans rfl; have hcz117_5 : w115.cell? ⟨gb338, 5, none⟩ = some (.int .i64 a2_6) := (blk_cell BK338.out 5).trans rfl; have hfz117_0 := blk_frozen BK338.out 0; have hfz117_1 := blk_frozen BK338.out 1; have hfz117_2 := blk_frozen BK338.out 2; have hfz117_3 := blk_frozen BK338.out 3; have hfz117_4 := blk_frozen BK338.out 4; have hfz117_5 := blk_frozen BK338.out 5) | ((with_reducible refine gate_callee (f := 16) rfl ?_); refine goesL_ (some 156) rfl rfl Tryd.func16 (by kernel_rfl) rfl #[.string ((((((⟨#[102, 101, 119, 58, 32]⟩ : ByteArray) ++ (Utf8.encode (bt (⟨#[105, 110]⟩ : ByteArray) x14_7))) ++ (⟨#[32, 37, 32]⟩ : ByteArray)) ++ x11_4) ++ (⟨#[32, 61, 32]⟩ : ByteArray)) ++ a0), .agg #[.string (a1 ++ x339000_6), .int .i64 a2_2, .int .i64 a2_3, .string a2_4, .string a2_5, .int .i64 a2_6]] rfl (by (try simp only [List.map_toArray, List.map_cons, List.map_nil]); first | done | rfl | (simp only [List.length_drop, List.length_take]; rfl)) ?_; (with_reducible refine (rule_Pick.calls ((((((⟨#[102, 101, 119, 58, 32]⟩ : ByteArray) ++ (Utf8.encode (bt (⟨#[105, 110]⟩ : ByteArray) x14_7))) ++ (⟨#[32, 37, 32]⟩ : ByteArray)) ++ x11_4) ++ (⟨#[32, 61, 32]⟩ : ByteArray)) ++ a0) (a1 ++ x339000_6) a2_2 a2_3 a2_4 a2_5 a2_6 t341 t342 _ (Gd.below HG.out (by repeat (first | (with_reducible first | exact HB.out | apply below_alloc | apply pw_below_drewN | apply below_drew1 | refine below_set ?_ GE334.out | refine below_set ?_ GE335.out | refine below_set ?_ GE338.out) | exact HB.out))) A102.out).mono ?_); rintro e w118 ⟨rfl, hb⟩; refine ⟨_, rfl, ?_⟩; have n0_ := Aside0.mk (blk_below (g := gb334) (o := .cells #[.int .i64 a2_0, .string a2_1, .int .i64 a2_2, .int .i64 a2_3, .string a2_4, .string a2_5, .int .i64 a2_6] 42 (0, 0)) (by (with_reducible repeat (first | refine blk_drewN ?_ _ | refine blk_drew ?_ | refine blk_alloc ?_ _)); exact BK334.out) hb); have n1_ := Aside0.mk (blk_below (g := gb335) (o := .cells #[.string a2_1, .int .i64 a2_2, .int .i64 a2_3, .string a2_4, .string a2_5, .int .i64 a2_6] 29 (0, 0)) (by (with_reducible repeat (first | refine blk_drewN ?_ _ | refine blk_drew ?_ | refine blk_alloc ?_ _)); exact BK335.out) hb); have n2_ := Aside0.mk (blk_below (g := gb338) (o := .cells #[.string (a1 ++ x339000_6), .int .i64 a2_2, .int .i64 a2_3, .string a2_4, .string a2_5, .int .i64 a2_6] 29 (0, 0)) (by (with_reducible repeat (first | refine blk_drewN ?_ _ | refine blk_drew ?_ | refine blk_alloc ?_ _)); exact BK338.out) hb); have n3_ := Aside0.mk (below_step (by repeat (first | (with_reducible first | exact HB.out | apply below_alloc | apply pw_below_drewN | apply below_drew1 | refine below_set ?_ GE334.out | refine below_set ?_ GE335.out | refine below_set ?_ GE338.out) | exact HB.out)) hb); clear BK334; clear BK335; clear BK338; clear HB; have BK334 := n0_; have BK335 := n1_; have BK338 := n2_; have HB := n3_; clear n0_ n1_ n2_ n3_; (try clear hb); (try clear hb2); (try clear hk); (try clear hi)))
                                                              go_ret
                                                              exact ⟨by first | rfl | (simp [errW_none, errW_some] <;> rfl) | (simp [*, errW_none, errW_some] <;> rfl) | (simp only [ne_nil_b]; first | done | rfl) | (simp [ne_nil_b]; done), by repeat (first | (with_reducible first | exact HB.out | apply below_alloc | apply pw_below_drewN | apply below_drew1 | refine below_set ?_ GE334.out | refine below_set ?_ GE335.out | refine below_set ?_ GE338.out) | exact HB.out)⟩
                                                          · rw [if_neg c103] at H
                                                            have c103b0 : (t340 == t342) = false := beq_eq_false_iff_ne.mpr c103
                                                            have c103b1 : (t340 != t342) = true := bne_iff_ne.mpr c103
                                                            have HT := Option.some.inj H
                                                            have p95 : 0 ≤ (x14_7 : Int) := of_decide_eq_true (by first | (with_reducible assumption) | assumption)
                                                            have q95 : x14_7 < (2 : Int) := of_decide_eq_true (by first | (with_reducible assumption) | assumption)
                                                            have hx95 := bt_at (⟨#[105, 110]⟩ : ByteArray) x14_7
                                                            replace p95 := eq_true p95
                                                            replace q95 := eq_true q95
                                                            have hnb119 := NB335_334.out
                                                            have hnc119 := NB334_335.out
                                                            have hnb120 := NB335_338.out
                                                            have hnc120 := NB338_335.out
                                                            have hcz121_0 : wr.cell? ⟨gb335, 0, none⟩ = some (.string a2_1) := (blk_cell BK335.out 0).trans rfl
                                                            have hcz121_1 : wr.cell? ⟨gb335, 1, none⟩ = some (.int .i64 a2_2) := (blk_cell BK335.out 1).trans rfl
                                                            have hcz121_2 : wr.cell? ⟨gb335, 2, none⟩ = some (.int .i64 a2_3) := (blk_cell BK335.out 2).trans rfl
                                                            have hcz121_3 : wr.cell? ⟨gb335, 3, none⟩ = some (.string a2_4) := (blk_cell BK335.out 3).trans rfl
                                                            have hcz121_4 : wr.cell? ⟨gb335, 4, none⟩ = some (.string a2_5) := (blk_cell BK335.out 4).trans rfl
                                                            have hcz121_5 : wr.cell? ⟨gb335, 5, none⟩ = some (.int .i64 a2_6) := (blk_cell BK335.out 5).trans rfl
                                                            have hfz121_0 := blk_frozen BK335.out 0
                                                            have hfz121_1 := blk_frozen BK335.out 1
                                                            have hfz121_2 := blk_frozen BK335.out 2
                                                            have hfz121_3 := blk_frozen BK335.out 3
                                                            have hfz121_4 := blk_frozen BK335.out 4
                                                            have hfz121_5 := blk_frozen BK335.out 5
                                                            go_wp2_with (first | ((with_reducible refine gate_callee (f := 16) rfl ?_); refine goesL_ (some 150) rfl rfl Tryd.func16 (by kernel_rfl) rfl #[.string ((((((⟨#[102, 101, 119, 58, 32]⟩ : ByteArray) ++ (Utf8.encode (bt (⟨#[105, 110]⟩ : ByteArray) x14_7))) ++ (⟨#[32, 37, 32]⟩ : ByteArray)) ++ x11_4) ++ (⟨#[32, 61, 32]⟩ : ByteArray)) ++ a0), .agg #[.string a2_1, .int .i64 a2_2, .int .i64 a2_3, .string a2_4, .string a2_5, .int .i64 a2_6]] rfl (by (try simp only [List.map_toArray, List.map_cons, List.map_nil]); first | done | rfl | (simp only [List.length_drop, List.length_take]; rfl)) ?_; (with_reducible refine (rule_Pick.calls ((((((⟨#[102, 101, 119, 58, 32]⟩ : ByteArray) ++ (Utf8.encode (bt (⟨#[105, 110]⟩ : ByteArray) x14_7))) ++ (⟨#[32, 37, 32]⟩ : ByteArray)) ++ x11_4) ++ (⟨#[32, 61, 32]⟩ : ByteArray)) ++ a0) a2_1 a2_2 a2_3 a2_4 a2_5 a2_6 t339 t340 _ (Gd.below HG.out (by repeat (first | (with_reducible first | exact HB.out | apply below_alloc | apply pw_below_drewN | apply below_drew1 | refine below_set ?_ GE334.out | refine below_set ?_ GE335.out | refine below_set ?_ GE338.out) | exact HB.out))) A101.out).mono ?_); rintro e w122 ⟨rfl, hb⟩; refine ⟨_, rfl, ?_⟩; have n0_ := Aside0.mk (blk_below (g := gb334) (o := .cells #[.int .i64 a2_0, .string a2_1, .int .i64 a2_2, .int .i64 a2_3, .string a2_4, .string a2_5, .int .i64 a2_6] 42 (0, 0)) (by (with_reducible repeat (first | refine blk_drewN ?_ _ | refine blk_drew ?_ | refine blk_alloc ?_ _)); exact BK334.out) hb); have n1_ := Aside0.mk (blk_below (g := gb335) (o := .cells #[.string a2_1, .int .i64 a2_2, .int .i64 a2_3, .string a2_4, .string a2_5, .int .i64 a2_6] 29 (0, 0)) (by (with_reducible repeat (first | refine blk_drewN ?_ _ | refine blk_drew ?_ | refine blk_alloc ?_ _)); exact BK335.out) hb); have n2_ := Aside0.mk (blk_below (g := gb338) (o := .cells #[.string (a1 ++ x339000_6), .int .i64 a2_2, .int .i64 a2_3, .string a2_4, .string a2_5, .int .i64 a2_6] 29 (0, 0)) (by (with_reducible repeat (first | refine blk_drewN ?_ _ | refine blk_drew ?_ | refine blk_alloc ?_ _)); exact BK338.out) hb); have n3_ := Aside0.mk (below_step (by repeat (first | (with_reducible first | exact HB.out | apply below_alloc | apply pw_below_drewN | apply below_drew1 | refine below_set ?_ GE334.out | refine below_set ?_ GE335.out | refine below_set ?_ GE338.out) | exact HB.out)) hb); clear BK334; clear BK335; clear BK338; clear HB; have BK334 := n0_; have BK335 := n1_; have BK338 := n2_; have HB := n3_; clear n0_ n1_ n2_ n3_; (try clear hb); (try clear hb2); (try clear hk); (try clear hi); have hnb123 := NB338_334.out; have hnc123 := NB334_338.out; have hcz124_0 : w122.cell? ⟨gb338, 0, none⟩ = some (.string (a1 ++ x339000_6)) := (blk_cell BK338.out 0).trans rfl; have hcz124_1 : w122.cell? ⟨gb338, 1, none⟩ = some (.int .i64 a2_2) := (blk_cell BK338.out 1).trans rfl; have hcz124_2 : w122.cell? ⟨gb338, 2, none⟩ = some (.int .i64 a2_3) := (blk_cell BK338.out 2).trans rfl; have hcz124_3 : w122.cell? ⟨gb338, 3, none⟩ = some (.string a2_4) := (blk_cell BK338.out 3).trans rfl; have hcz124_4 : w122.cell? ⟨gb338, 4, none⟩ = some (.string a2_5) := (blk_cell BK338.out 4).trans rfl; have hcz124_5 : w122.cell? ⟨gb338, 5, none⟩ = some (.int .i64 a2_6) := (blk_cell BK338.out 5).trans rfl; have hfz124_0 := blk_frozen BK338.out 0; have hfz124_1 := blk_frozen BK338.out 1; have hfz124_2 := blk_frozen BK338.out 2; have hfz124_3 := blk_frozen BK338.out 3; have hfz124_4 := blk_frozen BK338.out 4; have hfz124_5 := blk_frozen BK338.out 5) | ((with_reducible refine gate_callee (f := 16) rfl ?_); refine goesL_ (some 156) rfl rfl Tryd.func16 (by kernel_rfl) rfl #[.string ((((((⟨#[102, 101, 119, 58, 32]⟩ : ByteArray) ++ (Utf8.encode (bt (⟨#[105, 110]⟩ : ByteArray) x14_7))) ++ (⟨#[32, 37, 32]⟩ : ByteArray)) ++ x11_4) ++ (⟨#[32, 61, 32]⟩ : ByteArray)) ++ a0), .agg #[.string (a1 ++ x339000_6), .int .i64 a2_2, .int .i64 a2_3, .string a2_4, .string a2_5, .int .i64 a2_6]] rfl (by (try simp only [List.map_toArray, List.map_cons, List.map_nil]); first | done | rfl | (simp only [List.length_drop, List.length_take]; rfl)) ?_; (with_reducible refine (rule_Pick.calls ((((((⟨#[102, 101, 119, 58, 32]⟩ : ByteArray) ++ (Utf8.encode (bt (⟨#[105, 110]⟩ : ByteArray) x14_7))) ++ (⟨#[32, 37, 32]⟩ : ByteArray)) ++ x11_4) ++ (⟨#[32, 61, 32]⟩ : ByteArray)) ++ a0) (a1 ++ x339000_6) a2_2 a2_3 a2_4 a2_5 a2_6 t341 t342 _ (Gd.below HG.out (by repeat (first | (with_reducible first | exact HB.out | apply below_alloc | apply pw_below_drewN | apply below_drew1 | refine below_set ?_ GE334.out | refine below_set ?_ GE335.out | refine below_set ?_ GE338.out) | exact HB.out))) A102.out).mono ?_); rintro e w125 ⟨rfl, hb⟩; refine ⟨_, rfl, ?_⟩; have n0_ := Aside0.mk (blk_below (g := gb334) (o := .cells #[.int .i64 a2_0, .string a2_1, .int .i64 a2_2, .int .i64 a2_3, .string a2_4, .string a2_5, .int .i64 a2_6] 42 (0, 0)) (by (with_reducible repeat (first | refine blk_drewN ?_ _ | refine blk_drew ?_ | refine blk_alloc ?_ _)); exact BK334.out) hb); have n1_ := Aside0.mk (blk_below (g := gb335) (o := .cells #[.string a2_1, .int .i64 a2_2, .int .i64 a2_3, .string a2_4, .string a2_5, .int .i64 a2_6] 29 (0, 0)) (by (with_reducible repeat (first | refine blk_drewN ?_ _ | refine blk_drew ?_ | refine blk_alloc ?_ _)); exact BK335.out) hb); have n2_ := Aside0.mk (blk_below (g := gb338) (o := .cells #[.string (a1 ++ x339000_6), .int .i64 a2_2, .int .i64 a2_3, .string a2_4, .string a2_5, .int .i64 a2_6] 29 (0, 0)) (by (with_reducible repeat (first | refine blk_drewN ?_ _ | refine blk_drew ?_ | refine blk_alloc ?_ _)); exact BK338.out) hb); have n3_ := Aside0.mk (below_step (by repeat (first | (with_reducible first | exact HB.out | apply below_alloc | apply pw_below_drewN | apply below_drew1 | refine below_set ?_ GE334.out | refine below_set ?_ GE335.out | refine below_set ?_ GE338.out) | exact HB.out)) hb); clear BK334; clear BK335; clear BK338; clear HB; have BK334 := n0_; have BK335 := n1_; have BK338 := n2_; have HB := n3_; clear n0_ n1_ n2_ n3_; (try clear hb); (try clear hb2); (try clear hk); (try clear hi)))
                                                            go_ret
                                                            exact ⟨by first | rfl | (simp [errW_none, errW_some] <;> rfl) | (simp [*, errW_none, errW_some] <;> rfl) | (simp only [ne_nil_b]; first | done | rfl) | (simp [ne_nil_b]; done), by repeat (first | (with_reducible first | exact HB.out | apply below_alloc | apply pw_below_drewN | apply below_drew1 | refine below_set ?_ GE334.out | refine below_set ?_ GE335.out | refine below_set ?_ GE338.out) | exact HB.out)⟩
                                                        · rw [if_neg c100] at H
                                                          exact absurd H (by simp)
                                                      · rw [if_neg c99] at H
                                                        exact absurd H (by simp)
                                                    · rw [if_neg c98] at H
                                                      exact absurd H (by simp)
                                                  · rw [if_neg c97] at H
                                                    exact absurd H (by simp)
                                                · rw [if_neg c96] at H
                                                  exact absurd H (by simp)
                                              · rw [if_neg c94] at H
                                                exact absurd H (by simp)
                                            · rw [if_neg c93] at H
                                              have c93b0 : decide (x14_7 < 2) = false := decide_eq_false c93
                                              clear c93
                                              have HT := Option.some.inj H
                                              go_wp2
                                              go_ret
                                              exact ⟨by first | rfl | (simp [errW_none, errW_some] <;> rfl) | (simp [*, errW_none, errW_some] <;> rfl) | (simp only [ne_nil_b]; first | done | rfl) | (simp [ne_nil_b]; done), by repeat (first | (with_reducible first | exact HB.out | apply below_alloc | apply pw_below_drewN | apply below_drew1 | refine below_set ?_ GE334.out | refine below_set ?_ GE335.out | refine below_set ?_ GE338.out) | exact HB.out)⟩
                                      · rw [if_neg c89] at H
                                        exact absurd H (by simp)
  · replace c5 := Bool.eq_false_iff.mpr c5
    subst c5
    have H1 : (some false) = some true := by rw [if_neg (show ¬ (false = true) by decide)] at H; exact H
    clear H
    have H := H1
    clear H1
    exact absurd H (by simp)
end Go.Proofs.YtnkggincckdoiaaDoor.Q
