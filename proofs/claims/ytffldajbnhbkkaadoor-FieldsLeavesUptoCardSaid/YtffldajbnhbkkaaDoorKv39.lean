import Derived.RangeFuncNested
import Derived.RangeFuncCalls
import Derived.Test.YtffldajbnhbkkaaDoorKv29
import Derived.Test.YtffldajbnhbkkaaDoorKv35
import Derived.RangeFuncBound
import Derived.RangeFuncLeaves
import Derived.Shelf.Abstract
import Derived.Shelf.RegionOpen
import Derived.OwnWalkIn
import Derived.TacticsInMore
import Derived.LoopNIn
import Derived.LoopIn
import Derived.Outline
import Derived.Lib.QuietBelowIn
import Derived.TacticsIn
namespace Go.Proofs.YtffldajbnhbkkaaDoor.RX
open Go Go.RowKit
set_option linter.unusedVariables false
set_option linter.unusedSimpArgs false
variable {F : Fence} {n : Nat} {P : Program}
/-- How the body of a round may be left. -/
def post {β : Type} (B : Nat) (Kp : World → World → Prop) (I : β → World → Prop) (Ix : Code → World → Prop) (s : β) (W : World) : Exit → Act → World → Prop
  | .normal, _, W' => KeepsFrom B W W' ∧ Kp W W' ∧ I s W'
  | .ret, _, W' => KeepsFrom B W W' ∧ Ix .ret W'
  | .exit id, _, W' => KeepsFrom B W W' ∧ Ix (.exit id) W'
  | .goto t, _, W' => KeepsFrom B W W' ∧ Ix (.goto t) W'
  | .panic _, _, _ => False
  | .outgrown, _, _ => False
/-- What speaks of the law's own blocks alone: it abides whatever keeps what is no cells. -/
def Bk (B : Nat) (J : World → Prop) : Prop := ∀ W W', J W → KeepsFrom B W W' → J W'
/-- Whatever is cells, from B on, lies as_ it lay. -/
def KC (B : Nat) (W W' : World) : Prop := ∀ (k : Nat) (o : Obj), B ≤ k → W.heap[k]? = some o → o.isCells = true → W'.heap[k]? = some o
theorem KC.trans {B : Nat} {X Y Z : World} (h : KC B X Y) (k : KC B Y Z) : KC B X Z := fun i o hB hi ho => k i o hB (h i o hB hi ho) ho
theorem KC.putObj {B : Nat} (W : World) (l : Nat) (o o' : Obj) (_ : B ≤ l) (h : W.heap[l]? = some o) (hc : o.isCells = false) : KC B W (W.putObj l o') := fun k u _ hk hu => by
  refine (World.putObj_heap_other (fun e => ?_)).trans hk
  subst e
  rw [h] at hk; cases hk; rw [hc] at hu; cases hu
theorem KC.refl (B : Nat) (W : World) : KC B W W := fun _ _ _ h _ => h
theorem KC.below {B : Nat} {W W' : World} (h : Below W.heap.size W W') : KC B W W' := fun k o _ hk _ => (h.block k (Array.getElem?_eq_some_iff.1 hk).1).trans hk
/-- A store into a block below B. -/
theorem KC.setCell {B : Nat} (W : World) (a : Addr) (v : Value) (h : a.block < B) : KC B W (W.setCell a v) := fun k o hB hk _ => (Below.heap_setCell W a v k (by omega)).trans hk
theorem keeps_below {B : Nat} {W W' : World} (h : Below W.heap.size W W') : KeepsFrom B W W' := ⟨h.size, fun k o _ hk _ => (h.block k (Array.getElem?_eq_some_iff.1 hk).1).trans hk⟩
theorem wpIn_rangeX {β α : Type} {g : Operand} {ps : Array Tmp} {assign body : Code} {Q : Exit → Act → World → Prop} {a : Act} {w : World}
    (hro : F.round = none) (h1 : 1 ≤ n) {gf : Nat} {lb : Array Value} (hg : a.eval g = .func (.func gf) #[] lb) (hFg : F.fn gf) (eg : ∀ args w, (callFunc gf args).run P w = .ok (.enter gf args) w)
    (encs : α → Array Value) (hps : ∀ x, (encs x).size = ps.size) (Nx : β → α → Prop) (nxt : β → α → β) (S : β → Prop) (s0 : β) (Pk : List PanicEntry → World → Prop)
    {Kp : World → World → Prop} (hKt : ∀ {A B C : World}, Kp A B → Kp B C → Kp A C) (hKb : ∀ (W : World) (l : Nat) (o o' : Obj), w.heap.size ≤ l → W.heap[l]? = some o → o.isCells = false → Kp W (W.putObj l o'))
    (I : β → World → Prop) (Ix : Code → World → Prop) (hI : OwnFrom w.heap.size I) (hIx : OwnFrom w.heap.size Ix) (h0 : I s0 w) (Ax : α → Act → World → Prop) (hAx : ∀ x a', OwnFrom w.heap.size (fun (_ : Unit) W => Ax x a' W))
    (hiter : ∀ (l : Nat) (J Jx : World → Prop), Bk w.heap.size J →
      (∀ s x W, I s W → J W → Nx s x → YieldAt F (n - 1 - 1) P l (encs x) W fun e W' => (e = .returned (.bool true) ∧ I (nxt s x) W' ∧ J W' ∧ Kp W W') ∨ (e = .returned (.bool false) ∧ (∃ c, Ix c W') ∧ Jx W')) →
      ∀ W, I s0 W → J W → CallsIn F (n - 1) P gf (#[.func (.yield l) #[] #[]] ++ lb) W fun e W' => (∃ v, e = .returned v ∧ ((∃ s, S s ∧ I s W' ∧ J W') ∨ Jx W')) ∨ (∃ ch, e = .panicked ch ∧ Pk ch W' ∧ J W'))
    (hassign : ∀ (l : Nat) (s : β) (x : α) (W : World) (K : Act → World → Prop), I s W → Nx s x → (∀ a' W', KeepsFrom w.heap.size W W' → Kp W W' → I s W' → Ax x a' W' → K a' W') →
      assign.wpIn (F.inRound l) (n - 1 - 1) P (Exit.then K (fun _ _ _ => False)) { tmps := (ps.zip (encs x)).foldl (fun t (p, v) => t.setIfInBounds p v) a.tmps, defers := [] } W)
    (hbody : ∀ (l : Nat) (s : β) (x : α) (a' : Act) (W : World), w.heap.size ≤ l → I s W → Nx s x → Ax x a' W → body.wpIn (F.inRound l) (n - 1 - 1) P (post w.heap.size Kp I Ix (nxt s x) W) a' W)
    (hdone : ∀ (D : Nat) (s : β) (W : World), w.heap.size ≤ D → S s → I s W → W.heap[D]? = some (.deferred (some [])) → Q .normal { a with defers := { target := .collected D, args := #[] } :: a.defers } W)
    (hstop : ∀ (D : Nat) (c : Code) (W : World), w.heap.size ≤ D → Ix c W → W.heap[D]? = some (.deferred (some [])) → c.wpIn F n P Q { a with defers := { target := .collected D, args := #[] } :: a.defers } W)
    (hpanic : ∀ (D : Nat) (ch : List PanicEntry) (W : World), w.heap.size ≤ D → Pk ch W → W.heap[D]? = some (.deferred (some [])) → Q (.panic ch) { a with defers := { target := .collected D, args := #[] } :: a.defers } W) :
    (Code.rangeFunc g ps assign body).wpIn F n P Q a w := by
  refine wpIn_rangeFunc ?_
  intro fn hfn
  rw [hro]
  obtain ⟨rec, hrec⟩ : ∃ rec : LoopState → Option Code → Loop, rec = fun st pe => { state := st, pending := pe, fn, tmps := a.tmps, params := ps, assign, body, defers := w.heap.size } := ⟨_, rfl⟩
  obtain ⟨W1, hW1⟩ : ∃ W1, (w.alloc (.deferred (some []))).alloc (.loop (rec .ready none)) = W1 := ⟨_, rfl⟩
  have hL1 : W1.heap[w.heap.size + 1]? = some (.loop (rec .ready none)) := by
    rw [← hW1]; have := World.alloc_heap_new (w.alloc (.deferred (some []))) (.loop (rec .ready none)); rwa [World.size_alloc] at this
  have hK1 : W1.heap[w.heap.size]? = some (.deferred (some [])) := by
    rw [← hW1]; exact (Below.heap_alloc _ _ _ (by simp)).trans (World.alloc_heap_new w _)
  have hI1 : I s0 W1 := by rw [← hW1]; exact hI.alloc _ (hI.alloc _ h0)
  refine ⟨w.heap.size + 1, [{ target := .collected w.heap.size, args := #[] }], W1, { target := .fn (.func gf) lb, args := #[.func (.yield (w.heap.size + 1)) #[] #[]] }, W1, gf,
    #[.func (.yield (w.heap.size + 1)) #[] #[]] ++ lb, W1, ?_, ?_, ?_, ?_, fun _ => h1, ?_⟩
  · rw [← hW1, hrec]; exact run_enterLoop_outer _ _ _ _ _
  · simp only [resolve, hg]
    simp [go_sem]
  · intro f' hf'; simp [Target.leads] at hf'; subst hf'; exact hFg
  · simp [invoke, go_sem, eg]
  · refine (hiter (w.heap.size + 1)
      (fun W => W.heap[w.heap.size + 1]? = some (.loop (rec .ready none)) ∧ W.heap[w.heap.size]? = some (.deferred (some [])))
      (fun W => ∃ c, Ix c W ∧ W.heap[w.heap.size + 1]? = some (.loop (rec .done (some c))) ∧ W.heap[w.heap.size]? = some (.deferred (some [])))
      (fun A B hs hk => ⟨hk.same _ _ (by omega) hs.1 rfl, hk.same _ _ (Nat.le_refl _) hs.2 rfl⟩)
      ?_ W1 hI1 ⟨hL1, hK1⟩).mono ?_
    · -- one round
      rintro s x W hi ⟨hl, hk⟩ hnx
      have hy := run_yield (P := P) (args := encs x) hl (by rw [hrec]; exact hps x)
      rw [hrec] at hy
      refine ⟨fn, _, assign, body, hy, roundIn_of_wpIn hfn (hassign _ s x W _ hi hnx ?_)⟩
      clear hy
      intro a' Wa hkfa hkpa hia hax
      replace hl := hkfa.same _ _ (by omega) hl rfl
      replace hk := hkfa.same _ _ (Nat.le_refl _) hk rfl
      have hlt : w.heap.size + 1 < Wa.heap.size := (Array.getElem?_eq_some_iff.1 hl).1
      refine ⟨_, run_beginRound hl (by rw [hrec]), ?_⟩
      have hl2 : (Wa.putObj (w.heap.size + 1) (.loop { rec .ready none with state := .busy })).heap[w.heap.size + 1]? = some (.loop { rec .ready none with state := .busy }) := World.putObj_heap_same hlt
      have hk2 : (Wa.putObj (w.heap.size + 1) (.loop { rec .ready none with state := .busy })).heap[w.heap.size]? = some (.deferred (some [])) := (World.putObj_heap_other (by omega)).trans hk
      have hw2 : Kp Wa (Wa.putObj (w.heap.size + 1) (.loop { rec .ready none with state := .busy })) := hKb _ _ _ _ (by omega) hl rfl
      refine wpIn_mono (hbody _ s x a' _ (by omega) (hI.putObj _ hia (by omega) hl rfl) hnx ((hAx x a').putObj (s := ()) _ hax (by omega) hl rfl)) ?_
      have fin : ∀ (jump : Option Code) (W3 : World), KeepsFrom w.heap.size (Wa.putObj (w.heap.size + 1) (.loop { rec .ready none with state := .busy })) W3 →
          (Instr.endRound (w.heap.size + 1) jump).run P W3 = .ok (.bool jump.isNone) (W3.putObj (w.heap.size + 1) (.loop (rec (if jump.isNone then .ready else .done) jump))) ∧
          W3.heap[w.heap.size + 1]? = some (.loop { rec .ready none with state := .busy }) ∧
          (W3.putObj (w.heap.size + 1) (.loop (rec (if jump.isNone then .ready else .done) jump))).heap[w.heap.size + 1]? = some (.loop (rec (if jump.isNone then .ready else .done) jump)) ∧
          (W3.putObj (w.heap.size + 1) (.loop (rec (if jump.isNone then .ready else .done) jump))).heap[w.heap.size]? = some (.deferred (some [])) := fun jump W3 hk3 => by
        have hl3 := hk3.same _ _ (by omega) hl2 rfl
        have := run_endRound (P := P) jump hl3
        rw [hrec] at this ⊢
        exact ⟨this, by rw [hrec] at hl3; exact hl3, World.putObj_heap_same (Array.getElem?_eq_some_iff.1 hl3).1, (World.putObj_heap_other (by omega)).trans (hk3.same _ _ (Nat.le_refl _) hk2 rfl)⟩
      rintro e a3 W3 hp
      cases e with
      | normal =>
        obtain ⟨hk3, hkp3, hi3⟩ := hp
        obtain ⟨hr, hl3, hl4, hk4⟩ := fin none W3 hk3
        exact ⟨_, _, hr, .inl ⟨rfl, hI.putObj _ hi3 (by omega) hl3 rfl, ⟨hl4, hk4⟩, hKt hkpa (hKt (hKt hw2 hkp3) (hKb _ _ _ _ (by omega) hl3 rfl))⟩⟩
      | ret =>
        obtain ⟨hk3, hi3⟩ := hp
        obtain ⟨hr, hl3, hl4, hk4⟩ := fin (some .ret) W3 hk3
        have hx := hIx.putObj (.loop (rec (if (some Code.ret).isNone then .ready else .done) (some .ret))) hi3 (by omega) hl3 rfl
        exact ⟨_, _, hr, .inr ⟨rfl, ⟨_, hx⟩, .ret, hx, hl4, hk4⟩⟩
      | exit id =>
        obtain ⟨hk3, hi3⟩ := hp
        obtain ⟨hr, hl3, hl4, hk4⟩ := fin (some (.exit id)) W3 hk3
        have hx := hIx.putObj (.loop (rec (if (some (Code.exit id)).isNone then .ready else .done) (some (.exit id)))) hi3 (by omega) hl3 rfl
        exact ⟨_, _, hr, .inr ⟨rfl, ⟨_, hx⟩, .exit id, hx, hl4, hk4⟩⟩
      | goto t =>
        obtain ⟨hk3, hi3⟩ := hp
        obtain ⟨hr, hl3, hl4, hk4⟩ := fin (some (.goto t)) W3 hk3
        have hx := hIx.putObj (.loop (rec (if (some (Code.goto t)).isNone then .ready else .done) (some (.goto t)))) hi3 (by omega) hl3 rfl
        exact ⟨_, _, hr, .inr ⟨rfl, ⟨_, hx⟩, .goto t, hx, hl4, hk4⟩⟩
      | panic ch => exact hp.elim
      | outgrown => exact hp.elim
    · -- behind the iterator
      rintro e W2 (⟨v, rfl, (⟨s, hS, hi, hl, hk⟩ | ⟨c, hi, hl, hk⟩)⟩ | ⟨ch, rfl, hp, hl, hk⟩)
      · exact ⟨none, _, by have := run_endLoop (P := P) hl (by rw [hrec]; simp); rw [hrec] at this; exact this, hdone _ s _ (Nat.le_refl _) hS (hI.putObj _ hi (by omega) hl rfl) ((World.putObj_heap_other (by omega)).trans hk)⟩
      · exact ⟨some c, _, by have := run_endLoop (P := P) hl (by rw [hrec]; simp); rw [hrec] at this; exact this, hstop _ c _ (Nat.le_refl _) (hIx.putObj _ hi (by omega) hl rfl) ((World.putObj_heap_other (by omega)).trans hk)⟩
      · exact hpanic _ ch _ (Nat.le_refl _) hp hk
/-- .. where the assign code lays one block of cells in every round (a loop variable that is boxed): the frame behind it told by 'upd'. -/
theorem wpIn_rangeX_box {β α : Type} {g : Operand} {ps : Array Tmp} {assign body : Code} {Q : Exit → Act → World → Prop} {a : Act} {w : World}
    (hro : F.round = none) (h1 : 1 ≤ n) {gf : Nat} {lb : Array Value} (hg : a.eval g = .func (.func gf) #[] lb) (hFg : F.fn gf) (eg : ∀ args w, (callFunc gf args).run P w = .ok (.enter gf args) w)
    (encs : α → Array Value) (hps : ∀ x, (encs x).size = ps.size) (Nx : β → α → Prop) (nxt : β → α → β) (S : β → Prop) (s0 : β) (Pk : List PanicEntry → World → Prop)
    {Kp : World → World → Prop} (hKt : ∀ {A B C : World}, Kp A B → Kp B C → Kp A C) (hKb : ∀ (W : World) (l : Nat) (o o' : Obj), w.heap.size ≤ l → W.heap[l]? = some o → o.isCells = false → Kp W (W.putObj l o'))
    (I : β → World → Prop) (Ix : Code → World → Prop) (hI : OwnFrom w.heap.size I) (hIx : OwnFrom w.heap.size Ix) (h0 : I s0 w) (ob : α → Obj) (hob : ∀ x, (ob x).isCells = true) (upd : Array Value → α → Nat → Array Value)
    (hiter : ∀ (l : Nat) (J Jx : World → Prop), Bk w.heap.size J →
      (∀ s x W, I s W → J W → Nx s x → YieldAt F (n - 1 - 1) P l (encs x) W fun e W' => (e = .returned (.bool true) ∧ I (nxt s x) W' ∧ J W' ∧ Kp W W') ∨ (e = .returned (.bool false) ∧ (∃ c, Ix c W') ∧ Jx W')) →
      ∀ W, I s0 W → J W → CallsIn F (n - 1) P gf (#[.func (.yield l) #[] #[]] ++ lb) W fun e W' => (∃ v, e = .returned v ∧ ((∃ s, S s ∧ I s W' ∧ J W') ∨ Jx W')) ∨ (∃ ch, e = .panicked ch ∧ Pk ch W' ∧ J W'))
    (hassign : ∀ (l : Nat) (s : β) (x : α) (W : World) (K : Act → World → Prop), I s W → Nx s x → (∀ a' W' gx, KeepsFrom w.heap.size W W' → Kp W W' → I s W' → w.heap.size ≤ gx → W'.heap[gx]? = some (ob x) → a' = { tmps := upd a.tmps x gx, defers := [] } → K a' W') →
      assign.wpIn (F.inRound l) (n - 1 - 1) P (Exit.then K (fun _ _ _ => False)) { tmps := (ps.zip (encs x)).foldl (fun t (p, v) => t.setIfInBounds p v) a.tmps, defers := [] } W)
    (hbody : ∀ (l : Nat) (s : β) (x : α) (gx : Nat) (W : World), w.heap.size ≤ l → I s W → Nx s x → w.heap.size ≤ gx → W.heap[gx]? = some (ob x) → body.wpIn (F.inRound l) (n - 1 - 1) P (post w.heap.size Kp I Ix (nxt s x) W) { tmps := upd a.tmps x gx, defers := [] } W)
    (hdone : ∀ (D : Nat) (s : β) (W : World), w.heap.size ≤ D → S s → I s W → W.heap[D]? = some (.deferred (some [])) → Q .normal { a with defers := { target := .collected D, args := #[] } :: a.defers } W)
    (hstop : ∀ (D : Nat) (c : Code) (W : World), w.heap.size ≤ D → Ix c W → W.heap[D]? = some (.deferred (some [])) → c.wpIn F n P Q { a with defers := { target := .collected D, args := #[] } :: a.defers } W)
    (hpanic : ∀ (D : Nat) (ch : List PanicEntry) (W : World), w.heap.size ≤ D → Pk ch W → W.heap[D]? = some (.deferred (some [])) → Q (.panic ch) { a with defers := { target := .collected D, args := #[] } :: a.defers } W) :
    (Code.rangeFunc g ps assign body).wpIn F n P Q a w :=
  wpIn_rangeX (Kp := Kp) hro h1 hg hFg eg encs hps Nx nxt S s0 Pk (fun h k => hKt h k) hKb I Ix hI hIx h0 (fun x a' W => ∃ gx, w.heap.size ≤ gx ∧ W.heap[gx]? = some (ob x) ∧ a' = { tmps := upd a.tmps x gx, defers := [] })
    (fun x a' _ X Y row hs hg hr => by
      obtain ⟨gx, h1, h2, h3⟩ := hs
      refine ⟨gx, h1, (hg.block gx (Array.getElem?_eq_some_iff.1 h2).1 (fun e => ?_)).trans h2, h3⟩
      obtain ⟨_, o, ho, hc⟩ := hr gx e.symm
      rw [h2] at ho; cases ho; rw [hob] at hc; cases hc)
    hiter (fun l s x W K hi hn hK => hassign l s x W K hi hn (fun a' W' gx h1 h2 h3 h4 h5 h6 => hK a' W' h1 h2 h3 ⟨gx, h4, h5, h6⟩))
    (fun l s x a' W hl hi hn hx => by
      obtain ⟨gx, h4, h5, rfl⟩ := hx
      exact hbody l s x gx W hl hi hn h4 h5) hdone hstop hpanic
end Go.Proofs.YtffldajbnhbkkaaDoor.RX

namespace Go.Proofs.YtffldajbnhbkkaaDoor.Q
open Go.RowKit Go.Shelf Go.Proofs.YtffldajbnhbkkaaDoorW.PrintWords Go.Proofs.YtffldajbnhbkkaaDoorW.PrintLast Go.Proofs.YtffldajbnhbkkaaDoorW.PrintMore
set_option linter.unusedVariables false
set_option linter.unusedSimpArgs false
attribute [local go_sem] Oper.semAt_some
/-- What is handed to a round: a span, and its text. -/
def encA (s : ByteArray) (x : S31) : Array Value := #[.agg #[.int .i64 x.f0, .int .i64 x.f1, .int .i64 x.f2], .string (subS s x.f1 x.f2)]
def lastA (s : ByteArray) (ls : List S31) : Nat := if chkB s ls = true then ls.length else 0
theorem R_kc {α : Type} {d : Kd α} {e B : Nat} {w w1 : World} {base : Nat} {ok : Nat → Prop} {v : Value} {xs : List α} (h : d.R e w base ok v xs) (hE : d.E = []) (hB : B ≤ base) (hk : RX.KC B w w1) : d.R e w1 base ok v xs := by
  refine Kd.R_mono (Kd.R_move (Kd.R_bound h) (fun k hk2 => ?_)) (fun _ hk => hk.1)
  obtain ⟨_, h2, h3, q, hq, cells, hc⟩ := hk2
  rw [hE] at hq
  obtain rfl := List.mem_singleton.1 hq
  exact (hk k _ (by omega) hc rfl).trans hc.symm
/-- What a round has said. -/
def Said (P Q : World → Prop) (b : Bool) (W : World) : Prop := (b = true ∧ P W) ∨ (b = false ∧ Q W)
set_option maxHeartbeats 4000000 in
set_option maxRecDepth 100000 in
theorem iter_in (B m l gb : Nat) (s : ByteArray) (A : Option Addr) (c : Nat) (ls : List S31) (W0 : World) (hG : Gd W0) (hs : s.size < 1000000000) (hr : Kd.C k31 W0 A ls.length ls) (hc : ls.length ≤ c) (hl : ls.length < 100000000)
    (I : Nat → World → Prop) (J Jx : World → Prop) (hIW : ∀ n W, I n W → Below W0.heap.size W0 W ∧ W.heap[gb]? = some (.cells #[.string s, .slice A ls.length c] 25 (0, 0)) ∧ B ≤ W.heap.size)
    (hIk : ∀ n W W', I n W → Below W.heap.size W W' → I n W') (hJk : ∀ W W', J W → Below W.heap.size W W' → J W')
    (hY : ∀ (n : Nat) (W : World) (h : n < ls.length), chkB s ls = true → I n W → J W → YieldAt Fence.wide m Tryd.prog l (encA s ls[n]) W fun e W' => (e = .returned (.bool true) ∧ I (n + 1) W' ∧ J W' ∧ RX.KC B W W') ∨ (e = .returned (.bool false) ∧ Jx W'))
    (W : World) (h0 : I 0 W) (hj0 : J W) :
    CallsIn Fence.wide (m + 1) Tryd.prog 41 #[.func (.yield l) #[] #[], .pointer (some ⟨gb, 0, none⟩)] W fun e W' => ∃ v, e = .returned v ∧ ((I (lastA s ls) W' ∧ J W') ∨ Jx W') := by
  have hu25 := Tryd.underlying25
  have hu31 := Tryd.underlying31
  have hu23 := Tryd.underlying23
  have CC := Aside0.mk (fun (w2 : World) (hW : Below W0.heap.size W0 w2) => check_walk s A c ls w2 (Gd.below hG hW) (by omega) (Kd.C_below hr hW) hc (by omega))
  have LC := Aside0.mk (fun (w2 : World) (hW : Below W0.heap.size W0 w2) => clone_walk A c ls w2 (Kd.C_below hr hW) hc (by omega))
  obtain ⟨hb0, hx0, hB0⟩ := hIW 0 W h0
  have i0 := (blk_cell hx0 0).trans (rfl : _ = some (Value.string s))
  have i1 := (blk_cell hx0 1).trans (rfl : _ = some (Value.slice A ls.length c))
  have HB0 := Aside0.mk hb0
  have H0 := Aside0.mk h0
  have HJ0 := Aside0.mk hj0
  have HIW := Aside0.mk hIW
  have HIK := Aside0.mk hIk
  have HJK := Aside0.mk hJk
  have HY := Aside0.mk hY
  have HL := Aside0.mk hl
  have HBB := Aside0.mk hB0
  clear hb0 h0 hj0 hIW hIk hJk hY hl hB0 hx0 hG hr hs
  unfold ChkPost at CC
  refine callsIn_of_wp Tryd.func41 rfl trivial ?_ rfl
  simp only [Tryd.ntmps41, List.size_toArray, List.length_cons, List.length_nil, Nat.reduceAdd, Nat.reduceSub, Array.replicate_succ, Array.replicate_zero, List.push_toArray, List.append_toArray, List.nil_append, List.cons_append]
  cases hck : chkB s ls with
  | false =>
    rw [hck] at CC
    have HLA : Aside0 (lastA s ls = 0) := ⟨by unfold lastA; rw [hck]; rfl⟩
    gi_wp2_with (refine ⟨trivial, ?_⟩; gi_at_call 15; refine (callsIn_wide.2 (CC.out _ HB0.out)).mono ?_; rintro e w2 ⟨rfl, hb⟩; have HB2 := Aside0.mk hb; clear hb)
    refine bodyPost_ret (results_none rfl _ _ _) rfl ?_
    exact ⟨_, rfl, .inl ⟨by rw [HLA.out]; exact HIK.out _ _ _ H0.out HB2.out, HJK.out _ _ HJ0.out HB2.out⟩⟩
  | true =>
    rw [hck] at CC
    have HLA : Aside0 (lastA s ls = ls.length) := ⟨by unfold lastA; rw [hck]; rfl⟩
    gi_wp2_with (first | (refine ⟨trivial, ?_⟩; gi_at_call 15; refine (callsIn_wide.2 (CC.out _ HB0.out)).mono ?_; rintro e w2 ⟨rfl, hb⟩; have hx2 := blk_below (HIW.out 0 W H0.out).2.1 hb; have i1' := (blk_cell hx2 1).trans (rfl : _ = some (Value.slice A ls.length c)); have HB2 := Aside0.mk hb; clear hb hx2) | (refine ⟨trivial, ?_⟩; gi_at_call 34; refine (callsIn_wide.2 (LC.out _ (below_step HB0.out HB2.out))).mono ?_; rintro e w3 ⟨v3, rfl, hR3, hb⟩; have HB3 := Aside0.mk (below_step HB2.out hb); have HSZ := Aside0.mk (Nat.le_trans HBB.out HB2.out.size); obtain ⟨A3, c3, rfl⟩ := Kd.R_slice hR3; have HR3 := Aside0.mk hR3; clear hb hR3))
    have hz : ls.length ≤ 9223372036854775807 := by have := HL.out; omega
    gi_loopw [12] (fun v12 wr => ∃ (k : Nat), v12 = .int .i64 k ∧ k ≤ ls.length ∧ I k wr ∧ J wr ∧ Kd.R k31 31 wr w2.heap.size (fun _ => True) (.slice A3 ls.length c3) ls) (fun v12 _ => ls.length - (Lib.intOf v12).toNat)
    case atStart => exact ⟨0, rfl, Nat.zero_le _, HIK.out _ _ _ H0.out HB3.out, HJK.out _ _ HJ0.out HB3.out, HR3.out⟩
    case round =>
      obtain ⟨k, rfl, hk, hi, hj, hr⟩ := hrel
      have hx := (HIW.out k wr hi).2.1
      have HI := Aside0.mk hi
      have HJ := Aside0.mk hj
      have HR := Aside0.mk hr
      have q0 := (blk_cell hx 0).trans (rfl : _ = some (Value.string s))
      have HX := Aside0.mk hx
      have HK := Aside0.mk hk
      clear hi hj hr hx hk
      by_cases hkk : k < ls.length
      · have hlt : (k : Int) < (ls.length : Int) := Int.ofNat_lt.2 hkk
        obtain ⟨ad, ea, c0, c1, c2⟩ := at_T31 (Kd.R_reads' HR.out).2.2 (k : Int) (Int.natCast_nonneg k) hlt
        rw [rd31 ls k hkk, Int.toNat_natCast] at c0 c1 c2
        subst ea
        have hsp := span_in (chk_span hck ls[k] (List.getElem_mem hkk))
        have hYk := fun W' => HY.out k W' hkk hck
        obtain ⟨x, hx⟩ : ∃ x, x = ls[k] := ⟨_, rfl⟩
        rw [← hx] at c0 c1 c2 hsp
        simp only [← hx] at hYk
        obtain ⟨_, _, p1, p2, p3⟩ := hsp
        have q1 := placeB_in p1
        have q2 := placeB_in p2
        have HYK := Aside0.mk hYk
        have HKK := Aside0.mk hkk
        have HWI := Aside0.mk (wrapIn hkk (show ls.length < 1000000000 by have := HL.out; omega))
        clear hYk p1 p2 hx hkk
        obtain ⟨a0, a1⟩ := q1
        obtain ⟨b0, b1⟩ := q2
        have ab : x.f1 ≤ x.f2 := Int.le_of_lt p3
        gi_wp2
        have hb4 := below_alloc (Below.refl wr.heap.size wr) (Obj.cells #[Value.int .i64 x.f0, Value.int .i64 x.f1, Value.int .i64 x.f2] 31)
        have hx4 := blk_new wr (Obj.cells #[Value.int .i64 x.f0, Value.int .i64 x.f1, Value.int .i64 x.f2] 31)
        have hi4 := HIK.out _ _ _ HI.out hb4
        have hj4 := HJK.out _ _ HJ.out hb4
        have hr4 := Kd.R_below HR.out hb4
        generalize wr.alloc (Obj.cells #[Value.int .i64 x.f0, Value.int .i64 x.f1, Value.int .i64 x.f2] 31) = w4 at hb4 hx4 hi4 hj4 hr4 ⊢
        generalize wr.heap.size = gx at hx4 ⊢
        have hg4 := (HIW.out k w4 hi4).2.1
        have g0 := (blk_cell hg4 0).trans (rfl : _ = some (Value.string s))
        have k0 := (blk_cell hx4 0).trans (rfl : _ = some (Value.int .i64 x.f0))
        have k1 := (blk_cell hx4 1).trans (rfl : _ = some (Value.int .i64 x.f1))
        have k2 := (blk_cell hx4 2).trans (rfl : _ = some (Value.int .i64 x.f2))
        have hi5 := HIK.out _ _ _ hi4 (below_drew1 (Below.refl w4.heap.size w4))
        have hj5 := HJK.out _ _ hj4 (below_drew1 (Below.refl w4.heap.size w4))
        have HR5 := Aside0.mk (Kd.R_drew hr4)
        obtain ⟨fn, tmps, assign, body, hy, hR⟩ := HYK.out w4.drew hi5 hj5
        have HRR := Aside0.mk (hR.mono (R' := fun e W' => ∃ b, e = .returned (.bool b) ∧ Said (fun W' => I (k + 1) W' ∧ J W' ∧ RX.KC B w4.drew W') Jx b W') (by
          rintro e W' (⟨rfl, h⟩ | ⟨rfl, h⟩)
          · exact ⟨true, rfl, Or.inl ⟨rfl, h⟩⟩
          · exact ⟨false, rfl, Or.inr ⟨rfl, h⟩⟩))
        unfold encA subS at hy
        have hmx : Tryd.prog.follows .mixedOrders = true := by kernel_rfl
        clear hb4 hx4 hi4 hj4 hr4 hg4 hi5 hj5 hR c0 c1 c2 q0
        gi_region_with_o (refine HRR.out.mono ?_; rintro e W3 ⟨b, rfl, hsd⟩; have HSD := Aside0.mk hsd; clear hsd)
        all_goals
          rcases HSD.out with ⟨rfl, hi6, hj6, hk6⟩ | ⟨rfl, hx6⟩
          · have HI6 := Aside0.mk hi6
            have HJ6 := Aside0.mk hj6
            have HR6 := Aside0.mk (R_kc HR5.out rfl (Nat.le_trans HBB.out HB2.out.size) hk6)
            clear hi6 hj6 hk6 hy
            gi_wp2
            go_roundw
            case rel => exact ⟨k + 1, by first | rw [HWI.out] | rfl | (simp; done), HKK.out, HI6.out, HJ6.out, HR6.out⟩
            case measure => first | (rw [HWI.out]; exact Nat.sub_lt_sub_left HKK.out (Nat.lt_succ_self k)) | (show ls.length - ((k : Int) + 1).toNat < ls.length - ((k : Int)).toNat; have := HKK.out; omega)
          · clear hy
            gi_wp2
            refine bodyPost_ret (results_none rfl _ _ _) rfl ?_
            exact ⟨_, rfl, .inr hx6⟩
      · obtain rfl : k = ls.length := by have := HK.out; omega
        gi_wp2
        go_end0
        exact ⟨_, rfl, .inl ⟨by rw [HLA.out]; exact HI.out, HJ.out⟩⟩
end Go.Proofs.YtffldajbnhbkkaaDoor.Q

namespace Go.Proofs.YtffldajbnhbkkaaDoor.RX
open Go Go.RowKit Go.Sort
set_option linter.unusedVariables false
set_option linter.unusedSimpArgs false
variable {F : Fence} {n : Nat} {P : Program} {C : World → Prop} {ops : Array Oper} {md : Region.Mode} {w : World}
def isDefer : Op → Bool
  | .defer _ => true
  | _ => false
theorem not_defer {o : Oper} (h : isDefer o.op = false) : ∀ c : Call, o.op ≠ Op.defer c := fun c e => by rw [e] at h; cases h
theorem wpIn_of_quiet_r {o : Oper} {a : Act} {K : Act → Prop} {K' : Act → World → Prop} {Q' : Exit → Act → World → Prop} (hnd : ∀ c : Call, o.op ≠ Op.defer c) (hw : C w) (h : ∀ a w', C w' → K a → K' a w')
    (ha : o.askedIn F P a C) (hh : o.quietIn F n P a C K) : o.wpIn F n P a w K' Q' := by
  obtain ⟨v, h1, h2⟩ := hh
  have h3 := h1 w hw
  unfold Oper.quietAtIn at h3
  unfold Oper.wpIn
  refine ⟨ha w hw, ?_⟩
  rw [Oper.semAt_eq _ _ _ hnd]
  generalize (execOp a.eval o).run P w = r at *
  cases r with
  | ok x w' =>
    cases x <;> simp only [Oper.quietUponIn] at h3 <;> simp only [Oper.uponIn]
    case value u =>
      obtain ⟨e1, e2⟩ := h3
      rw [e1, e2]
      exact h _ _ hw h2
    case skip =>
      obtain ⟨e1, e2⟩ := h3
      rw [e1, ← e2]
      exact h _ _ hw h2
    case enter f args =>
      obtain ⟨e1, hd, hc⟩ := h3
      rw [e1]
      exact ⟨hd, hc.mono fun e w'' ⟨he, hw''⟩ => by subst he; exact h _ _ hw'' h2⟩
  | halt x w' => simp only [Oper.quietUponIn] at h3
theorem wpOpIn_r {i : Nat} {a : Act} {K : Act → Prop} {K' : Act → World → Prop} {Q' : Exit → Act → World → Prop} (hnd : ∀ (i : Nat) (o : Oper), ops[i]? = some o → ∀ c : Call, o.op ≠ Op.defer c) (hC : C w) (h : ∀ a w', C w' → K a → K' a w')
    (hh : qOpIn F n P ops C i K a) : wpOpIn F n P ops Q' i K' a w := by
  unfold qOpIn at hh
  unfold wpOpIn
  split
  · rename_i ho; simp only [ho] at hh; exact h _ _ hC hh
  · rename_i o ho
    simp only [ho] at hh
    obtain ⟨ha, hh⟩ := hh
    split
    · rename_i hw; simp only [hw, if_true] at hh; exact wpIn_of_quiet_r (hnd i o ho) hC h ha hh
    · rename_i hw; simp only [hw] at hh; exact ⟨ha w hC, h _ _ hC hh⟩
theorem wpAnyIn_r {Q : Act → Prop} {Q' : Exit → Act → World → Prop} (hnd : ∀ (i : Nat) (o : Oper), ops[i]? = some o → ∀ c : Call, o.op ≠ Op.defer c) (hQ : ∀ a w, C w → Q a → Q' .normal a w) : ∀ (fuel : Nat) (listed : Array Bool) (a : Act) (w : World), C w →
    wpAnyQIn F n P md ops C Q fuel listed a → wpAnyIn F n P md ops Q' fuel listed a w
  | 0, _, _, _, hw, h => ⟨h.1, hQ _ _ hw h.2⟩
  | fuel + 1, _, _, _, hw, h => ⟨fun h0 => hQ _ _ hw (h.1 h0), fun i hi => wpOpIn_r hnd hw (fun a' w' hw' => wpAnyIn_r hnd hQ fuel _ a' w' hw') (h.2 i hi)⟩
theorem wpIn_region_quiet_r {id : Nat} {Q : Exit → Act → World → Prop} {a : Act} (hm : P.follows .mixedOrders = true) (hd : (ops.toList.all fun o => !isDefer o.op) = true) (hB : Region.lexB .any ops = true) (hC : C { w with drawn := w.drawn + 1 })
    (h : wpQuietIn F n P ops C (fun a' => ∀ w', C w' → Q .normal a' w') ops.toList a) : (Code.region id ops true).wpIn F n P Q a w := by
  have hnd : ∀ (i : Nat) (o : Oper), ops[i]? = some o → ∀ c : Call, o.op ≠ Op.defer c := fun i o ho => by
    have hm : o ∈ ops.toList := Array.mem_toList_iff.2 (Array.mem_of_getElem? ho)
    have := List.all_eq_true.1 hd o hm
    exact not_defer (by simpa using this)
  simp only [Region.lexB, Bool.and_eq_true] at hB
  refine wpIn_region_any hm (wpAnyIn_r (Q := fun a' => ∀ w', C w' → Q .normal a' w') hnd (fun _ w' hw' h => h w' hw') _ _ _ _ hC ?_)
  have := wpAnyQIn_lex (F := F) (n := n) (C := C) (md := .any) hB.1 ops.toList 0 (Array.replicate ops.size false) a (by simp) (by simpa using hB.2) h
  simpa using this
/-- At the class 'whatever lay, lies as_ it lay; blocks may have been laid'. -/
theorem wpIn_region_below {id : Nat} {Q : Exit → Act → World → Prop} {a : Act} {l : List Oper} (hm : P.follows .mixedOrders = true) (hd : (l.all fun o => !isDefer o.op) = true) (hB : Region.lexB .any l.toArray = true)
    (h : wpQuietIn F n P l.toArray (fun w' => ∃ p : Regrown, w' = grow (redrawn w p.d) p.os) (fun a' => ∀ w', Below w.heap.size w w' → Q .normal a' w') l a) : (Code.region id l.toArray true).wpIn F n P Q a w :=
  wpIn_region_quiet_r (C := fun w' => ∃ p : Regrown, w' = grow (redrawn w p.d) p.os) hm (by simpa using hd) hB ⟨⟨w.drawn + 1, #[]⟩, by rw [grow_empty]; rfl⟩ (by
    have : (fun a' => ∀ w', Below w.heap.size w w' → Q .normal a' w') = (fun a' => ∀ w', (∃ p : Regrown, w' = grow (redrawn w p.d) p.os) → Q .normal a' w') := by
      funext a'
      refine propext ⟨fun h w' hw => ?_, fun h w' hw => h w' (regrown_of_below hw)⟩
      obtain ⟨p, rfl⟩ := hw
      exact h _ (below_regrown w _ _)
    rw [← this]
    simpa using h)
end Go.Proofs.YtffldajbnhbkkaaDoor.RX
