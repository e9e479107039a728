/-
  No cell of these rows narrows 'for every input' (looked for: loops, veiled, ifaces, maps, wideKeys, modest, calm, conditions, laid).
  DERIVED. THE GIVEN ROWS OF THIS SEAT. 6 by the template 'for every input the law returns true; each argument reads behind the call as it read before'; 0 by the template 'total and deterministic' (their statements: YtalbhllgdjgbjaaTotals.lean).
  GIVEN WITH THE SEED: the statements are not yours to turn. If you find one false, say at which input.
  Laid BY PROGRAM, IN A SANDBOX (cutbox-rows.mjs): the forced cells as the released guide's own fill.sh prints them over the translation 268c82e7b7838984… (all of the seat's roots in one cut). By AI agents, Wed Nov 11 2026. No macro, syntax, notation, axiom, sorry.
-/
import Derived.Test.YtalbhllgdjgbjaaChecked
import GoSem.Claim
import GoSem.ClaimJoined
import GoSem.ClaimMapViews
import Derived.JoinedTies
import Derived.KernelRfl
namespace Go.Proofs.Ytalbhllgdjgbjaa
/- THE CELL 'sum', in the pinned program and in every row, IS THE sha256 OF THE DUMP (.gsa) THAT YtalbhllgdjgbjaaProg.lean LOADS. Nothing in Lean hashes anything: it is a label: what it is worth is what the hold of that sum in a sandbox is worth. -/
noncomputable def Try.pinned : Pinned := { name := "ytalbhllgdjgbjaa", sum := "268c82e7b7838984b4bb2ffdfbcebaa734cb6067beb92c4e17906286ad25eb5b", checked := Try.checked }
namespace Rows
def none {H : Type} : Left H := { results := [], args := [] }

/-- 'quipulaw10.BlockSums': WHATEVER THE INPUT: true; the input reads as it did. -/
def blockSumsSpec : ChangeSpec := { name := "blockSums", fn := fun _ => fun
  | [d] => { results := [.lit (.bool true)], args := [d] }
  | _ => none }
def blockSumsRow : OpenClaim := { program := "ytalbhllgdjgbjaa", sum := "268c82e7b7838984b4bb2ffdfbcebaa734cb6067beb92c4e17906286ad25eb5b", func := "quipu/quipulaw10.BlockSums", spec := "blockSums", unfollowed := true, recurses := true, apart := false }
def BlockSumsSaid : Prop := blockSumsRow.holds Try.pinned (OpenSpec.ofChange blockSumsSpec)

/-- ITS FALSE NEIGHBOUR: 'it returns false'. Refute it at one input. -/
def blockSumsWrong : ChangeSpec := { name := "blockSums", fn := fun _ => fun
  | [d] => { results := [.lit (.bool false)], args := [d] }
  | _ => none }
def BlockSumsWrongFalsely : Prop := blockSumsRow.holds Try.pinned (OpenSpec.ofChange blockSumsWrong)

/-- 'quipulaw10.BlockReads': WHATEVER THE INPUT: true; the input reads as it did. -/
def blockReadsSpec : ChangeSpec := { name := "blockReads", fn := fun _ => fun
  | [d1, d2, d3] => { results := [.lit (.bool true)], args := [d1, d2, d3] }
  | _ => none }
def blockReadsRow : OpenClaim := { program := "ytalbhllgdjgbjaa", sum := "268c82e7b7838984b4bb2ffdfbcebaa734cb6067beb92c4e17906286ad25eb5b", func := "quipu/quipulaw10.BlockReads", spec := "blockReads", unfollowed := true, recurses := true, apart := false }
def BlockReadsSaid : Prop := blockReadsRow.holds Try.pinned (OpenSpec.ofChange blockReadsSpec)

/-- ITS FALSE NEIGHBOUR: 'it returns false'. Refute it at one input. -/
def blockReadsWrong : ChangeSpec := { name := "blockReads", fn := fun _ => fun
  | [d1, d2, d3] => { results := [.lit (.bool false)], args := [d1, d2, d3] }
  | _ => none }
def BlockReadsWrongFalsely : Prop := blockReadsRow.holds Try.pinned (OpenSpec.ofChange blockReadsWrong)

/-- 'quipulaw10.BlockLoads': WHATEVER THE INPUT: true; the input reads as it did. -/
def blockLoadsSpec : ChangeSpec := { name := "blockLoads", fn := fun _ => fun
  | [d1, d2, d3] => { results := [.lit (.bool true)], args := [d1, d2, d3] }
  | _ => none }
def blockLoadsRow : OpenClaim := { program := "ytalbhllgdjgbjaa", sum := "268c82e7b7838984b4bb2ffdfbcebaa734cb6067beb92c4e17906286ad25eb5b", func := "quipu/quipulaw10.BlockLoads", spec := "blockLoads", unfollowed := true, recurses := true, apart := false }
def BlockLoadsSaid : Prop := blockLoadsRow.holds Try.pinned (OpenSpec.ofChange blockLoadsSpec)

/-- ITS FALSE NEIGHBOUR: 'it returns false'. Refute it at one input. -/
def blockLoadsWrong : ChangeSpec := { name := "blockLoads", fn := fun _ => fun
  | [d1, d2, d3] => { results := [.lit (.bool false)], args := [d1, d2, d3] }
  | _ => none }
def BlockLoadsWrongFalsely : Prop := blockLoadsRow.holds Try.pinned (OpenSpec.ofChange blockLoadsWrong)

/-- 'quipulaw10.BlockBack': WHATEVER THE INPUT: true; the input reads as it did. -/
def blockBackSpec : ChangeSpec := { name := "blockBack", fn := fun _ => fun
  | [d1, d2] => { results := [.lit (.bool true)], args := [d1, d2] }
  | _ => none }
def blockBackRow : OpenClaim := { program := "ytalbhllgdjgbjaa", sum := "268c82e7b7838984b4bb2ffdfbcebaa734cb6067beb92c4e17906286ad25eb5b", func := "quipu/quipulaw10.BlockBack", spec := "blockBack", unfollowed := true, recurses := true, apart := false }
def BlockBackSaid : Prop := blockBackRow.holds Try.pinned (OpenSpec.ofChange blockBackSpec)

/-- ITS FALSE NEIGHBOUR: 'it returns false'. Refute it at one input. -/
def blockBackWrong : ChangeSpec := { name := "blockBack", fn := fun _ => fun
  | [d1, d2] => { results := [.lit (.bool false)], args := [d1, d2] }
  | _ => none }
def BlockBackWrongFalsely : Prop := blockBackRow.holds Try.pinned (OpenSpec.ofChange blockBackWrong)

/-- 'quipulaw10.BlockTurned': WHATEVER THE INPUT: true; the input reads as it did. -/
def blockTurnedSpec : ChangeSpec := { name := "blockTurned", fn := fun _ => fun
  | [d1, d2, d3] => { results := [.lit (.bool true)], args := [d1, d2, d3] }
  | _ => none }
def blockTurnedRow : OpenClaim := { program := "ytalbhllgdjgbjaa", sum := "268c82e7b7838984b4bb2ffdfbcebaa734cb6067beb92c4e17906286ad25eb5b", func := "quipu/quipulaw10.BlockTurned", spec := "blockTurned", unfollowed := true, recurses := true, apart := false }
def BlockTurnedSaid : Prop := blockTurnedRow.holds Try.pinned (OpenSpec.ofChange blockTurnedSpec)

/-- ITS FALSE NEIGHBOUR: 'it returns false'. Refute it at one input. -/
def blockTurnedWrong : ChangeSpec := { name := "blockTurned", fn := fun _ => fun
  | [d1, d2, d3] => { results := [.lit (.bool false)], args := [d1, d2, d3] }
  | _ => none }
def BlockTurnedWrongFalsely : Prop := blockTurnedRow.holds Try.pinned (OpenSpec.ofChange blockTurnedWrong)

/-- 'quipulaw10.BlockFails': WHATEVER THE INPUT: true; the input reads as it did. -/
def blockFailsSpec : ChangeSpec := { name := "blockFails", fn := fun _ => fun
  | [d1, d2] => { results := [.lit (.bool true)], args := [d1, d2] }
  | _ => none }
def blockFailsRow : OpenClaim := { program := "ytalbhllgdjgbjaa", sum := "268c82e7b7838984b4bb2ffdfbcebaa734cb6067beb92c4e17906286ad25eb5b", func := "quipu/quipulaw10.BlockFails", spec := "blockFails", unfollowed := true, recurses := true, apart := false }
def BlockFailsSaid : Prop := blockFailsRow.holds Try.pinned (OpenSpec.ofChange blockFailsSpec)

/-- ITS FALSE NEIGHBOUR: 'it returns false'. Refute it at one input. -/
def blockFailsWrong : ChangeSpec := { name := "blockFails", fn := fun _ => fun
  | [d1, d2] => { results := [.lit (.bool false)], args := [d1, d2] }
  | _ => none }
def BlockFailsWrongFalsely : Prop := blockFailsRow.holds Try.pinned (OpenSpec.ofChange blockFailsWrong)

/- THE SECOND FORM. 'bulk': how many values and letters a reading holds, each counted each time it is reached (what is shared counts as often as it is met; a slice's spare places count too). A statement '..UptoSaid' is the law's where the arguments, and the package variables that the reading takes, are together of bulk at most 1048576: NARROWER than '..Said'. Prove '..Said' where nothing that the law and all that it calls make is longer than what came in: it says more and counts as full. Else prove '..UptoSaid'. A law counts once. -/
mutual
def uptoBulk {H : Type} : DataW H → Nat
  | .lit (.string bytes) => bytes.length + 1
  | .lit _ => 1
  | .nil => 1
  | .ptr d => uptoBulk d + 1
  | .slice elems spare => uptoBulkAll elems + uptoBulkAll spare + 1
  | .agg parts => uptoBulkAll parts + 1
  | .iface _ d => uptoBulk d + 1
  | .map entries => uptoBulkEntries entries + 1
  | .held _ => 1
def uptoBulkAll {H : Type} : List (DataW H) → Nat
  | [] => 0
  | d :: r => uptoBulk d + uptoBulkAll r
def uptoBulkEntries {H : Type} : List (Lit × DataW H) → Nat
  | [] => 0
  | x :: r => uptoBulkEntry x + uptoBulkEntries r
def uptoBulkEntry {H : Type} : Lit × DataW H → Nat
  | (.string bytes, d) => bytes.length + uptoBulk d + 1
  | (_, d) => uptoBulk d + 1
 end
def uptoSmall : (H : Type) → List (DataW H) → Bool := fun _ ds => decide (uptoBulkAll ds ≤ 1048576)
def OpenSpec.upto (s : _root_.Go.ChangeSpec) : _root_.Go.OpenSpec := { _root_.Go.OpenSpec.ofChange s with cond := some uptoSmall }

/-- 'quipulaw10.BlockSums', WHERE WHAT IT READS IS OF BULK AT MOST 1048576: true; the input reads as it did. -/
def blockSumsUptoRow : OpenClaim := { program := "ytalbhllgdjgbjaa", sum := "268c82e7b7838984b4bb2ffdfbcebaa734cb6067beb92c4e17906286ad25eb5b", func := "quipu/quipulaw10.BlockSums", spec := "blockSums", unfollowed := true, recurses := true, apart := false, narrowed := true }
def BlockSumsUptoSaid : Prop := blockSumsUptoRow.holds Try.pinned (OpenSpec.upto blockSumsSpec)

/-- 'quipulaw10.BlockReads', WHERE WHAT IT READS IS OF BULK AT MOST 1048576: true; the input reads as it did. -/
def blockReadsUptoRow : OpenClaim := { program := "ytalbhllgdjgbjaa", sum := "268c82e7b7838984b4bb2ffdfbcebaa734cb6067beb92c4e17906286ad25eb5b", func := "quipu/quipulaw10.BlockReads", spec := "blockReads", unfollowed := true, recurses := true, apart := false, narrowed := true }
def BlockReadsUptoSaid : Prop := blockReadsUptoRow.holds Try.pinned (OpenSpec.upto blockReadsSpec)

/-- 'quipulaw10.BlockLoads', WHERE WHAT IT READS IS OF BULK AT MOST 1048576: true; the input reads as it did. -/
def blockLoadsUptoRow : OpenClaim := { program := "ytalbhllgdjgbjaa", sum := "268c82e7b7838984b4bb2ffdfbcebaa734cb6067beb92c4e17906286ad25eb5b", func := "quipu/quipulaw10.BlockLoads", spec := "blockLoads", unfollowed := true, recurses := true, apart := false, narrowed := true }
def BlockLoadsUptoSaid : Prop := blockLoadsUptoRow.holds Try.pinned (OpenSpec.upto blockLoadsSpec)

/-- 'quipulaw10.BlockBack', WHERE WHAT IT READS IS OF BULK AT MOST 1048576: true; the input reads as it did. -/
def blockBackUptoRow : OpenClaim := { program := "ytalbhllgdjgbjaa", sum := "268c82e7b7838984b4bb2ffdfbcebaa734cb6067beb92c4e17906286ad25eb5b", func := "quipu/quipulaw10.BlockBack", spec := "blockBack", unfollowed := true, recurses := true, apart := false, narrowed := true }
def BlockBackUptoSaid : Prop := blockBackUptoRow.holds Try.pinned (OpenSpec.upto blockBackSpec)

/-- 'quipulaw10.BlockTurned', WHERE WHAT IT READS IS OF BULK AT MOST 1048576: true; the input reads as it did. -/
def blockTurnedUptoRow : OpenClaim := { program := "ytalbhllgdjgbjaa", sum := "268c82e7b7838984b4bb2ffdfbcebaa734cb6067beb92c4e17906286ad25eb5b", func := "quipu/quipulaw10.BlockTurned", spec := "blockTurned", unfollowed := true, recurses := true, apart := false, narrowed := true }
def BlockTurnedUptoSaid : Prop := blockTurnedUptoRow.holds Try.pinned (OpenSpec.upto blockTurnedSpec)

/-- 'quipulaw10.BlockFails', WHERE WHAT IT READS IS OF BULK AT MOST 1048576: true; the input reads as it did. -/
def blockFailsUptoRow : OpenClaim := { program := "ytalbhllgdjgbjaa", sum := "268c82e7b7838984b4bb2ffdfbcebaa734cb6067beb92c4e17906286ad25eb5b", func := "quipu/quipulaw10.BlockFails", spec := "blockFails", unfollowed := true, recurses := true, apart := false, narrowed := true }
def BlockFailsUptoSaid : Prop := blockFailsUptoRow.holds Try.pinned (OpenSpec.upto blockFailsSpec)

end Rows
end Go.Proofs.Ytalbhllgdjgbjaa
