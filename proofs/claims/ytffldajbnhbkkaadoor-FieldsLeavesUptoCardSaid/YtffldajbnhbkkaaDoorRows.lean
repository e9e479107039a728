/-
  NARROWER THAN 'FOR EVERY INPUT', by the rows' own cells (each row's printed sentence says how): FieldsBuilds: laid · FieldsWraps: laid · FieldsCover: laid · FieldsTrue: laid · FieldsLeaves: laid.
  DERIVED. THE GIVEN ROWS OF THIS SEAT. 5 by the template 'for every input the law returns true; each argument reads behind the call as it read before'; 0 by the template 'total and deterministic' (their statements: YtffldajbnhbkkaaDoorTotals.lean).
  GIVEN WITH THE SEED: the statements are not yours to turn. If you find one false, say at which input.
  Laid BY PROGRAM, IN A SANDBOX (cutbox-rows.mjs): the forced cells as the released guide's own fill.sh prints them over the translation 3329fb15cae0ef5c… (all of the seat's roots in one cut). By AI agents, Wed Nov 11 2026. No macro, syntax, notation, axiom, sorry.
-/
import Derived.Test.YtffldajbnhbkkaaDoorChecked
import GoSem.PinnedTables
import GoSem.Claim
import GoSem.ClaimJoined
import GoSem.ClaimMapViews
import Derived.JoinedTies
import Derived.KernelRfl
namespace Go.Proofs.YtffldajbnhbkkaaDoor
/- THE CELL 'sum', in the pinned program and in every row, IS THE sha256 OF THE DUMP (.gsa) THAT YtffldajbnhbkkaaDoorProg.lean LOADS. Nothing in Lean hashes anything: it is a label: what it is worth is what the hold of that sum in a sandbox is worth. -/
noncomputable def Tryd.pinned : Pinned := { name := "ytffldajbnhbkkaadoor", sum := "3329fb15cae0ef5c51180121292ca66231e84ddfe3b23a6f4f47c1fd85353b9f", checked := Tryd.checked }
namespace Rows
def none {H : Type} : Left H := { results := [], args := [] }

/- WHAT THE LISTED PACKAGE-LEVEL VARIABLES READ AS WHEN THE CALL BEGINS. Each datum BY PROGRAM (the guide's laid-datum.mjs) off the statement by which the dump's own 'gosem.cut.vars' lays the variable. In a bare row this is a premise. The card (YtffldajbnhbkkaaDoorCards.lean) ties it to the program's text. -/
def laid_unicode_utf8_acceptRanges {H : Type} : DataW H := .agg [.agg [.lit (.int .u8 128), .lit (.int .u8 191)], .agg [.lit (.int .u8 160), .lit (.int .u8 191)], .agg [.lit (.int .u8 128), .lit (.int .u8 159)], .agg [.lit (.int .u8 144), .lit (.int .u8 191)], .agg [.lit (.int .u8 128), .lit (.int .u8 143)], .agg [.lit (.int .u8 0), .lit (.int .u8 0)], .agg [.lit (.int .u8 0), .lit (.int .u8 0)], .agg [.lit (.int .u8 0), .lit (.int .u8 0)], .agg [.lit (.int .u8 0), .lit (.int .u8 0)], .agg [.lit (.int .u8 0), .lit (.int .u8 0)], .agg [.lit (.int .u8 0), .lit (.int .u8 0)], .agg [.lit (.int .u8 0), .lit (.int .u8 0)], .agg [.lit (.int .u8 0), .lit (.int .u8 0)], .agg [.lit (.int .u8 0), .lit (.int .u8 0)], .agg [.lit (.int .u8 0), .lit (.int .u8 0)], .agg [.lit (.int .u8 0), .lit (.int .u8 0)]]
/-- One of Go's own tables, pinned by name: the form's constant. -/
def laid_unicode_utf8_first : DataW Unit := Go.Pinned.utf8First

/-- 'quipulaw17.FieldsBuilds': WHATEVER THE INPUT: true; the input reads as it did. -/
def fieldsBuildsSpec : ChangeSpec := { name := "fieldsBuilds", fn := fun _ => fun
  | [d] => { results := [.lit (.bool true)], args := [d] }
  | _ => none }
def fieldsBuildsRow : OpenClaim := { program := "ytffldajbnhbkkaadoor", sum := "3329fb15cae0ef5c51180121292ca66231e84ddfe3b23a6f4f47c1fd85353b9f", func := "quipu/quipulaw17.FieldsBuilds", spec := "fieldsBuilds", inPlace := ["slices.overlaps[quipu/api.Span]"], unfollowed := true, recurses := true, named := ["unicode/utf8.first", "unicode/utf8.acceptRanges"], apart := false, laid := [("unicode/utf8.acceptRanges", laid_unicode_utf8_acceptRanges), ("unicode/utf8.first", laid_unicode_utf8_first)] }
def FieldsBuildsSaid : Prop := fieldsBuildsRow.holds Tryd.pinned (OpenSpec.ofChange fieldsBuildsSpec)

/-- ITS FALSE NEIGHBOUR: 'it returns false'. Refute it at one input. -/
def fieldsBuildsWrong : ChangeSpec := { name := "fieldsBuilds", fn := fun _ => fun
  | [d] => { results := [.lit (.bool false)], args := [d] }
  | _ => none }
def FieldsBuildsWrongFalsely : Prop := fieldsBuildsRow.holds Tryd.pinned (OpenSpec.ofChange fieldsBuildsWrong)

/-- 'quipulaw17.FieldsWraps': WHATEVER THE INPUT: true; the input reads as it did. -/
def fieldsWrapsSpec : ChangeSpec := { name := "fieldsWraps", fn := fun _ => fun
  | [d1, d2] => { results := [.lit (.bool true)], args := [d1, d2] }
  | _ => none }
def fieldsWrapsRow : OpenClaim := { program := "ytffldajbnhbkkaadoor", sum := "3329fb15cae0ef5c51180121292ca66231e84ddfe3b23a6f4f47c1fd85353b9f", func := "quipu/quipulaw17.FieldsWraps", spec := "fieldsWraps", inPlace := ["slices.overlaps[quipu/api.Span]"], unfollowed := true, recurses := true, named := ["unicode/utf8.first", "unicode/utf8.acceptRanges"], apart := false, laid := [("unicode/utf8.acceptRanges", laid_unicode_utf8_acceptRanges), ("unicode/utf8.first", laid_unicode_utf8_first)] }
def FieldsWrapsSaid : Prop := fieldsWrapsRow.holds Tryd.pinned (OpenSpec.ofChange fieldsWrapsSpec)

/-- ITS FALSE NEIGHBOUR: 'it returns false'. Refute it at one input. -/
def fieldsWrapsWrong : ChangeSpec := { name := "fieldsWraps", fn := fun _ => fun
  | [d1, d2] => { results := [.lit (.bool false)], args := [d1, d2] }
  | _ => none }
def FieldsWrapsWrongFalsely : Prop := fieldsWrapsRow.holds Tryd.pinned (OpenSpec.ofChange fieldsWrapsWrong)

/-- 'quipulaw17.FieldsCover': WHATEVER THE INPUT: true; the input reads as it did. -/
def fieldsCoverSpec : ChangeSpec := { name := "fieldsCover", fn := fun _ => fun
  | [d1, d2] => { results := [.lit (.bool true)], args := [d1, d2] }
  | _ => none }
def fieldsCoverRow : OpenClaim := { program := "ytffldajbnhbkkaadoor", sum := "3329fb15cae0ef5c51180121292ca66231e84ddfe3b23a6f4f47c1fd85353b9f", func := "quipu/quipulaw17.FieldsCover", spec := "fieldsCover", inPlace := ["slices.overlaps[quipu/api.Span]"], unfollowed := true, recurses := true, named := ["unicode/utf8.first", "unicode/utf8.acceptRanges"], apart := false, laid := [("unicode/utf8.acceptRanges", laid_unicode_utf8_acceptRanges), ("unicode/utf8.first", laid_unicode_utf8_first)] }
def FieldsCoverSaid : Prop := fieldsCoverRow.holds Tryd.pinned (OpenSpec.ofChange fieldsCoverSpec)

/-- ITS FALSE NEIGHBOUR: 'it returns false'. Refute it at one input. -/
def fieldsCoverWrong : ChangeSpec := { name := "fieldsCover", fn := fun _ => fun
  | [d1, d2] => { results := [.lit (.bool false)], args := [d1, d2] }
  | _ => none }
def FieldsCoverWrongFalsely : Prop := fieldsCoverRow.holds Tryd.pinned (OpenSpec.ofChange fieldsCoverWrong)

/-- 'quipulaw17.FieldsTrue': WHATEVER THE INPUT: true; the input reads as it did. -/
def fieldsTrueSpec : ChangeSpec := { name := "fieldsTrue", fn := fun _ => fun
  | [d] => { results := [.lit (.bool true)], args := [d] }
  | _ => none }
def fieldsTrueRow : OpenClaim := { program := "ytffldajbnhbkkaadoor", sum := "3329fb15cae0ef5c51180121292ca66231e84ddfe3b23a6f4f47c1fd85353b9f", func := "quipu/quipulaw17.FieldsTrue", spec := "fieldsTrue", inPlace := ["slices.overlaps[quipu/api.Span]"], unfollowed := true, recurses := true, named := ["unicode/utf8.first", "unicode/utf8.acceptRanges"], apart := false, laid := [("unicode/utf8.acceptRanges", laid_unicode_utf8_acceptRanges), ("unicode/utf8.first", laid_unicode_utf8_first)] }
def FieldsTrueSaid : Prop := fieldsTrueRow.holds Tryd.pinned (OpenSpec.ofChange fieldsTrueSpec)

/-- ITS FALSE NEIGHBOUR: 'it returns false'. Refute it at one input. -/
def fieldsTrueWrong : ChangeSpec := { name := "fieldsTrue", fn := fun _ => fun
  | [d] => { results := [.lit (.bool false)], args := [d] }
  | _ => none }
def FieldsTrueWrongFalsely : Prop := fieldsTrueRow.holds Tryd.pinned (OpenSpec.ofChange fieldsTrueWrong)

/-- 'quipulaw17.FieldsLeaves': WHATEVER THE INPUT: true; the input reads as it did. -/
def fieldsLeavesSpec : ChangeSpec := { name := "fieldsLeaves", fn := fun _ => fun
  | [d1, d2] => { results := [.lit (.bool true)], args := [d1, d2] }
  | _ => none }
def fieldsLeavesRow : OpenClaim := { program := "ytffldajbnhbkkaadoor", sum := "3329fb15cae0ef5c51180121292ca66231e84ddfe3b23a6f4f47c1fd85353b9f", func := "quipu/quipulaw17.FieldsLeaves", spec := "fieldsLeaves", inPlace := ["slices.overlaps[quipu/api.Span]"], unfollowed := true, recurses := true, named := ["unicode/utf8.first", "unicode/utf8.acceptRanges"], apart := false, laid := [("unicode/utf8.acceptRanges", laid_unicode_utf8_acceptRanges), ("unicode/utf8.first", laid_unicode_utf8_first)] }
def FieldsLeavesSaid : Prop := fieldsLeavesRow.holds Tryd.pinned (OpenSpec.ofChange fieldsLeavesSpec)

/-- ITS FALSE NEIGHBOUR: 'it returns false'. Refute it at one input. -/
def fieldsLeavesWrong : ChangeSpec := { name := "fieldsLeaves", fn := fun _ => fun
  | [d1, d2] => { results := [.lit (.bool false)], args := [d1, d2] }
  | _ => none }
def FieldsLeavesWrongFalsely : Prop := fieldsLeavesRow.holds Tryd.pinned (OpenSpec.ofChange fieldsLeavesWrong)

/- THE SECOND FORM. 'bulk': how many values and letters a reading holds, each counted each time it is reached (what is shared counts as often as it is met; a slice's spare places count too). A statement '..UptoSaid' is the law's where the arguments, and the package variables that the reading takes, are together of bulk at most 1048576: NARROWER than '..Said'. Prove '..Said' where nothing that the law and all that it calls make is longer than what came in: it says more and counts as full. Else prove '..UptoSaid'. A law counts once. -/
mutual
def uptoBulk {H : Type} : DataW H → Nat
  | .lit (.string bytes) => bytes.length + 1
  | .lit _ => 1
  | .nil => 1
  | .ptr d => uptoBulk d + 1
  | .slice elems spare => uptoBulkAll elems + uptoBulkAll spare + 1
  | .agg parts => uptoBulkAll parts + 1
  | .iface _ d => uptoBulk d + 1
  | .map entries => uptoBulkEntries entries + 1
  | .held _ => 1
def uptoBulkAll {H : Type} : List (DataW H) → Nat
  | [] => 0
  | d :: r => uptoBulk d + uptoBulkAll r
def uptoBulkEntries {H : Type} : List (Lit × DataW H) → Nat
  | [] => 0
  | x :: r => uptoBulkEntry x + uptoBulkEntries r
def uptoBulkEntry {H : Type} : Lit × DataW H → Nat
  | (.string bytes, d) => bytes.length + uptoBulk d + 1
  | (_, d) => uptoBulk d + 1
 end
def uptoSmall : (H : Type) → List (DataW H) → Bool := fun _ ds => decide (uptoBulkAll ds ≤ 1048576)
def OpenSpec.upto (s : _root_.Go.ChangeSpec) : _root_.Go.OpenSpec := { _root_.Go.OpenSpec.ofChange s with cond := some uptoSmall }

/-- 'quipulaw17.FieldsBuilds', WHERE WHAT IT READS IS OF BULK AT MOST 1048576: true; the input reads as it did. -/
def fieldsBuildsUptoRow : OpenClaim := { program := "ytffldajbnhbkkaadoor", sum := "3329fb15cae0ef5c51180121292ca66231e84ddfe3b23a6f4f47c1fd85353b9f", func := "quipu/quipulaw17.FieldsBuilds", spec := "fieldsBuilds", inPlace := ["slices.overlaps[quipu/api.Span]"], unfollowed := true, recurses := true, named := ["unicode/utf8.first", "unicode/utf8.acceptRanges"], apart := false, laid := [("unicode/utf8.acceptRanges", laid_unicode_utf8_acceptRanges), ("unicode/utf8.first", laid_unicode_utf8_first)], narrowed := true }
def FieldsBuildsUptoSaid : Prop := fieldsBuildsUptoRow.holds Tryd.pinned (OpenSpec.upto fieldsBuildsSpec)

/-- 'quipulaw17.FieldsWraps', WHERE WHAT IT READS IS OF BULK AT MOST 1048576: true; the input reads as it did. -/
def fieldsWrapsUptoRow : OpenClaim := { program := "ytffldajbnhbkkaadoor", sum := "3329fb15cae0ef5c51180121292ca66231e84ddfe3b23a6f4f47c1fd85353b9f", func := "quipu/quipulaw17.FieldsWraps", spec := "fieldsWraps", inPlace := ["slices.overlaps[quipu/api.Span]"], unfollowed := true, recurses := true, named := ["unicode/utf8.first", "unicode/utf8.acceptRanges"], apart := false, laid := [("unicode/utf8.acceptRanges", laid_unicode_utf8_acceptRanges), ("unicode/utf8.first", laid_unicode_utf8_first)], narrowed := true }
def FieldsWrapsUptoSaid : Prop := fieldsWrapsUptoRow.holds Tryd.pinned (OpenSpec.upto fieldsWrapsSpec)

/-- 'quipulaw17.FieldsCover', WHERE WHAT IT READS IS OF BULK AT MOST 1048576: true; the input reads as it did. -/
def fieldsCoverUptoRow : OpenClaim := { program := "ytffldajbnhbkkaadoor", sum := "3329fb15cae0ef5c51180121292ca66231e84ddfe3b23a6f4f47c1fd85353b9f", func := "quipu/quipulaw17.FieldsCover", spec := "fieldsCover", inPlace := ["slices.overlaps[quipu/api.Span]"], unfollowed := true, recurses := true, named := ["unicode/utf8.first", "unicode/utf8.acceptRanges"], apart := false, laid := [("unicode/utf8.acceptRanges", laid_unicode_utf8_acceptRanges), ("unicode/utf8.first", laid_unicode_utf8_first)], narrowed := true }
def FieldsCoverUptoSaid : Prop := fieldsCoverUptoRow.holds Tryd.pinned (OpenSpec.upto fieldsCoverSpec)

/-- 'quipulaw17.FieldsTrue', WHERE WHAT IT READS IS OF BULK AT MOST 1048576: true; the input reads as it did. -/
def fieldsTrueUptoRow : OpenClaim := { program := "ytffldajbnhbkkaadoor", sum := "3329fb15cae0ef5c51180121292ca66231e84ddfe3b23a6f4f47c1fd85353b9f", func := "quipu/quipulaw17.FieldsTrue", spec := "fieldsTrue", inPlace := ["slices.overlaps[quipu/api.Span]"], unfollowed := true, recurses := true, named := ["unicode/utf8.first", "unicode/utf8.acceptRanges"], apart := false, laid := [("unicode/utf8.acceptRanges", laid_unicode_utf8_acceptRanges), ("unicode/utf8.first", laid_unicode_utf8_first)], narrowed := true }
def FieldsTrueUptoSaid : Prop := fieldsTrueUptoRow.holds Tryd.pinned (OpenSpec.upto fieldsTrueSpec)

/-- 'quipulaw17.FieldsLeaves', WHERE WHAT IT READS IS OF BULK AT MOST 1048576: true; the input reads as it did. -/
def fieldsLeavesUptoRow : OpenClaim := { program := "ytffldajbnhbkkaadoor", sum := "3329fb15cae0ef5c51180121292ca66231e84ddfe3b23a6f4f47c1fd85353b9f", func := "quipu/quipulaw17.FieldsLeaves", spec := "fieldsLeaves", inPlace := ["slices.overlaps[quipu/api.Span]"], unfollowed := true, recurses := true, named := ["unicode/utf8.first", "unicode/utf8.acceptRanges"], apart := false, laid := [("unicode/utf8.acceptRanges", laid_unicode_utf8_acceptRanges), ("unicode/utf8.first", laid_unicode_utf8_first)], narrowed := true }
def FieldsLeavesUptoSaid : Prop := fieldsLeavesUptoRow.holds Tryd.pinned (OpenSpec.upto fieldsLeavesSpec)

end Rows
end Go.Proofs.YtffldajbnhbkkaaDoor
