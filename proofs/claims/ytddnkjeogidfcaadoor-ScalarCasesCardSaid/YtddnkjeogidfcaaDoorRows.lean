/-
  NARROWER THAN 'FOR EVERY INPUT', by the rows' own cells (each row's printed sentence says how): ScalarReckons: laid · ScalarTurns: laid · ScalarParts: laid · ScalarNulls: laid · ScalarCases: laid.
  DERIVED. THE GIVEN ROWS OF THIS SEAT. 5 by the template 'for every input the law returns true; each argument reads behind the call as it read before'; 0 by the template 'total and deterministic' (their statements: YtddnkjeogidfcaaDoorTotals.lean).
  GIVEN WITH THE SEED: the statements are not yours to turn. If you find one false, say at which input.
  Laid BY PROGRAM, IN A SANDBOX (cutbox-rows.mjs): the forced cells as the released guide's own fill.sh prints them over the translation 6a0efaa6a0f06af0… (all of the seat's roots in one cut). By AI agents, Wed Nov 11 2026. No macro, syntax, notation, axiom, sorry.
-/
import Derived.Test.YtddnkjeogidfcaaDoorChecked
import GoSem.PinnedTables
import GoSem.Claim
import GoSem.ClaimJoined
import GoSem.ClaimMapViews
import Derived.JoinedTies
import Derived.KernelRfl
namespace Go.Proofs.YtddnkjeogidfcaaDoor
/- THE CELL 'sum', in the pinned program and in every row, IS THE sha256 OF THE DUMP (.gsa) THAT YtddnkjeogidfcaaDoorProg.lean LOADS. Nothing in Lean hashes anything: it is a label: what it is worth is what the hold of that sum in a sandbox is worth. -/
noncomputable def Tryd.pinned : Pinned := { name := "ytddnkjeogidfcaadoor", sum := "6a0efaa6a0f06af0c587c7fe596f57fe2045c20f957122049b11d5c9569ad467", checked := Tryd.checked }
namespace Rows
def none {H : Type} : Left H := { results := [], args := [] }

/- WHAT THE LISTED PACKAGE-LEVEL VARIABLES READ AS WHEN THE CALL BEGINS. Each datum BY PROGRAM (the guide's laid-datum.mjs) off the statement by which the dump's own 'gosem.cut.vars' lays the variable. In a bare row this is a premise. The card (YtddnkjeogidfcaaDoorCards.lean) ties it to the program's text. -/
def laid_unicode_utf8_acceptRanges {H : Type} : DataW H := .agg [.agg [.lit (.int .u8 128), .lit (.int .u8 191)], .agg [.lit (.int .u8 160), .lit (.int .u8 191)], .agg [.lit (.int .u8 128), .lit (.int .u8 159)], .agg [.lit (.int .u8 144), .lit (.int .u8 191)], .agg [.lit (.int .u8 128), .lit (.int .u8 143)], .agg [.lit (.int .u8 0), .lit (.int .u8 0)], .agg [.lit (.int .u8 0), .lit (.int .u8 0)], .agg [.lit (.int .u8 0), .lit (.int .u8 0)], .agg [.lit (.int .u8 0), .lit (.int .u8 0)], .agg [.lit (.int .u8 0), .lit (.int .u8 0)], .agg [.lit (.int .u8 0), .lit (.int .u8 0)], .agg [.lit (.int .u8 0), .lit (.int .u8 0)], .agg [.lit (.int .u8 0), .lit (.int .u8 0)], .agg [.lit (.int .u8 0), .lit (.int .u8 0)], .agg [.lit (.int .u8 0), .lit (.int .u8 0)], .agg [.lit (.int .u8 0), .lit (.int .u8 0)]]
/-- One of Go's own tables, pinned by name: the form's constant. -/
def laid_unicode_utf8_first : DataW Unit := Go.Pinned.utf8First

/-- 'boscagelaw03.ScalarReckons': WHATEVER THE INPUT: true; the input reads as it did. -/
def scalarReckonsSpec : ChangeSpec := { name := "scalarReckons", fn := fun _ => fun
  | [d1, d2, d3] => { results := [.lit (.bool true)], args := [d1, d2, d3] }
  | _ => none }
def scalarReckonsRow : OpenClaim := { program := "ytddnkjeogidfcaadoor", sum := "6a0efaa6a0f06af0c587c7fe596f57fe2045c20f957122049b11d5c9569ad467", func := "boscage/boscagelaw03.ScalarReckons", spec := "scalarReckons", inPlace := ["internal/bytealg.IndexByteString", "internal/bytealg.IndexString", "internal/bytealg.CountString", "internal/abi.NoEscape", "internal/bytealg.MakeNoZero"], unfollowed := true, recurses := true, named := ["internal/bytealg.MaxLen", "unicode/utf8.first", "unicode/utf8.acceptRanges"], apart := false, laid := [("unicode/utf8.acceptRanges", laid_unicode_utf8_acceptRanges), ("unicode/utf8.first", laid_unicode_utf8_first)] }
def ScalarReckonsSaid : Prop := scalarReckonsRow.holds Tryd.pinned (OpenSpec.ofChange scalarReckonsSpec)

/-- ITS FALSE NEIGHBOUR: 'it returns false'. Refute it at one input. -/
def scalarReckonsWrong : ChangeSpec := { name := "scalarReckons", fn := fun _ => fun
  | [d1, d2, d3] => { results := [.lit (.bool false)], args := [d1, d2, d3] }
  | _ => none }
def ScalarReckonsWrongFalsely : Prop := scalarReckonsRow.holds Tryd.pinned (OpenSpec.ofChange scalarReckonsWrong)

/-- 'boscagelaw03.ScalarTurns': WHATEVER THE INPUT: true; the input reads as it did. -/
def scalarTurnsSpec : ChangeSpec := { name := "scalarTurns", fn := fun _ => fun
  | [d1, d2] => { results := [.lit (.bool true)], args := [d1, d2] }
  | _ => none }
def scalarTurnsRow : OpenClaim := { program := "ytddnkjeogidfcaadoor", sum := "6a0efaa6a0f06af0c587c7fe596f57fe2045c20f957122049b11d5c9569ad467", func := "boscage/boscagelaw03.ScalarTurns", spec := "scalarTurns", inPlace := ["internal/bytealg.IndexByteString", "internal/bytealg.IndexString", "internal/bytealg.CountString", "internal/abi.NoEscape", "internal/bytealg.MakeNoZero"], unfollowed := true, recurses := true, named := ["internal/bytealg.MaxLen", "unicode/utf8.first", "unicode/utf8.acceptRanges"], apart := false, laid := [("unicode/utf8.acceptRanges", laid_unicode_utf8_acceptRanges), ("unicode/utf8.first", laid_unicode_utf8_first)] }
def ScalarTurnsSaid : Prop := scalarTurnsRow.holds Tryd.pinned (OpenSpec.ofChange scalarTurnsSpec)

/-- ITS FALSE NEIGHBOUR: 'it returns false'. Refute it at one input. -/
def scalarTurnsWrong : ChangeSpec := { name := "scalarTurns", fn := fun _ => fun
  | [d1, d2] => { results := [.lit (.bool false)], args := [d1, d2] }
  | _ => none }
def ScalarTurnsWrongFalsely : Prop := scalarTurnsRow.holds Tryd.pinned (OpenSpec.ofChange scalarTurnsWrong)

/-- 'boscagelaw03.ScalarParts': WHATEVER THE INPUT: true; the input reads as it did. -/
def scalarPartsSpec : ChangeSpec := { name := "scalarParts", fn := fun _ => fun
  | [d1, d2] => { results := [.lit (.bool true)], args := [d1, d2] }
  | _ => none }
def scalarPartsRow : OpenClaim := { program := "ytddnkjeogidfcaadoor", sum := "6a0efaa6a0f06af0c587c7fe596f57fe2045c20f957122049b11d5c9569ad467", func := "boscage/boscagelaw03.ScalarParts", spec := "scalarParts", inPlace := ["internal/bytealg.IndexByteString", "internal/bytealg.IndexString", "internal/bytealg.CountString", "internal/abi.NoEscape", "internal/bytealg.MakeNoZero"], unfollowed := true, recurses := true, named := ["internal/bytealg.MaxLen", "unicode/utf8.first", "unicode/utf8.acceptRanges"], apart := false, laid := [("unicode/utf8.acceptRanges", laid_unicode_utf8_acceptRanges), ("unicode/utf8.first", laid_unicode_utf8_first)] }
def ScalarPartsSaid : Prop := scalarPartsRow.holds Tryd.pinned (OpenSpec.ofChange scalarPartsSpec)

/-- ITS FALSE NEIGHBOUR: 'it returns false'. Refute it at one input. -/
def scalarPartsWrong : ChangeSpec := { name := "scalarParts", fn := fun _ => fun
  | [d1, d2] => { results := [.lit (.bool false)], args := [d1, d2] }
  | _ => none }
def ScalarPartsWrongFalsely : Prop := scalarPartsRow.holds Tryd.pinned (OpenSpec.ofChange scalarPartsWrong)

/-- 'boscagelaw03.ScalarNulls': WHATEVER THE INPUT: true; the input reads as it did. -/
def scalarNullsSpec : ChangeSpec := { name := "scalarNulls", fn := fun _ => fun
  | [d1, d2] => { results := [.lit (.bool true)], args := [d1, d2] }
  | _ => none }
def scalarNullsRow : OpenClaim := { program := "ytddnkjeogidfcaadoor", sum := "6a0efaa6a0f06af0c587c7fe596f57fe2045c20f957122049b11d5c9569ad467", func := "boscage/boscagelaw03.ScalarNulls", spec := "scalarNulls", inPlace := ["internal/bytealg.IndexByteString", "internal/bytealg.IndexString", "internal/bytealg.CountString", "internal/abi.NoEscape", "internal/bytealg.MakeNoZero"], unfollowed := true, recurses := true, named := ["internal/bytealg.MaxLen", "unicode/utf8.first", "unicode/utf8.acceptRanges"], apart := false, laid := [("unicode/utf8.acceptRanges", laid_unicode_utf8_acceptRanges), ("unicode/utf8.first", laid_unicode_utf8_first)] }
def ScalarNullsSaid : Prop := scalarNullsRow.holds Tryd.pinned (OpenSpec.ofChange scalarNullsSpec)

/-- ITS FALSE NEIGHBOUR: 'it returns false'. Refute it at one input. -/
def scalarNullsWrong : ChangeSpec := { name := "scalarNulls", fn := fun _ => fun
  | [d1, d2] => { results := [.lit (.bool false)], args := [d1, d2] }
  | _ => none }
def ScalarNullsWrongFalsely : Prop := scalarNullsRow.holds Tryd.pinned (OpenSpec.ofChange scalarNullsWrong)

/-- 'boscagelaw03.ScalarCases': WHATEVER THE INPUT: true; the input reads as it did. -/
def scalarCasesSpec : ChangeSpec := { name := "scalarCases", fn := fun _ => fun
  | [d1, d2] => { results := [.lit (.bool true)], args := [d1, d2] }
  | _ => none }
def scalarCasesRow : OpenClaim := { program := "ytddnkjeogidfcaadoor", sum := "6a0efaa6a0f06af0c587c7fe596f57fe2045c20f957122049b11d5c9569ad467", func := "boscage/boscagelaw03.ScalarCases", spec := "scalarCases", inPlace := ["internal/bytealg.IndexByteString", "internal/bytealg.IndexString", "internal/bytealg.CountString", "internal/abi.NoEscape", "internal/bytealg.MakeNoZero"], unfollowed := true, recurses := true, named := ["internal/bytealg.MaxLen", "unicode/utf8.first", "unicode/utf8.acceptRanges"], apart := false, laid := [("unicode/utf8.acceptRanges", laid_unicode_utf8_acceptRanges), ("unicode/utf8.first", laid_unicode_utf8_first)] }
def ScalarCasesSaid : Prop := scalarCasesRow.holds Tryd.pinned (OpenSpec.ofChange scalarCasesSpec)

/-- ITS FALSE NEIGHBOUR: 'it returns false'. Refute it at one input. -/
def scalarCasesWrong : ChangeSpec := { name := "scalarCases", fn := fun _ => fun
  | [d1, d2] => { results := [.lit (.bool false)], args := [d1, d2] }
  | _ => none }
def ScalarCasesWrongFalsely : Prop := scalarCasesRow.holds Tryd.pinned (OpenSpec.ofChange scalarCasesWrong)

/- THE SECOND FORM. 'bulk': how many values and letters a reading holds, each counted each time it is reached (what is shared counts as often as it is met; a slice's spare places count too). A statement '..UptoSaid' is the law's where the arguments, and the package variables that the reading takes, are together of bulk at most 1048576: NARROWER than '..Said'. Prove '..Said' where nothing that the law and all that it calls make is longer than what came in: it says more and counts as full. Else prove '..UptoSaid'. A law counts once. -/
mutual
def uptoBulk {H : Type} : DataW H → Nat
  | .lit (.string bytes) => bytes.length + 1
  | .lit _ => 1
  | .nil => 1
  | .ptr d => uptoBulk d + 1
  | .slice elems spare => uptoBulkAll elems + uptoBulkAll spare + 1
  | .agg parts => uptoBulkAll parts + 1
  | .iface _ d => uptoBulk d + 1
  | .map entries => uptoBulkEntries entries + 1
  | .held _ => 1
def uptoBulkAll {H : Type} : List (DataW H) → Nat
  | [] => 0
  | d :: r => uptoBulk d + uptoBulkAll r
def uptoBulkEntries {H : Type} : List (Lit × DataW H) → Nat
  | [] => 0
  | x :: r => uptoBulkEntry x + uptoBulkEntries r
def uptoBulkEntry {H : Type} : Lit × DataW H → Nat
  | (.string bytes, d) => bytes.length + uptoBulk d + 1
  | (_, d) => uptoBulk d + 1
 end
def uptoSmall : (H : Type) → List (DataW H) → Bool := fun _ ds => decide (uptoBulkAll ds ≤ 1048576)
def OpenSpec.upto (s : _root_.Go.ChangeSpec) : _root_.Go.OpenSpec := { _root_.Go.OpenSpec.ofChange s with cond := some uptoSmall }

/-- 'boscagelaw03.ScalarReckons', WHERE WHAT IT READS IS OF BULK AT MOST 1048576: true; the input reads as it did. -/
def scalarReckonsUptoRow : OpenClaim := { program := "ytddnkjeogidfcaadoor", sum := "6a0efaa6a0f06af0c587c7fe596f57fe2045c20f957122049b11d5c9569ad467", func := "boscage/boscagelaw03.ScalarReckons", spec := "scalarReckons", inPlace := ["internal/bytealg.IndexByteString", "internal/bytealg.IndexString", "internal/bytealg.CountString", "internal/abi.NoEscape", "internal/bytealg.MakeNoZero"], unfollowed := true, recurses := true, named := ["internal/bytealg.MaxLen", "unicode/utf8.first", "unicode/utf8.acceptRanges"], apart := false, laid := [("unicode/utf8.acceptRanges", laid_unicode_utf8_acceptRanges), ("unicode/utf8.first", laid_unicode_utf8_first)], narrowed := true }
def ScalarReckonsUptoSaid : Prop := scalarReckonsUptoRow.holds Tryd.pinned (OpenSpec.upto scalarReckonsSpec)

/-- 'boscagelaw03.ScalarTurns', WHERE WHAT IT READS IS OF BULK AT MOST 1048576: true; the input reads as it did. -/
def scalarTurnsUptoRow : OpenClaim := { program := "ytddnkjeogidfcaadoor", sum := "6a0efaa6a0f06af0c587c7fe596f57fe2045c20f957122049b11d5c9569ad467", func := "boscage/boscagelaw03.ScalarTurns", spec := "scalarTurns", inPlace := ["internal/bytealg.IndexByteString", "internal/bytealg.IndexString", "internal/bytealg.CountString", "internal/abi.NoEscape", "internal/bytealg.MakeNoZero"], unfollowed := true, recurses := true, named := ["internal/bytealg.MaxLen", "unicode/utf8.first", "unicode/utf8.acceptRanges"], apart := false, laid := [("unicode/utf8.acceptRanges", laid_unicode_utf8_acceptRanges), ("unicode/utf8.first", laid_unicode_utf8_first)], narrowed := true }
def ScalarTurnsUptoSaid : Prop := scalarTurnsUptoRow.holds Tryd.pinned (OpenSpec.upto scalarTurnsSpec)

/-- 'boscagelaw03.ScalarParts', WHERE WHAT IT READS IS OF BULK AT MOST 1048576: true; the input reads as it did. -/
def scalarPartsUptoRow : OpenClaim := { program := "ytddnkjeogidfcaadoor", sum := "6a0efaa6a0f06af0c587c7fe596f57fe2045c20f957122049b11d5c9569ad467", func := "boscage/boscagelaw03.ScalarParts", spec := "scalarParts", inPlace := ["internal/bytealg.IndexByteString", "internal/bytealg.IndexString", "internal/bytealg.CountString", "internal/abi.NoEscape", "internal/bytealg.MakeNoZero"], unfollowed := true, recurses := true, named := ["internal/bytealg.MaxLen", "unicode/utf8.first", "unicode/utf8.acceptRanges"], apart := false, laid := [("unicode/utf8.acceptRanges", laid_unicode_utf8_acceptRanges), ("unicode/utf8.first", laid_unicode_utf8_first)], narrowed := true }
def ScalarPartsUptoSaid : Prop := scalarPartsUptoRow.holds Tryd.pinned (OpenSpec.upto scalarPartsSpec)

/-- 'boscagelaw03.ScalarNulls', WHERE WHAT IT READS IS OF BULK AT MOST 1048576: true; the input reads as it did. -/
def scalarNullsUptoRow : OpenClaim := { program := "ytddnkjeogidfcaadoor", sum := "6a0efaa6a0f06af0c587c7fe596f57fe2045c20f957122049b11d5c9569ad467", func := "boscage/boscagelaw03.ScalarNulls", spec := "scalarNulls", inPlace := ["internal/bytealg.IndexByteString", "internal/bytealg.IndexString", "internal/bytealg.CountString", "internal/abi.NoEscape", "internal/bytealg.MakeNoZero"], unfollowed := true, recurses := true, named := ["internal/bytealg.MaxLen", "unicode/utf8.first", "unicode/utf8.acceptRanges"], apart := false, laid := [("unicode/utf8.acceptRanges", laid_unicode_utf8_acceptRanges), ("unicode/utf8.first", laid_unicode_utf8_first)], narrowed := true }
def ScalarNullsUptoSaid : Prop := scalarNullsUptoRow.holds Tryd.pinned (OpenSpec.upto scalarNullsSpec)

/-- 'boscagelaw03.ScalarCases', WHERE WHAT IT READS IS OF BULK AT MOST 1048576: true; the input reads as it did. -/
def scalarCasesUptoRow : OpenClaim := { program := "ytddnkjeogidfcaadoor", sum := "6a0efaa6a0f06af0c587c7fe596f57fe2045c20f957122049b11d5c9569ad467", func := "boscage/boscagelaw03.ScalarCases", spec := "scalarCases", inPlace := ["internal/bytealg.IndexByteString", "internal/bytealg.IndexString", "internal/bytealg.CountString", "internal/abi.NoEscape", "internal/bytealg.MakeNoZero"], unfollowed := true, recurses := true, named := ["internal/bytealg.MaxLen", "unicode/utf8.first", "unicode/utf8.acceptRanges"], apart := false, laid := [("unicode/utf8.acceptRanges", laid_unicode_utf8_acceptRanges), ("unicode/utf8.first", laid_unicode_utf8_first)], narrowed := true }
def ScalarCasesUptoSaid : Prop := scalarCasesUptoRow.holds Tryd.pinned (OpenSpec.upto scalarCasesSpec)

end Rows
end Go.Proofs.YtddnkjeogidfcaaDoor
