/-
  NARROWER THAN 'FOR EVERY INPUT', by the rows' own cells (each row's printed sentence says how): SortRows: loops, laid · SortPasses: laid · SortSame: loops, laid · SortRoom: laid · SortMerges: loops, laid.
  DERIVED. THE GIVEN ROWS OF THIS SEAT. 5 by the template 'for every input the law returns true; each argument reads behind the call as it read before'; 0 by the template 'total and deterministic' (their statements: YtimjepimjfcalaaGreatDoorTotals.lean).
  GIVEN WITH THE SEED: the statements are not yours to turn. If you find one false, say at which input.
  Laid BY PROGRAM, IN A SANDBOX (cutbox-rows.mjs): the forced cells as the released guide's own fill.sh prints them over the translation 85399595442646b5… (all of the seat's roots in one cut). By AI agents, Wed Nov 11 2026. No macro, syntax, notation, axiom, sorry.
-/
import Derived.Test.YtimjepimjfcalaaGreatDoorChecked
import GoSem.PinnedTables
import GoSem.Claim
import GoSem.ClaimJoined
import GoSem.ClaimMapViews
import Derived.JoinedTies
import Derived.KernelRfl
namespace Go.Proofs.YtimjepimjfcalaaGreatDoor
/- THE CELL 'sum', in the pinned program and in every row, IS THE sha256 OF THE DUMP (.gsa) THAT YtimjepimjfcalaaGreatDoorProg.lean LOADS. Nothing in Lean hashes anything: it is a label: what it is worth is what the hold of that sum in a sandbox is worth. -/
noncomputable def Tryz.pinned : Pinned := { name := "ytimjepimjfcalaagreatdoor", sum := "85399595442646b5044c299ebc22f7a25287a45a3c11b873f70bea5ee5c5214a", checked := Tryz.checked }
namespace Rows
def none {H : Type} : Left H := { results := [], args := [] }

/- WHAT THE LISTED PACKAGE-LEVEL VARIABLES READ AS WHEN THE CALL BEGINS. Each datum BY PROGRAM (the guide's laid-datum.mjs) off the statement by which the dump's own 'gosem.cut.vars' lays the variable. In a bare row this is a premise. The card (YtimjepimjfcalaaGreatDoorCards.lean) ties it to the program's text. -/
def laid_unicode_utf8_acceptRanges {H : Type} : DataW H := .agg [.agg [.lit (.int .u8 128), .lit (.int .u8 191)], .agg [.lit (.int .u8 160), .lit (.int .u8 191)], .agg [.lit (.int .u8 128), .lit (.int .u8 159)], .agg [.lit (.int .u8 144), .lit (.int .u8 191)], .agg [.lit (.int .u8 128), .lit (.int .u8 143)], .agg [.lit (.int .u8 0), .lit (.int .u8 0)], .agg [.lit (.int .u8 0), .lit (.int .u8 0)], .agg [.lit (.int .u8 0), .lit (.int .u8 0)], .agg [.lit (.int .u8 0), .lit (.int .u8 0)], .agg [.lit (.int .u8 0), .lit (.int .u8 0)], .agg [.lit (.int .u8 0), .lit (.int .u8 0)], .agg [.lit (.int .u8 0), .lit (.int .u8 0)], .agg [.lit (.int .u8 0), .lit (.int .u8 0)], .agg [.lit (.int .u8 0), .lit (.int .u8 0)], .agg [.lit (.int .u8 0), .lit (.int .u8 0)], .agg [.lit (.int .u8 0), .lit (.int .u8 0)]]
/-- One of Go's own tables, pinned by name: the form's constant. -/
def laid_unicode_utf8_first : DataW Unit := Go.Pinned.utf8First

/-- 'boscagelaw16.SortRows': WHATEVER THE INPUT: true; the input reads as it did. -/
def sortRowsSpec : ChangeSpec := { name := "sortRows", fn := fun _ => fun
  | [d1, d2, d3, d4] => { results := [.lit (.bool true)], args := [d1, d2, d3, d4] }
  | _ => none }
def sortRowsRow : OpenClaim := { program := "ytimjepimjfcalaagreatdoor", sum := "85399595442646b5044c299ebc22f7a25287a45a3c11b873f70bea5ee5c5214a", func := "boscage/boscagelaw16.SortRows", spec := "sortRows", inPlace := ["internal/bytealg.IndexByteString", "internal/bytealg.IndexString", "internal/bytealg.CountString", "internal/abi.NoEscape", "internal/bytealg.MakeNoZero", "internal/bytealg.abigen_runtime_cmpstring"], unfollowed := true, recurses := true, named := ["internal/bytealg.MaxLen", "unicode/utf8.first", "unicode/utf8.acceptRanges"], loops := true, apart := false, laid := [("unicode/utf8.acceptRanges", laid_unicode_utf8_acceptRanges), ("unicode/utf8.first", laid_unicode_utf8_first)] }
def SortRowsSaid : Prop := sortRowsRow.holds Tryz.pinned (OpenSpec.ofChange sortRowsSpec)

/-- ITS FALSE NEIGHBOUR: 'it returns false'. Refute it at one input. -/
def sortRowsWrong : ChangeSpec := { name := "sortRows", fn := fun _ => fun
  | [d1, d2, d3, d4] => { results := [.lit (.bool false)], args := [d1, d2, d3, d4] }
  | _ => none }
def SortRowsWrongFalsely : Prop := sortRowsRow.holds Tryz.pinned (OpenSpec.ofChange sortRowsWrong)

/-- 'boscagelaw16.SortPasses': WHATEVER THE INPUT: true; the input reads as it did. -/
def sortPassesSpec : ChangeSpec := { name := "sortPasses", fn := fun _ => fun
  | [d1, d2, d3] => { results := [.lit (.bool true)], args := [d1, d2, d3] }
  | _ => none }
def sortPassesRow : OpenClaim := { program := "ytimjepimjfcalaagreatdoor", sum := "85399595442646b5044c299ebc22f7a25287a45a3c11b873f70bea5ee5c5214a", func := "boscage/boscagelaw16.SortPasses", spec := "sortPasses", inPlace := ["internal/bytealg.IndexByteString", "internal/bytealg.IndexString", "internal/bytealg.CountString", "internal/abi.NoEscape", "internal/bytealg.MakeNoZero", "internal/bytealg.abigen_runtime_cmpstring"], unfollowed := true, recurses := true, named := ["internal/bytealg.MaxLen", "unicode/utf8.first", "unicode/utf8.acceptRanges"], apart := false, laid := [("unicode/utf8.acceptRanges", laid_unicode_utf8_acceptRanges), ("unicode/utf8.first", laid_unicode_utf8_first)] }
def SortPassesSaid : Prop := sortPassesRow.holds Tryz.pinned (OpenSpec.ofChange sortPassesSpec)

/-- ITS FALSE NEIGHBOUR: 'it returns false'. Refute it at one input. -/
def sortPassesWrong : ChangeSpec := { name := "sortPasses", fn := fun _ => fun
  | [d1, d2, d3] => { results := [.lit (.bool false)], args := [d1, d2, d3] }
  | _ => none }
def SortPassesWrongFalsely : Prop := sortPassesRow.holds Tryz.pinned (OpenSpec.ofChange sortPassesWrong)

/-- 'boscagelaw16.SortSame': WHATEVER THE INPUT: true; the input reads as it did. -/
def sortSameSpec : ChangeSpec := { name := "sortSame", fn := fun _ => fun
  | [d1, d2, d3, d4, d5] => { results := [.lit (.bool true)], args := [d1, d2, d3, d4, d5] }
  | _ => none }
def sortSameRow : OpenClaim := { program := "ytimjepimjfcalaagreatdoor", sum := "85399595442646b5044c299ebc22f7a25287a45a3c11b873f70bea5ee5c5214a", func := "boscage/boscagelaw16.SortSame", spec := "sortSame", inPlace := ["internal/bytealg.IndexByteString", "internal/bytealg.IndexString", "internal/bytealg.CountString", "internal/abi.NoEscape", "internal/bytealg.MakeNoZero", "internal/bytealg.abigen_runtime_cmpstring"], unfollowed := true, recurses := true, named := ["internal/bytealg.MaxLen", "unicode/utf8.first", "unicode/utf8.acceptRanges"], loops := true, apart := false, laid := [("unicode/utf8.acceptRanges", laid_unicode_utf8_acceptRanges), ("unicode/utf8.first", laid_unicode_utf8_first)] }
def SortSameSaid : Prop := sortSameRow.holds Tryz.pinned (OpenSpec.ofChange sortSameSpec)

/-- ITS FALSE NEIGHBOUR: 'it returns false'. Refute it at one input. -/
def sortSameWrong : ChangeSpec := { name := "sortSame", fn := fun _ => fun
  | [d1, d2, d3, d4, d5] => { results := [.lit (.bool false)], args := [d1, d2, d3, d4, d5] }
  | _ => none }
def SortSameWrongFalsely : Prop := sortSameRow.holds Tryz.pinned (OpenSpec.ofChange sortSameWrong)

/-- 'boscagelaw16.SortRoom': WHATEVER THE INPUT: true; the input reads as it did. -/
def sortRoomSpec : ChangeSpec := { name := "sortRoom", fn := fun _ => fun
  | [d1, d2, d3, d4] => { results := [.lit (.bool true)], args := [d1, d2, d3, d4] }
  | _ => none }
def sortRoomRow : OpenClaim := { program := "ytimjepimjfcalaagreatdoor", sum := "85399595442646b5044c299ebc22f7a25287a45a3c11b873f70bea5ee5c5214a", func := "boscage/boscagelaw16.SortRoom", spec := "sortRoom", inPlace := ["internal/bytealg.IndexByteString", "internal/bytealg.IndexString", "internal/bytealg.CountString", "internal/abi.NoEscape", "internal/bytealg.MakeNoZero", "internal/bytealg.abigen_runtime_cmpstring"], unfollowed := true, recurses := true, named := ["internal/bytealg.MaxLen", "unicode/utf8.first", "unicode/utf8.acceptRanges"], apart := false, laid := [("unicode/utf8.acceptRanges", laid_unicode_utf8_acceptRanges), ("unicode/utf8.first", laid_unicode_utf8_first)] }
def SortRoomSaid : Prop := sortRoomRow.holds Tryz.pinned (OpenSpec.ofChange sortRoomSpec)

/-- ITS FALSE NEIGHBOUR: 'it returns false'. Refute it at one input. -/
def sortRoomWrong : ChangeSpec := { name := "sortRoom", fn := fun _ => fun
  | [d1, d2, d3, d4] => { results := [.lit (.bool false)], args := [d1, d2, d3, d4] }
  | _ => none }
def SortRoomWrongFalsely : Prop := sortRoomRow.holds Tryz.pinned (OpenSpec.ofChange sortRoomWrong)

/-- 'boscagelaw16.SortMerges': WHATEVER THE INPUT: true; the input reads as it did. -/
def sortMergesSpec : ChangeSpec := { name := "sortMerges", fn := fun _ => fun
  | [d1, d2, d3] => { results := [.lit (.bool true)], args := [d1, d2, d3] }
  | _ => none }
def sortMergesRow : OpenClaim := { program := "ytimjepimjfcalaagreatdoor", sum := "85399595442646b5044c299ebc22f7a25287a45a3c11b873f70bea5ee5c5214a", func := "boscage/boscagelaw16.SortMerges", spec := "sortMerges", inPlace := ["internal/bytealg.IndexByteString", "internal/bytealg.IndexString", "internal/bytealg.CountString", "internal/abi.NoEscape", "internal/bytealg.MakeNoZero", "internal/bytealg.abigen_runtime_cmpstring"], unfollowed := true, recurses := true, named := ["internal/bytealg.MaxLen", "unicode/utf8.first", "unicode/utf8.acceptRanges"], loops := true, apart := false, laid := [("unicode/utf8.acceptRanges", laid_unicode_utf8_acceptRanges), ("unicode/utf8.first", laid_unicode_utf8_first)] }
def SortMergesSaid : Prop := sortMergesRow.holds Tryz.pinned (OpenSpec.ofChange sortMergesSpec)

/-- ITS FALSE NEIGHBOUR: 'it returns false'. Refute it at one input. -/
def sortMergesWrong : ChangeSpec := { name := "sortMerges", fn := fun _ => fun
  | [d1, d2, d3] => { results := [.lit (.bool false)], args := [d1, d2, d3] }
  | _ => none }
def SortMergesWrongFalsely : Prop := sortMergesRow.holds Tryz.pinned (OpenSpec.ofChange sortMergesWrong)

/- THE SECOND FORM. 'bulk': how many values and letters a reading holds, each counted each time it is reached (what is shared counts as often as it is met; a slice's spare places count too). A statement '..UptoSaid' is the law's where the arguments, and the package variables that the reading takes, are together of bulk at most 1048576: NARROWER than '..Said'. Prove '..Said' where nothing that the law and all that it calls make is longer than what came in: it says more and counts as full. Else prove '..UptoSaid'. A law counts once. -/
mutual
def uptoBulk {H : Type} : DataW H → Nat
  | .lit (.string bytes) => bytes.length + 1
  | .lit _ => 1
  | .nil => 1
  | .ptr d => uptoBulk d + 1
  | .slice elems spare => uptoBulkAll elems + uptoBulkAll spare + 1
  | .agg parts => uptoBulkAll parts + 1
  | .iface _ d => uptoBulk d + 1
  | .map entries => uptoBulkEntries entries + 1
  | .held _ => 1
def uptoBulkAll {H : Type} : List (DataW H) → Nat
  | [] => 0
  | d :: r => uptoBulk d + uptoBulkAll r
def uptoBulkEntries {H : Type} : List (Lit × DataW H) → Nat
  | [] => 0
  | x :: r => uptoBulkEntry x + uptoBulkEntries r
def uptoBulkEntry {H : Type} : Lit × DataW H → Nat
  | (.string bytes, d) => bytes.length + uptoBulk d + 1
  | (_, d) => uptoBulk d + 1
 end
def uptoSmall : (H : Type) → List (DataW H) → Bool := fun _ ds => decide (uptoBulkAll ds ≤ 1048576)
def OpenSpec.upto (s : _root_.Go.ChangeSpec) : _root_.Go.OpenSpec := { _root_.Go.OpenSpec.ofChange s with cond := some uptoSmall }

/-- 'boscagelaw16.SortRows', WHERE WHAT IT READS IS OF BULK AT MOST 1048576: true; the input reads as it did. -/
def sortRowsUptoRow : OpenClaim := { program := "ytimjepimjfcalaagreatdoor", sum := "85399595442646b5044c299ebc22f7a25287a45a3c11b873f70bea5ee5c5214a", func := "boscage/boscagelaw16.SortRows", spec := "sortRows", inPlace := ["internal/bytealg.IndexByteString", "internal/bytealg.IndexString", "internal/bytealg.CountString", "internal/abi.NoEscape", "internal/bytealg.MakeNoZero", "internal/bytealg.abigen_runtime_cmpstring"], unfollowed := true, recurses := true, named := ["internal/bytealg.MaxLen", "unicode/utf8.first", "unicode/utf8.acceptRanges"], loops := true, apart := false, laid := [("unicode/utf8.acceptRanges", laid_unicode_utf8_acceptRanges), ("unicode/utf8.first", laid_unicode_utf8_first)], narrowed := true }
def SortRowsUptoSaid : Prop := sortRowsUptoRow.holds Tryz.pinned (OpenSpec.upto sortRowsSpec)

/-- 'boscagelaw16.SortPasses', WHERE WHAT IT READS IS OF BULK AT MOST 1048576: true; the input reads as it did. -/
def sortPassesUptoRow : OpenClaim := { program := "ytimjepimjfcalaagreatdoor", sum := "85399595442646b5044c299ebc22f7a25287a45a3c11b873f70bea5ee5c5214a", func := "boscage/boscagelaw16.SortPasses", spec := "sortPasses", inPlace := ["internal/bytealg.IndexByteString", "internal/bytealg.IndexString", "internal/bytealg.CountString", "internal/abi.NoEscape", "internal/bytealg.MakeNoZero", "internal/bytealg.abigen_runtime_cmpstring"], unfollowed := true, recurses := true, named := ["internal/bytealg.MaxLen", "unicode/utf8.first", "unicode/utf8.acceptRanges"], apart := false, laid := [("unicode/utf8.acceptRanges", laid_unicode_utf8_acceptRanges), ("unicode/utf8.first", laid_unicode_utf8_first)], narrowed := true }
def SortPassesUptoSaid : Prop := sortPassesUptoRow.holds Tryz.pinned (OpenSpec.upto sortPassesSpec)

/-- 'boscagelaw16.SortSame', WHERE WHAT IT READS IS OF BULK AT MOST 1048576: true; the input reads as it did. -/
def sortSameUptoRow : OpenClaim := { program := "ytimjepimjfcalaagreatdoor", sum := "85399595442646b5044c299ebc22f7a25287a45a3c11b873f70bea5ee5c5214a", func := "boscage/boscagelaw16.SortSame", spec := "sortSame", inPlace := ["internal/bytealg.IndexByteString", "internal/bytealg.IndexString", "internal/bytealg.CountString", "internal/abi.NoEscape", "internal/bytealg.MakeNoZero", "internal/bytealg.abigen_runtime_cmpstring"], unfollowed := true, recurses := true, named := ["internal/bytealg.MaxLen", "unicode/utf8.first", "unicode/utf8.acceptRanges"], loops := true, apart := false, laid := [("unicode/utf8.acceptRanges", laid_unicode_utf8_acceptRanges), ("unicode/utf8.first", laid_unicode_utf8_first)], narrowed := true }
def SortSameUptoSaid : Prop := sortSameUptoRow.holds Tryz.pinned (OpenSpec.upto sortSameSpec)

/-- 'boscagelaw16.SortRoom', WHERE WHAT IT READS IS OF BULK AT MOST 1048576: true; the input reads as it did. -/
def sortRoomUptoRow : OpenClaim := { program := "ytimjepimjfcalaagreatdoor", sum := "85399595442646b5044c299ebc22f7a25287a45a3c11b873f70bea5ee5c5214a", func := "boscage/boscagelaw16.SortRoom", spec := "sortRoom", inPlace := ["internal/bytealg.IndexByteString", "internal/bytealg.IndexString", "internal/bytealg.CountString", "internal/abi.NoEscape", "internal/bytealg.MakeNoZero", "internal/bytealg.abigen_runtime_cmpstring"], unfollowed := true, recurses := true, named := ["internal/bytealg.MaxLen", "unicode/utf8.first", "unicode/utf8.acceptRanges"], apart := false, laid := [("unicode/utf8.acceptRanges", laid_unicode_utf8_acceptRanges), ("unicode/utf8.first", laid_unicode_utf8_first)], narrowed := true }
def SortRoomUptoSaid : Prop := sortRoomUptoRow.holds Tryz.pinned (OpenSpec.upto sortRoomSpec)

/-- 'boscagelaw16.SortMerges', WHERE WHAT IT READS IS OF BULK AT MOST 1048576: true; the input reads as it did. -/
def sortMergesUptoRow : OpenClaim := { program := "ytimjepimjfcalaagreatdoor", sum := "85399595442646b5044c299ebc22f7a25287a45a3c11b873f70bea5ee5c5214a", func := "boscage/boscagelaw16.SortMerges", spec := "sortMerges", inPlace := ["internal/bytealg.IndexByteString", "internal/bytealg.IndexString", "internal/bytealg.CountString", "internal/abi.NoEscape", "internal/bytealg.MakeNoZero", "internal/bytealg.abigen_runtime_cmpstring"], unfollowed := true, recurses := true, named := ["internal/bytealg.MaxLen", "unicode/utf8.first", "unicode/utf8.acceptRanges"], loops := true, apart := false, laid := [("unicode/utf8.acceptRanges", laid_unicode_utf8_acceptRanges), ("unicode/utf8.first", laid_unicode_utf8_first)], narrowed := true }
def SortMergesUptoSaid : Prop := sortMergesUptoRow.holds Tryz.pinned (OpenSpec.upto sortMergesSpec)

end Rows
end Go.Proofs.YtimjepimjfcalaaGreatDoor
