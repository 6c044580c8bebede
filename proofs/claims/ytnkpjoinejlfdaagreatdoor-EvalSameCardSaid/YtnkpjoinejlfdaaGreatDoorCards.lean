/-
  DERIVED. GIVEN WITH THE SEED: THE CARDS: each row of YtnkpjoinejlfdaaGreatDoorRows.lean that lists a variable, with what it lists TIED to the program's text (the seventh form; the later family's looks); each row that meets fmt, with fmt's text TOLD by the authors' own Lean function (tested against real Go, not proved from fmt's source: count such statements apart). THE CARD IS WHAT COUNTS. Prove the row's statement (the work); the ties are given (YtnkpjoinejlfdaaGreatDoorTie.lean); close each card by the builder's one call (the guide's Derived/Test/ToyasCard.lean, 'card_holds'). Laid BY PROGRAM, IN A SANDBOX (cutbox-door.mjs). By AI agents, Wed Nov 11 2026. No macro, syntax, notation, axiom, sorry.
-/
import Derived.Test.YtnkpjoinejlfdaaGreatDoorRows
import GoSem.ClaimSeven
namespace Go.Proofs.YtnkpjoinejlfdaaGreatDoor
namespace Rows

/-- THE TIED CARD OF 'boscagelaw10.EvalSame'. -/
def evalSameCard : Claim7 := { stood := { row := evalSameRow, standIns := [], harness := (true, "65a898c27dcec6050e2e062255b27f829efbfd1cd9cc789cb0fe45d2bbb0fbd1"), looks := false }, kinds := [], alts := [], laidByText := true, laidKinds := [.data, .listed, .data, .pinned], laidTests := true, laidLooks := .later }
def EvalSameCardSaid : Prop := Claim7.holds Tryz.pinned (.plain (OpenSpec.ofChange evalSameSpec)) evalSameCard

/-- THE TIED CARD OF 'boscagelaw10.EvalUses'. -/
def evalUsesCard : Claim7 := { stood := { row := evalUsesRow, standIns := [], harness := (true, "65a898c27dcec6050e2e062255b27f829efbfd1cd9cc789cb0fe45d2bbb0fbd1"), looks := false }, kinds := [], alts := [], laidByText := true, laidKinds := [.data, .listed, .data, .pinned], laidTests := true, laidLooks := .later }
def EvalUsesCardSaid : Prop := Claim7.holds Tryz.pinned (.plain (OpenSpec.ofChange evalUsesSpec)) evalUsesCard

/-- THE TIED CARD OF 'boscagelaw10.EvalLits'. -/
def evalLitsCard : Claim7 := { stood := { row := evalLitsRow, standIns := [], harness := (true, "65a898c27dcec6050e2e062255b27f829efbfd1cd9cc789cb0fe45d2bbb0fbd1"), looks := false }, kinds := [], alts := [], laidByText := true, laidKinds := [.data, .listed, .data, .pinned], laidTests := true, laidLooks := .later }
def EvalLitsCardSaid : Prop := Claim7.holds Tryz.pinned (.plain (OpenSpec.ofChange evalLitsSpec)) evalLitsCard

/-- THE TIED CARD OF 'boscagelaw10.EvalMoves'. -/
def evalMovesCard : Claim7 := { stood := { row := evalMovesRow, standIns := [], harness := (true, "65a898c27dcec6050e2e062255b27f829efbfd1cd9cc789cb0fe45d2bbb0fbd1"), looks := false }, kinds := [], alts := [], laidByText := true, laidKinds := [.data, .listed, .data, .pinned], laidTests := true, laidLooks := .later }
def EvalMovesCardSaid : Prop := Claim7.holds Tryz.pinned (.plain (OpenSpec.ofChange evalMovesSpec)) evalMovesCard

/-- THE SECOND FORM's CARD OF 'boscagelaw10.EvalSame'. -/
def evalSameUptoCard : Claim7 := { stood := { row := evalSameUptoRow, standIns := [], harness := (true, "65a898c27dcec6050e2e062255b27f829efbfd1cd9cc789cb0fe45d2bbb0fbd1"), looks := false }, kinds := [], alts := [], laidByText := true, laidKinds := [.data, .listed, .data, .pinned], laidTests := true, laidLooks := .later }
def EvalSameUptoCardSaid : Prop := Claim7.holds Tryz.pinned (.plain (OpenSpec.upto evalSameSpec)) evalSameUptoCard

/-- THE SECOND FORM's CARD OF 'boscagelaw10.EvalUses'. -/
def evalUsesUptoCard : Claim7 := { stood := { row := evalUsesUptoRow, standIns := [], harness := (true, "65a898c27dcec6050e2e062255b27f829efbfd1cd9cc789cb0fe45d2bbb0fbd1"), looks := false }, kinds := [], alts := [], laidByText := true, laidKinds := [.data, .listed, .data, .pinned], laidTests := true, laidLooks := .later }
def EvalUsesUptoCardSaid : Prop := Claim7.holds Tryz.pinned (.plain (OpenSpec.upto evalUsesSpec)) evalUsesUptoCard

/-- THE SECOND FORM's CARD OF 'boscagelaw10.EvalLits'. -/
def evalLitsUptoCard : Claim7 := { stood := { row := evalLitsUptoRow, standIns := [], harness := (true, "65a898c27dcec6050e2e062255b27f829efbfd1cd9cc789cb0fe45d2bbb0fbd1"), looks := false }, kinds := [], alts := [], laidByText := true, laidKinds := [.data, .listed, .data, .pinned], laidTests := true, laidLooks := .later }
def EvalLitsUptoCardSaid : Prop := Claim7.holds Tryz.pinned (.plain (OpenSpec.upto evalLitsSpec)) evalLitsUptoCard

/-- THE SECOND FORM's CARD OF 'boscagelaw10.EvalMoves'. -/
def evalMovesUptoCard : Claim7 := { stood := { row := evalMovesUptoRow, standIns := [], harness := (true, "65a898c27dcec6050e2e062255b27f829efbfd1cd9cc789cb0fe45d2bbb0fbd1"), looks := false }, kinds := [], alts := [], laidByText := true, laidKinds := [.data, .listed, .data, .pinned], laidTests := true, laidLooks := .later }
def EvalMovesUptoCardSaid : Prop := Claim7.holds Tryz.pinned (.plain (OpenSpec.upto evalMovesSpec)) evalMovesUptoCard
end Rows
end Go.Proofs.YtnkpjoinejlfdaaGreatDoor
