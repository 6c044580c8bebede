/-
  DERIVED. GIVEN WITH THE SEED: THE CARDS: each row of YtddnkjeogidfcaaDoorRows.lean that lists a variable, with what it lists TIED to the program's text (the seventh form; the later family's looks); each row that meets fmt, with fmt's text TOLD by the authors' own Lean function (tested against real Go, not proved from fmt's source: count such statements apart). THE CARD IS WHAT COUNTS. Prove the row's statement (the work); the ties are given (YtddnkjeogidfcaaDoorTie.lean); close each card by the builder's one call (the guide's Derived/Test/ToyasCard.lean, 'card_holds'). Laid BY PROGRAM, IN A SANDBOX (cutbox-door.mjs). By AI agents, Wed Nov 11 2026. No macro, syntax, notation, axiom, sorry.
-/
import Derived.Test.YtddnkjeogidfcaaDoorRows
import GoSem.ClaimSeven
namespace Go.Proofs.YtddnkjeogidfcaaDoor
namespace Rows

/-- THE TIED CARD OF 'boscagelaw03.ScalarReckons'. -/
def scalarReckonsCard : Claim7 := { stood := { row := scalarReckonsRow, standIns := [], harness := (true, "a245e217d14f9f4a1d2581fe88e802ffea33350fdc76ede0eed6e17068b6e666"), looks := false }, kinds := [], alts := [], laidByText := true, laidKinds := [.data, .pinned], laidTests := true, laidLooks := .later }
def ScalarReckonsCardSaid : Prop := Claim7.holds Tryd.pinned (.plain (OpenSpec.ofChange scalarReckonsSpec)) scalarReckonsCard

/-- THE TIED CARD OF 'boscagelaw03.ScalarTurns'. -/
def scalarTurnsCard : Claim7 := { stood := { row := scalarTurnsRow, standIns := [], harness := (true, "a245e217d14f9f4a1d2581fe88e802ffea33350fdc76ede0eed6e17068b6e666"), looks := false }, kinds := [], alts := [], laidByText := true, laidKinds := [.data, .pinned], laidTests := true, laidLooks := .later }
def ScalarTurnsCardSaid : Prop := Claim7.holds Tryd.pinned (.plain (OpenSpec.ofChange scalarTurnsSpec)) scalarTurnsCard

/-- THE TIED CARD OF 'boscagelaw03.ScalarParts'. -/
def scalarPartsCard : Claim7 := { stood := { row := scalarPartsRow, standIns := [], harness := (true, "a245e217d14f9f4a1d2581fe88e802ffea33350fdc76ede0eed6e17068b6e666"), looks := false }, kinds := [], alts := [], laidByText := true, laidKinds := [.data, .pinned], laidTests := true, laidLooks := .later }
def ScalarPartsCardSaid : Prop := Claim7.holds Tryd.pinned (.plain (OpenSpec.ofChange scalarPartsSpec)) scalarPartsCard

/-- THE TIED CARD OF 'boscagelaw03.ScalarNulls'. -/
def scalarNullsCard : Claim7 := { stood := { row := scalarNullsRow, standIns := [], harness := (true, "a245e217d14f9f4a1d2581fe88e802ffea33350fdc76ede0eed6e17068b6e666"), looks := false }, kinds := [], alts := [], laidByText := true, laidKinds := [.data, .pinned], laidTests := true, laidLooks := .later }
def ScalarNullsCardSaid : Prop := Claim7.holds Tryd.pinned (.plain (OpenSpec.ofChange scalarNullsSpec)) scalarNullsCard

/-- THE TIED CARD OF 'boscagelaw03.ScalarCases'. -/
def scalarCasesCard : Claim7 := { stood := { row := scalarCasesRow, standIns := [], harness := (true, "a245e217d14f9f4a1d2581fe88e802ffea33350fdc76ede0eed6e17068b6e666"), looks := false }, kinds := [], alts := [], laidByText := true, laidKinds := [.data, .pinned], laidTests := true, laidLooks := .later }
def ScalarCasesCardSaid : Prop := Claim7.holds Tryd.pinned (.plain (OpenSpec.ofChange scalarCasesSpec)) scalarCasesCard

/-- THE SECOND FORM's CARD OF 'boscagelaw03.ScalarReckons'. -/
def scalarReckonsUptoCard : Claim7 := { stood := { row := scalarReckonsUptoRow, standIns := [], harness := (true, "a245e217d14f9f4a1d2581fe88e802ffea33350fdc76ede0eed6e17068b6e666"), looks := false }, kinds := [], alts := [], laidByText := true, laidKinds := [.data, .pinned], laidTests := true, laidLooks := .later }
def ScalarReckonsUptoCardSaid : Prop := Claim7.holds Tryd.pinned (.plain (OpenSpec.upto scalarReckonsSpec)) scalarReckonsUptoCard

/-- THE SECOND FORM's CARD OF 'boscagelaw03.ScalarTurns'. -/
def scalarTurnsUptoCard : Claim7 := { stood := { row := scalarTurnsUptoRow, standIns := [], harness := (true, "a245e217d14f9f4a1d2581fe88e802ffea33350fdc76ede0eed6e17068b6e666"), looks := false }, kinds := [], alts := [], laidByText := true, laidKinds := [.data, .pinned], laidTests := true, laidLooks := .later }
def ScalarTurnsUptoCardSaid : Prop := Claim7.holds Tryd.pinned (.plain (OpenSpec.upto scalarTurnsSpec)) scalarTurnsUptoCard

/-- THE SECOND FORM's CARD OF 'boscagelaw03.ScalarParts'. -/
def scalarPartsUptoCard : Claim7 := { stood := { row := scalarPartsUptoRow, standIns := [], harness := (true, "a245e217d14f9f4a1d2581fe88e802ffea33350fdc76ede0eed6e17068b6e666"), looks := false }, kinds := [], alts := [], laidByText := true, laidKinds := [.data, .pinned], laidTests := true, laidLooks := .later }
def ScalarPartsUptoCardSaid : Prop := Claim7.holds Tryd.pinned (.plain (OpenSpec.upto scalarPartsSpec)) scalarPartsUptoCard

/-- THE SECOND FORM's CARD OF 'boscagelaw03.ScalarNulls'. -/
def scalarNullsUptoCard : Claim7 := { stood := { row := scalarNullsUptoRow, standIns := [], harness := (true, "a245e217d14f9f4a1d2581fe88e802ffea33350fdc76ede0eed6e17068b6e666"), looks := false }, kinds := [], alts := [], laidByText := true, laidKinds := [.data, .pinned], laidTests := true, laidLooks := .later }
def ScalarNullsUptoCardSaid : Prop := Claim7.holds Tryd.pinned (.plain (OpenSpec.upto scalarNullsSpec)) scalarNullsUptoCard

/-- THE SECOND FORM's CARD OF 'boscagelaw03.ScalarCases'. -/
def scalarCasesUptoCard : Claim7 := { stood := { row := scalarCasesUptoRow, standIns := [], harness := (true, "a245e217d14f9f4a1d2581fe88e802ffea33350fdc76ede0eed6e17068b6e666"), looks := false }, kinds := [], alts := [], laidByText := true, laidKinds := [.data, .pinned], laidTests := true, laidLooks := .later }
def ScalarCasesUptoCardSaid : Prop := Claim7.holds Tryd.pinned (.plain (OpenSpec.upto scalarCasesSpec)) scalarCasesUptoCard
end Rows
end Go.Proofs.YtddnkjeogidfcaaDoor
