/-
  DERIVED. GIVEN WITH THE SEED: THE CARDS: each row of YtifdakibkadfiaaGreatDoorRows.lean that lists a variable, with what it lists TIED to the program's text (the seventh form; the later family's looks); each row that meets fmt, with fmt's text TOLD by the authors' own Lean function (tested against real Go, not proved from fmt's source: count such statements apart). THE CARD IS WHAT COUNTS. Prove the row's statement (the work); the ties are given (YtifdakibkadfiaaGreatDoorTie.lean); close each card by the builder's one call (the guide's Derived/Test/ToyasCard.lean, 'card_holds'). Laid BY PROGRAM, IN A SANDBOX (cutbox-door.mjs). By AI agents, Wed Nov 11 2026. No macro, syntax, notation, axiom, sorry.
-/
import Derived.Test.YtifdakibkadfiaaGreatDoorRows
import GoSem.ClaimSeven
namespace Go.Proofs.YtifdakibkadfiaaGreatDoor
namespace Rows

/-- THE TIED CARD OF 'boscagelaw11.RowsJoins'. -/
def rowsJoinsCard : Claim7 := { stood := { row := rowsJoinsRow, standIns := [], harness := (true, "15ee737c83b85716e20653bf6e5954ad8578d2b6a6f64f42af56a18ddf9f097e"), looks := false }, kinds := [], alts := [], laidByText := true, laidKinds := [.data, .pinned], laidTests := true, laidLooks := .later }
def RowsJoinsCardSaid : Prop := Claim7.holds Tryz.pinned (.plain (OpenSpec.ofChange rowsJoinsSpec)) rowsJoinsCard

/-- THE TIED CARD OF 'boscagelaw11.RowsGroups'. -/
def rowsGroupsCard : Claim7 := { stood := { row := rowsGroupsRow, standIns := [], harness := (true, "15ee737c83b85716e20653bf6e5954ad8578d2b6a6f64f42af56a18ddf9f097e"), looks := false }, kinds := [], alts := [], laidByText := true, laidKinds := [.data, .pinned], laidTests := true, laidLooks := .later }
def RowsGroupsCardSaid : Prop := Claim7.holds Tryz.pinned (.plain (OpenSpec.ofChange rowsGroupsSpec)) rowsGroupsCard

/-- THE TIED CARD OF 'boscagelaw11.RowsFilters'. -/
def rowsFiltersCard : Claim7 := { stood := { row := rowsFiltersRow, standIns := [], harness := (true, "15ee737c83b85716e20653bf6e5954ad8578d2b6a6f64f42af56a18ddf9f097e"), looks := false }, kinds := [], alts := [], laidByText := true, laidKinds := [.data, .pinned], laidTests := true, laidLooks := .later }
def RowsFiltersCardSaid : Prop := Claim7.holds Tryz.pinned (.plain (OpenSpec.ofChange rowsFiltersSpec)) rowsFiltersCard

/-- THE TIED CARD OF 'boscagelaw11.RowsBags'. -/
def rowsBagsCard : Claim7 := { stood := { row := rowsBagsRow, standIns := [], harness := (true, "15ee737c83b85716e20653bf6e5954ad8578d2b6a6f64f42af56a18ddf9f097e"), looks := false }, kinds := [], alts := [], laidByText := true, laidKinds := [.data, .pinned], laidTests := true, laidLooks := .later }
def RowsBagsCardSaid : Prop := Claim7.holds Tryz.pinned (.plain (OpenSpec.ofChange rowsBagsSpec)) rowsBagsCard

/-- THE TIED CARD OF 'boscagelaw11.RowsKinds'. -/
def rowsKindsCard : Claim7 := { stood := { row := rowsKindsRow, standIns := [], harness := (true, "15ee737c83b85716e20653bf6e5954ad8578d2b6a6f64f42af56a18ddf9f097e"), looks := false }, kinds := [], alts := [], laidByText := true, laidKinds := [.data, .pinned], laidTests := true, laidLooks := .later }
def RowsKindsCardSaid : Prop := Claim7.holds Tryz.pinned (.plain (OpenSpec.ofChange rowsKindsSpec)) rowsKindsCard

/-- THE TIED CARD OF 'boscagelaw11.RowsSorts'. -/
def rowsSortsCard : Claim7 := { stood := { row := rowsSortsRow, standIns := [], harness := (true, "15ee737c83b85716e20653bf6e5954ad8578d2b6a6f64f42af56a18ddf9f097e"), looks := false }, kinds := [], alts := [], laidByText := true, laidKinds := [.data, .pinned], laidTests := true, laidLooks := .later }
def RowsSortsCardSaid : Prop := Claim7.holds Tryz.pinned (.plain (OpenSpec.ofChange rowsSortsSpec)) rowsSortsCard

/-- THE TIED CARD OF 'boscagelaw11.RowsOrder'. -/
def rowsOrderCard : Claim7 := { stood := { row := rowsOrderRow, standIns := [], harness := (true, "15ee737c83b85716e20653bf6e5954ad8578d2b6a6f64f42af56a18ddf9f097e"), looks := false }, kinds := [], alts := [], laidByText := true, laidKinds := [.data, .pinned], laidTests := true, laidLooks := .later }
def RowsOrderCardSaid : Prop := Claim7.holds Tryz.pinned (.plain (OpenSpec.ofChange rowsOrderSpec)) rowsOrderCard

/-- THE SECOND FORM's CARD OF 'boscagelaw11.RowsJoins'. -/
def rowsJoinsUptoCard : Claim7 := { stood := { row := rowsJoinsUptoRow, standIns := [], harness := (true, "15ee737c83b85716e20653bf6e5954ad8578d2b6a6f64f42af56a18ddf9f097e"), looks := false }, kinds := [], alts := [], laidByText := true, laidKinds := [.data, .pinned], laidTests := true, laidLooks := .later }
def RowsJoinsUptoCardSaid : Prop := Claim7.holds Tryz.pinned (.plain (OpenSpec.upto rowsJoinsSpec)) rowsJoinsUptoCard

/-- THE SECOND FORM's CARD OF 'boscagelaw11.RowsGroups'. -/
def rowsGroupsUptoCard : Claim7 := { stood := { row := rowsGroupsUptoRow, standIns := [], harness := (true, "15ee737c83b85716e20653bf6e5954ad8578d2b6a6f64f42af56a18ddf9f097e"), looks := false }, kinds := [], alts := [], laidByText := true, laidKinds := [.data, .pinned], laidTests := true, laidLooks := .later }
def RowsGroupsUptoCardSaid : Prop := Claim7.holds Tryz.pinned (.plain (OpenSpec.upto rowsGroupsSpec)) rowsGroupsUptoCard

/-- THE SECOND FORM's CARD OF 'boscagelaw11.RowsFilters'. -/
def rowsFiltersUptoCard : Claim7 := { stood := { row := rowsFiltersUptoRow, standIns := [], harness := (true, "15ee737c83b85716e20653bf6e5954ad8578d2b6a6f64f42af56a18ddf9f097e"), looks := false }, kinds := [], alts := [], laidByText := true, laidKinds := [.data, .pinned], laidTests := true, laidLooks := .later }
def RowsFiltersUptoCardSaid : Prop := Claim7.holds Tryz.pinned (.plain (OpenSpec.upto rowsFiltersSpec)) rowsFiltersUptoCard

/-- THE SECOND FORM's CARD OF 'boscagelaw11.RowsBags'. -/
def rowsBagsUptoCard : Claim7 := { stood := { row := rowsBagsUptoRow, standIns := [], harness := (true, "15ee737c83b85716e20653bf6e5954ad8578d2b6a6f64f42af56a18ddf9f097e"), looks := false }, kinds := [], alts := [], laidByText := true, laidKinds := [.data, .pinned], laidTests := true, laidLooks := .later }
def RowsBagsUptoCardSaid : Prop := Claim7.holds Tryz.pinned (.plain (OpenSpec.upto rowsBagsSpec)) rowsBagsUptoCard

/-- THE SECOND FORM's CARD OF 'boscagelaw11.RowsKinds'. -/
def rowsKindsUptoCard : Claim7 := { stood := { row := rowsKindsUptoRow, standIns := [], harness := (true, "15ee737c83b85716e20653bf6e5954ad8578d2b6a6f64f42af56a18ddf9f097e"), looks := false }, kinds := [], alts := [], laidByText := true, laidKinds := [.data, .pinned], laidTests := true, laidLooks := .later }
def RowsKindsUptoCardSaid : Prop := Claim7.holds Tryz.pinned (.plain (OpenSpec.upto rowsKindsSpec)) rowsKindsUptoCard

/-- THE SECOND FORM's CARD OF 'boscagelaw11.RowsSorts'. -/
def rowsSortsUptoCard : Claim7 := { stood := { row := rowsSortsUptoRow, standIns := [], harness := (true, "15ee737c83b85716e20653bf6e5954ad8578d2b6a6f64f42af56a18ddf9f097e"), looks := false }, kinds := [], alts := [], laidByText := true, laidKinds := [.data, .pinned], laidTests := true, laidLooks := .later }
def RowsSortsUptoCardSaid : Prop := Claim7.holds Tryz.pinned (.plain (OpenSpec.upto rowsSortsSpec)) rowsSortsUptoCard

/-- THE SECOND FORM's CARD OF 'boscagelaw11.RowsOrder'. -/
def rowsOrderUptoCard : Claim7 := { stood := { row := rowsOrderUptoRow, standIns := [], harness := (true, "15ee737c83b85716e20653bf6e5954ad8578d2b6a6f64f42af56a18ddf9f097e"), looks := false }, kinds := [], alts := [], laidByText := true, laidKinds := [.data, .pinned], laidTests := true, laidLooks := .later }
def RowsOrderUptoCardSaid : Prop := Claim7.holds Tryz.pinned (.plain (OpenSpec.upto rowsOrderSpec)) rowsOrderUptoCard
end Rows
end Go.Proofs.YtifdakibkadfiaaGreatDoor
