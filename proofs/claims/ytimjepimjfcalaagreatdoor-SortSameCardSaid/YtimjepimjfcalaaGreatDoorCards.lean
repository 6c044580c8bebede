/-
  DERIVED. GIVEN WITH THE SEED: THE CARDS: each row of YtimjepimjfcalaaGreatDoorRows.lean that lists a variable, with what it lists TIED to the program's text (the seventh form; the later family's looks); each row that meets fmt, with fmt's text TOLD by the authors' own Lean function (tested against real Go, not proved from fmt's source: count such statements apart). THE CARD IS WHAT COUNTS. Prove the row's statement (the work); the ties are given (YtimjepimjfcalaaGreatDoorTie.lean); close each card by the builder's one call (the guide's Derived/Test/ToyasCard.lean, 'card_holds'). Laid BY PROGRAM, IN A SANDBOX (cutbox-door.mjs). By AI agents, Wed Nov 11 2026. No macro, syntax, notation, axiom, sorry.
-/
import Derived.Test.YtimjepimjfcalaaGreatDoorRows
import GoSem.ClaimSeven
namespace Go.Proofs.YtimjepimjfcalaaGreatDoor
namespace Rows

/-- THE TIED CARD OF 'boscagelaw16.SortRows'. -/
def sortRowsCard : Claim7 := { stood := { row := sortRowsRow, standIns := [], harness := (true, "dbacd3a8d13254ac1957ee67f0bdd0018415c5e763bf126cd83b4ea6e8a3393c"), looks := false }, kinds := [], alts := [], laidByText := true, laidKinds := [.data, .pinned], laidTests := true, laidLooks := .later }
def SortRowsCardSaid : Prop := Claim7.holds Tryz.pinned (.plain (OpenSpec.ofChange sortRowsSpec)) sortRowsCard

/-- THE TIED CARD OF 'boscagelaw16.SortPasses'. -/
def sortPassesCard : Claim7 := { stood := { row := sortPassesRow, standIns := [], harness := (true, "dbacd3a8d13254ac1957ee67f0bdd0018415c5e763bf126cd83b4ea6e8a3393c"), looks := false }, kinds := [], alts := [], laidByText := true, laidKinds := [.data, .pinned], laidTests := true, laidLooks := .later }
def SortPassesCardSaid : Prop := Claim7.holds Tryz.pinned (.plain (OpenSpec.ofChange sortPassesSpec)) sortPassesCard

/-- THE TIED CARD OF 'boscagelaw16.SortSame'. -/
def sortSameCard : Claim7 := { stood := { row := sortSameRow, standIns := [], harness := (true, "dbacd3a8d13254ac1957ee67f0bdd0018415c5e763bf126cd83b4ea6e8a3393c"), looks := false }, kinds := [], alts := [], laidByText := true, laidKinds := [.data, .pinned], laidTests := true, laidLooks := .later }
def SortSameCardSaid : Prop := Claim7.holds Tryz.pinned (.plain (OpenSpec.ofChange sortSameSpec)) sortSameCard

/-- THE TIED CARD OF 'boscagelaw16.SortRoom'. -/
def sortRoomCard : Claim7 := { stood := { row := sortRoomRow, standIns := [], harness := (true, "dbacd3a8d13254ac1957ee67f0bdd0018415c5e763bf126cd83b4ea6e8a3393c"), looks := false }, kinds := [], alts := [], laidByText := true, laidKinds := [.data, .pinned], laidTests := true, laidLooks := .later }
def SortRoomCardSaid : Prop := Claim7.holds Tryz.pinned (.plain (OpenSpec.ofChange sortRoomSpec)) sortRoomCard

/-- THE TIED CARD OF 'boscagelaw16.SortMerges'. -/
def sortMergesCard : Claim7 := { stood := { row := sortMergesRow, standIns := [], harness := (true, "dbacd3a8d13254ac1957ee67f0bdd0018415c5e763bf126cd83b4ea6e8a3393c"), looks := false }, kinds := [], alts := [], laidByText := true, laidKinds := [.data, .pinned], laidTests := true, laidLooks := .later }
def SortMergesCardSaid : Prop := Claim7.holds Tryz.pinned (.plain (OpenSpec.ofChange sortMergesSpec)) sortMergesCard

/-- THE SECOND FORM's CARD OF 'boscagelaw16.SortRows'. -/
def sortRowsUptoCard : Claim7 := { stood := { row := sortRowsUptoRow, standIns := [], harness := (true, "dbacd3a8d13254ac1957ee67f0bdd0018415c5e763bf126cd83b4ea6e8a3393c"), looks := false }, kinds := [], alts := [], laidByText := true, laidKinds := [.data, .pinned], laidTests := true, laidLooks := .later }
def SortRowsUptoCardSaid : Prop := Claim7.holds Tryz.pinned (.plain (OpenSpec.upto sortRowsSpec)) sortRowsUptoCard

/-- THE SECOND FORM's CARD OF 'boscagelaw16.SortPasses'. -/
def sortPassesUptoCard : Claim7 := { stood := { row := sortPassesUptoRow, standIns := [], harness := (true, "dbacd3a8d13254ac1957ee67f0bdd0018415c5e763bf126cd83b4ea6e8a3393c"), looks := false }, kinds := [], alts := [], laidByText := true, laidKinds := [.data, .pinned], laidTests := true, laidLooks := .later }
def SortPassesUptoCardSaid : Prop := Claim7.holds Tryz.pinned (.plain (OpenSpec.upto sortPassesSpec)) sortPassesUptoCard

/-- THE SECOND FORM's CARD OF 'boscagelaw16.SortSame'. -/
def sortSameUptoCard : Claim7 := { stood := { row := sortSameUptoRow, standIns := [], harness := (true, "dbacd3a8d13254ac1957ee67f0bdd0018415c5e763bf126cd83b4ea6e8a3393c"), looks := false }, kinds := [], alts := [], laidByText := true, laidKinds := [.data, .pinned], laidTests := true, laidLooks := .later }
def SortSameUptoCardSaid : Prop := Claim7.holds Tryz.pinned (.plain (OpenSpec.upto sortSameSpec)) sortSameUptoCard

/-- THE SECOND FORM's CARD OF 'boscagelaw16.SortRoom'. -/
def sortRoomUptoCard : Claim7 := { stood := { row := sortRoomUptoRow, standIns := [], harness := (true, "dbacd3a8d13254ac1957ee67f0bdd0018415c5e763bf126cd83b4ea6e8a3393c"), looks := false }, kinds := [], alts := [], laidByText := true, laidKinds := [.data, .pinned], laidTests := true, laidLooks := .later }
def SortRoomUptoCardSaid : Prop := Claim7.holds Tryz.pinned (.plain (OpenSpec.upto sortRoomSpec)) sortRoomUptoCard

/-- THE SECOND FORM's CARD OF 'boscagelaw16.SortMerges'. -/
def sortMergesUptoCard : Claim7 := { stood := { row := sortMergesUptoRow, standIns := [], harness := (true, "dbacd3a8d13254ac1957ee67f0bdd0018415c5e763bf126cd83b4ea6e8a3393c"), looks := false }, kinds := [], alts := [], laidByText := true, laidKinds := [.data, .pinned], laidTests := true, laidLooks := .later }
def SortMergesUptoCardSaid : Prop := Claim7.holds Tryz.pinned (.plain (OpenSpec.upto sortMergesSpec)) sortMergesUptoCard
end Rows
end Go.Proofs.YtimjepimjfcalaaGreatDoor
