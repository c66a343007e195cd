/-
  DERIVED. GIVEN WITH THE SEED: THE CARDS: each row of YtefalhnllkkkhaaGreatDoorRows.lean that lists a variable, with what it lists TIED to the program's text (the seventh form; the later family's looks); each row that meets fmt, with fmt's text TOLD by the authors' own Lean function (tested against real Go, not proved from fmt's source: count such statements apart). THE CARD IS WHAT COUNTS. Prove the row's statement (the work); the ties are given (YtefalhnllkkkhaaGreatDoorTie.lean); close each card by the builder's one call (the guide's Derived/Test/ToyasCard.lean, 'card_holds'). Laid BY PROGRAM, IN A SANDBOX (cutbox-door.mjs). By AI agents, Wed Nov 11 2026. No macro, syntax, notation, axiom, sorry.
-/
import Derived.Test.YtefalhnllkkkhaaGreatDoorRows
import GoSem.ClaimSeven
namespace Go.Proofs.YtefalhnllkkkhaaGreatDoor
namespace Rows

/-- THE TIED CARD OF 'rostrumlaw05.PoolWritten'. -/
def poolWrittenCard : Claim7 := { stood := { row := poolWrittenRow, standIns := [], harness := (true, "2aa66abb148195a2cb891b7392177f0f70abd35769284e20e6fd2b937c4f9198"), looks := false }, kinds := [], alts := [], laidByText := true, laidKinds := [.data, .data, .pinned], laidTests := true, laidLooks := .later }
def PoolWrittenCardSaid : Prop := Claim7.holds Tryz.pinned (.plain (OpenSpec.ofChange poolWrittenSpec)) poolWrittenCard

/-- THE TIED CARD OF 'rostrumlaw05.PoolNobody'. -/
def poolNobodyCard : Claim7 := { stood := { row := poolNobodyRow, standIns := [], harness := (true, "2aa66abb148195a2cb891b7392177f0f70abd35769284e20e6fd2b937c4f9198"), looks := false }, kinds := [], alts := [], laidByText := true, laidKinds := [.data, .data, .pinned], laidTests := true, laidLooks := .later }
def PoolNobodyCardSaid : Prop := Claim7.holds Tryz.pinned (.plain (OpenSpec.ofChange poolNobodySpec)) poolNobodyCard

/-- THE TIED CARD OF 'rostrumlaw05.PoolBound'. -/
def poolBoundCard : Claim7 := { stood := { row := poolBoundRow, standIns := [], harness := (true, "2aa66abb148195a2cb891b7392177f0f70abd35769284e20e6fd2b937c4f9198"), looks := false }, kinds := [], alts := [], laidByText := true, laidKinds := [.data, .data, .pinned], laidTests := true, laidLooks := .later }
def PoolBoundCardSaid : Prop := Claim7.holds Tryz.pinned (.plain (OpenSpec.ofChange poolBoundSpec)) poolBoundCard

/-- THE TIED CARD OF 'rostrumlaw05.PoolAhead'. -/
def poolAheadCard : Claim7 := { stood := { row := poolAheadRow, standIns := [], harness := (true, "2aa66abb148195a2cb891b7392177f0f70abd35769284e20e6fd2b937c4f9198"), looks := false }, kinds := [], alts := [], laidByText := true, laidKinds := [.data, .data, .pinned], laidTests := true, laidLooks := .later }
def PoolAheadCardSaid : Prop := Claim7.holds Tryz.pinned (.plain (OpenSpec.ofChange poolAheadSpec)) poolAheadCard

/-- THE SECOND FORM's CARD OF 'rostrumlaw05.PoolWritten'. -/
def poolWrittenUptoCard : Claim7 := { stood := { row := poolWrittenUptoRow, standIns := [], harness := (true, "2aa66abb148195a2cb891b7392177f0f70abd35769284e20e6fd2b937c4f9198"), looks := false }, kinds := [], alts := [], laidByText := true, laidKinds := [.data, .data, .pinned], laidTests := true, laidLooks := .later }
def PoolWrittenUptoCardSaid : Prop := Claim7.holds Tryz.pinned (.plain (OpenSpec.upto poolWrittenSpec)) poolWrittenUptoCard

/-- THE SECOND FORM's CARD OF 'rostrumlaw05.PoolNobody'. -/
def poolNobodyUptoCard : Claim7 := { stood := { row := poolNobodyUptoRow, standIns := [], harness := (true, "2aa66abb148195a2cb891b7392177f0f70abd35769284e20e6fd2b937c4f9198"), looks := false }, kinds := [], alts := [], laidByText := true, laidKinds := [.data, .data, .pinned], laidTests := true, laidLooks := .later }
def PoolNobodyUptoCardSaid : Prop := Claim7.holds Tryz.pinned (.plain (OpenSpec.upto poolNobodySpec)) poolNobodyUptoCard

/-- THE SECOND FORM's CARD OF 'rostrumlaw05.PoolBound'. -/
def poolBoundUptoCard : Claim7 := { stood := { row := poolBoundUptoRow, standIns := [], harness := (true, "2aa66abb148195a2cb891b7392177f0f70abd35769284e20e6fd2b937c4f9198"), looks := false }, kinds := [], alts := [], laidByText := true, laidKinds := [.data, .data, .pinned], laidTests := true, laidLooks := .later }
def PoolBoundUptoCardSaid : Prop := Claim7.holds Tryz.pinned (.plain (OpenSpec.upto poolBoundSpec)) poolBoundUptoCard

/-- THE SECOND FORM's CARD OF 'rostrumlaw05.PoolAhead'. -/
def poolAheadUptoCard : Claim7 := { stood := { row := poolAheadUptoRow, standIns := [], harness := (true, "2aa66abb148195a2cb891b7392177f0f70abd35769284e20e6fd2b937c4f9198"), looks := false }, kinds := [], alts := [], laidByText := true, laidKinds := [.data, .data, .pinned], laidTests := true, laidLooks := .later }
def PoolAheadUptoCardSaid : Prop := Claim7.holds Tryz.pinned (.plain (OpenSpec.upto poolAheadSpec)) poolAheadUptoCard
end Rows
end Go.Proofs.YtefalhnllkkkhaaGreatDoor
