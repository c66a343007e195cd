/-
  DERIVED. GIVEN WITH THE SEED: THE CARDS: each row of YtjknofiaacdgfaaGreatDoorRows.lean that lists a variable, with what it lists TIED to the program's text (the seventh form; the later family's looks); each row that meets fmt, with fmt's text TOLD by the authors' own Lean function (tested against real Go, not proved from fmt's source: count such statements apart). THE CARD IS WHAT COUNTS. Prove the row's statement (the work); the ties are given (YtjknofiaacdgfaaGreatDoorTie.lean); close each card by the builder's one call (the guide's Derived/Test/ToyasCard.lean, 'card_holds'). Laid BY PROGRAM, IN A SANDBOX (cutbox-door.mjs). By AI agents, Wed Nov 11 2026. No macro, syntax, notation, axiom, sorry.
-/
import Derived.Test.YtjknofiaacdgfaaGreatDoorRows
import GoSem.ClaimSeven
namespace Go.Proofs.YtjknofiaacdgfaaGreatDoor
namespace Rows

/-- THE TIED CARD OF 'rostrumlaw06.AriesLocks'. -/
def ariesLocksCard : Claim7 := { stood := { row := ariesLocksRow, standIns := [], harness := (true, "ea55a7135be53869aab2e5ea4a4e2099d92dcceace918d1560d88e53f3ac4d0d"), looks := false }, kinds := [], alts := [], laidByText := true, laidKinds := [.data, .data, .pinned], laidTests := true, laidLooks := .later }
def AriesLocksCardSaid : Prop := Claim7.holds Tryz.pinned (.plain (OpenSpec.ofChange ariesLocksSpec)) ariesLocksCard

/-- THE TIED CARD OF 'rostrumlaw06.AriesNobody'. -/
def ariesNobodyCard : Claim7 := { stood := { row := ariesNobodyRow, standIns := [], harness := (true, "ea55a7135be53869aab2e5ea4a4e2099d92dcceace918d1560d88e53f3ac4d0d"), looks := false }, kinds := [], alts := [], laidByText := true, laidKinds := [.data, .data, .pinned], laidTests := true, laidLooks := .later }
def AriesNobodyCardSaid : Prop := Claim7.holds Tryz.pinned (.plain (OpenSpec.ofChange ariesNobodySpec)) ariesNobodyCard

/-- THE TIED CARD OF 'rostrumlaw07.BtreeRange'. -/
def btreeRangeCard : Claim7 := { stood := { row := btreeRangeRow, standIns := [], harness := (true, "ea55a7135be53869aab2e5ea4a4e2099d92dcceace918d1560d88e53f3ac4d0d"), looks := false }, kinds := [], alts := [], laidByText := true, laidKinds := [.data, .data, .pinned], laidTests := true, laidLooks := .later }
def BtreeRangeCardSaid : Prop := Claim7.holds Tryz.pinned (.plain (OpenSpec.ofChange btreeRangeSpec)) btreeRangeCard

/-- THE TIED CARD OF 'rostrumlaw07.BtreeMap'. -/
def btreeMapCard : Claim7 := { stood := { row := btreeMapRow, standIns := [], harness := (true, "ea55a7135be53869aab2e5ea4a4e2099d92dcceace918d1560d88e53f3ac4d0d"), looks := false }, kinds := [], alts := [], laidByText := true, laidKinds := [.data, .data, .pinned], laidTests := true, laidLooks := .later }
def BtreeMapCardSaid : Prop := Claim7.holds Tryz.pinned (.plain (OpenSpec.ofChange btreeMapSpec)) btreeMapCard

/-- THE TIED CARD OF 'rostrumlaw07.BtreeNobody'. -/
def btreeNobodyCard : Claim7 := { stood := { row := btreeNobodyRow, standIns := [], harness := (true, "ea55a7135be53869aab2e5ea4a4e2099d92dcceace918d1560d88e53f3ac4d0d"), looks := false }, kinds := [], alts := [], laidByText := true, laidKinds := [.data, .data, .pinned], laidTests := true, laidLooks := .later }
def BtreeNobodyCardSaid : Prop := Claim7.holds Tryz.pinned (.plain (OpenSpec.ofChange btreeNobodySpec)) btreeNobodyCard

/-- THE SECOND FORM's CARD OF 'rostrumlaw06.AriesLocks'. -/
def ariesLocksUptoCard : Claim7 := { stood := { row := ariesLocksUptoRow, standIns := [], harness := (true, "ea55a7135be53869aab2e5ea4a4e2099d92dcceace918d1560d88e53f3ac4d0d"), looks := false }, kinds := [], alts := [], laidByText := true, laidKinds := [.data, .data, .pinned], laidTests := true, laidLooks := .later }
def AriesLocksUptoCardSaid : Prop := Claim7.holds Tryz.pinned (.plain (OpenSpec.upto ariesLocksSpec)) ariesLocksUptoCard

/-- THE SECOND FORM's CARD OF 'rostrumlaw06.AriesNobody'. -/
def ariesNobodyUptoCard : Claim7 := { stood := { row := ariesNobodyUptoRow, standIns := [], harness := (true, "ea55a7135be53869aab2e5ea4a4e2099d92dcceace918d1560d88e53f3ac4d0d"), looks := false }, kinds := [], alts := [], laidByText := true, laidKinds := [.data, .data, .pinned], laidTests := true, laidLooks := .later }
def AriesNobodyUptoCardSaid : Prop := Claim7.holds Tryz.pinned (.plain (OpenSpec.upto ariesNobodySpec)) ariesNobodyUptoCard

/-- THE SECOND FORM's CARD OF 'rostrumlaw07.BtreeRange'. -/
def btreeRangeUptoCard : Claim7 := { stood := { row := btreeRangeUptoRow, standIns := [], harness := (true, "ea55a7135be53869aab2e5ea4a4e2099d92dcceace918d1560d88e53f3ac4d0d"), looks := false }, kinds := [], alts := [], laidByText := true, laidKinds := [.data, .data, .pinned], laidTests := true, laidLooks := .later }
def BtreeRangeUptoCardSaid : Prop := Claim7.holds Tryz.pinned (.plain (OpenSpec.upto btreeRangeSpec)) btreeRangeUptoCard

/-- THE SECOND FORM's CARD OF 'rostrumlaw07.BtreeMap'. -/
def btreeMapUptoCard : Claim7 := { stood := { row := btreeMapUptoRow, standIns := [], harness := (true, "ea55a7135be53869aab2e5ea4a4e2099d92dcceace918d1560d88e53f3ac4d0d"), looks := false }, kinds := [], alts := [], laidByText := true, laidKinds := [.data, .data, .pinned], laidTests := true, laidLooks := .later }
def BtreeMapUptoCardSaid : Prop := Claim7.holds Tryz.pinned (.plain (OpenSpec.upto btreeMapSpec)) btreeMapUptoCard

/-- THE SECOND FORM's CARD OF 'rostrumlaw07.BtreeNobody'. -/
def btreeNobodyUptoCard : Claim7 := { stood := { row := btreeNobodyUptoRow, standIns := [], harness := (true, "ea55a7135be53869aab2e5ea4a4e2099d92dcceace918d1560d88e53f3ac4d0d"), looks := false }, kinds := [], alts := [], laidByText := true, laidKinds := [.data, .data, .pinned], laidTests := true, laidLooks := .later }
def BtreeNobodyUptoCardSaid : Prop := Claim7.holds Tryz.pinned (.plain (OpenSpec.upto btreeNobodySpec)) btreeNobodyUptoCard
end Rows
end Go.Proofs.YtjknofiaacdgfaaGreatDoor
