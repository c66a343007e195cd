/-
  DERIVED. GIVEN WITH THE SEED: THE CARDS: each row of YtheeomjfpnijbaaGreatDoorRows.lean that lists a variable, with what it lists TIED to the program's text (the seventh form; the later family's looks); each row that meets fmt, with fmt's text TOLD by the authors' own Lean function (tested against real Go, not proved from fmt's source: count such statements apart). THE CARD IS WHAT COUNTS. Prove the row's statement (the work); the ties are given (YtheeomjfpnijbaaGreatDoorTie.lean); close each card by the builder's one call (the guide's Derived/Test/ToyasCard.lean, 'card_holds'). Laid BY PROGRAM, IN A SANDBOX (cutbox-door.mjs). By AI agents, Wed Nov 11 2026. No macro, syntax, notation, axiom, sorry.
-/
import Derived.Test.YtheeomjfpnijbaaGreatDoorRows
import GoSem.ClaimSeven
namespace Go.Proofs.YtheeomjfpnijbaaGreatDoor
namespace Rows

/-- THE TIED CARD OF 'rostrumlaw07.BtreeRange'. -/
def btreeRangeCard : Claim7 := { stood := { row := btreeRangeRow, standIns := [], harness := (true, "160493a0f01c8aab021dc4139cfe3248019225cf6e37df9ea5826e71288ba1d4"), looks := false }, kinds := [], alts := [], laidByText := true, laidKinds := [.data, .data, .pinned], laidTests := true, laidLooks := .later }
def BtreeRangeCardSaid : Prop := Claim7.holds Tryz.pinned (.plain (OpenSpec.ofChange btreeRangeSpec)) btreeRangeCard

/-- THE TIED CARD OF 'rostrumlaw07.BtreeMap'. -/
def btreeMapCard : Claim7 := { stood := { row := btreeMapRow, standIns := [], harness := (true, "160493a0f01c8aab021dc4139cfe3248019225cf6e37df9ea5826e71288ba1d4"), looks := false }, kinds := [], alts := [], laidByText := true, laidKinds := [.data, .data, .pinned], laidTests := true, laidLooks := .later }
def BtreeMapCardSaid : Prop := Claim7.holds Tryz.pinned (.plain (OpenSpec.ofChange btreeMapSpec)) btreeMapCard

/-- THE TIED CARD OF 'rostrumlaw07.BtreeNobody'. -/
def btreeNobodyCard : Claim7 := { stood := { row := btreeNobodyRow, standIns := [], harness := (true, "160493a0f01c8aab021dc4139cfe3248019225cf6e37df9ea5826e71288ba1d4"), looks := false }, kinds := [], alts := [], laidByText := true, laidKinds := [.data, .data, .pinned], laidTests := true, laidLooks := .later }
def BtreeNobodyCardSaid : Prop := Claim7.holds Tryz.pinned (.plain (OpenSpec.ofChange btreeNobodySpec)) btreeNobodyCard

/-- THE TIED CARD OF 'rostrumlaw08.StoreNobody'. -/
def storeNobodyCard : Claim7 := { stood := { row := storeNobodyRow, standIns := [], harness := (true, "160493a0f01c8aab021dc4139cfe3248019225cf6e37df9ea5826e71288ba1d4"), looks := false }, kinds := [], alts := [], laidByText := true, laidKinds := [.data, .data, .pinned], laidTests := true, laidLooks := .later }
def StoreNobodyCardSaid : Prop := Claim7.holds Tryz.pinned (.plain (OpenSpec.ofChange storeNobodySpec)) storeNobodyCard

/-- THE TIED CARD OF 'rostrumlaw08.StoreRoom'. -/
def storeRoomCard : Claim7 := { stood := { row := storeRoomRow, standIns := [], harness := (true, "160493a0f01c8aab021dc4139cfe3248019225cf6e37df9ea5826e71288ba1d4"), looks := false }, kinds := [], alts := [], laidByText := true, laidKinds := [.data, .data, .pinned], laidTests := true, laidLooks := .later }
def StoreRoomCardSaid : Prop := Claim7.holds Tryz.pinned (.plain (OpenSpec.ofChange storeRoomSpec)) storeRoomCard

/-- THE TIED CARD OF 'rostrumlaw08.StoreMap'. -/
def storeMapCard : Claim7 := { stood := { row := storeMapRow, standIns := [], harness := (true, "160493a0f01c8aab021dc4139cfe3248019225cf6e37df9ea5826e71288ba1d4"), looks := false }, kinds := [], alts := [], laidByText := true, laidKinds := [.data, .data, .pinned], laidTests := true, laidLooks := .later }
def StoreMapCardSaid : Prop := Claim7.holds Tryz.pinned (.plain (OpenSpec.ofChange storeMapSpec)) storeMapCard

/-- THE SECOND FORM's CARD OF 'rostrumlaw07.BtreeRange'. -/
def btreeRangeUptoCard : Claim7 := { stood := { row := btreeRangeUptoRow, standIns := [], harness := (true, "160493a0f01c8aab021dc4139cfe3248019225cf6e37df9ea5826e71288ba1d4"), looks := false }, kinds := [], alts := [], laidByText := true, laidKinds := [.data, .data, .pinned], laidTests := true, laidLooks := .later }
def BtreeRangeUptoCardSaid : Prop := Claim7.holds Tryz.pinned (.plain (OpenSpec.upto btreeRangeSpec)) btreeRangeUptoCard

/-- THE SECOND FORM's CARD OF 'rostrumlaw07.BtreeMap'. -/
def btreeMapUptoCard : Claim7 := { stood := { row := btreeMapUptoRow, standIns := [], harness := (true, "160493a0f01c8aab021dc4139cfe3248019225cf6e37df9ea5826e71288ba1d4"), looks := false }, kinds := [], alts := [], laidByText := true, laidKinds := [.data, .data, .pinned], laidTests := true, laidLooks := .later }
def BtreeMapUptoCardSaid : Prop := Claim7.holds Tryz.pinned (.plain (OpenSpec.upto btreeMapSpec)) btreeMapUptoCard

/-- THE SECOND FORM's CARD OF 'rostrumlaw07.BtreeNobody'. -/
def btreeNobodyUptoCard : Claim7 := { stood := { row := btreeNobodyUptoRow, standIns := [], harness := (true, "160493a0f01c8aab021dc4139cfe3248019225cf6e37df9ea5826e71288ba1d4"), looks := false }, kinds := [], alts := [], laidByText := true, laidKinds := [.data, .data, .pinned], laidTests := true, laidLooks := .later }
def BtreeNobodyUptoCardSaid : Prop := Claim7.holds Tryz.pinned (.plain (OpenSpec.upto btreeNobodySpec)) btreeNobodyUptoCard

/-- THE SECOND FORM's CARD OF 'rostrumlaw08.StoreNobody'. -/
def storeNobodyUptoCard : Claim7 := { stood := { row := storeNobodyUptoRow, standIns := [], harness := (true, "160493a0f01c8aab021dc4139cfe3248019225cf6e37df9ea5826e71288ba1d4"), looks := false }, kinds := [], alts := [], laidByText := true, laidKinds := [.data, .data, .pinned], laidTests := true, laidLooks := .later }
def StoreNobodyUptoCardSaid : Prop := Claim7.holds Tryz.pinned (.plain (OpenSpec.upto storeNobodySpec)) storeNobodyUptoCard

/-- THE SECOND FORM's CARD OF 'rostrumlaw08.StoreRoom'. -/
def storeRoomUptoCard : Claim7 := { stood := { row := storeRoomUptoRow, standIns := [], harness := (true, "160493a0f01c8aab021dc4139cfe3248019225cf6e37df9ea5826e71288ba1d4"), looks := false }, kinds := [], alts := [], laidByText := true, laidKinds := [.data, .data, .pinned], laidTests := true, laidLooks := .later }
def StoreRoomUptoCardSaid : Prop := Claim7.holds Tryz.pinned (.plain (OpenSpec.upto storeRoomSpec)) storeRoomUptoCard

/-- THE SECOND FORM's CARD OF 'rostrumlaw08.StoreMap'. -/
def storeMapUptoCard : Claim7 := { stood := { row := storeMapUptoRow, standIns := [], harness := (true, "160493a0f01c8aab021dc4139cfe3248019225cf6e37df9ea5826e71288ba1d4"), looks := false }, kinds := [], alts := [], laidByText := true, laidKinds := [.data, .data, .pinned], laidTests := true, laidLooks := .later }
def StoreMapUptoCardSaid : Prop := Claim7.holds Tryz.pinned (.plain (OpenSpec.upto storeMapSpec)) storeMapUptoCard
end Rows
end Go.Proofs.YtheeomjfpnijbaaGreatDoor
