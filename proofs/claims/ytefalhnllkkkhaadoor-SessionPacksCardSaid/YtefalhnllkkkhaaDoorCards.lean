/-
  DERIVED. GIVEN WITH THE SEED: THE CARDS: each row of YtefalhnllkkkhaaDoorRows.lean that lists a variable, with what it lists TIED to the program's text (the seventh form; the later family's looks); each row that meets fmt, with fmt's text TOLD by the authors' own Lean function (tested against real Go, not proved from fmt's source: count such statements apart). THE CARD IS WHAT COUNTS. Prove the row's statement (the work); the ties are given (YtefalhnllkkkhaaDoorTie.lean); close each card by the builder's one call (the guide's Derived/Test/ToyasCard.lean, 'card_holds'). Laid BY PROGRAM, IN A SANDBOX (cutbox-door.mjs). By AI agents, Wed Nov 11 2026. No macro, syntax, notation, axiom, sorry.
-/
import Derived.Test.YtefalhnllkkkhaaDoorRows
import GoSem.ClaimSeven
namespace Go.Proofs.YtefalhnllkkkhaaDoor
namespace Rows

/-- THE TIED CARD OF 'rostrumlaw04.PageSectors'. -/
def pageSectorsCard : Claim7 := { stood := { row := pageSectorsRow, standIns := [], harness := (true, "487d1eb9695cf26eab9bfc41f5fce694b8f6bc954c1ce6f5b3b87161d6c5d5a2"), looks := false }, kinds := [], alts := [], laidByText := true, laidKinds := [.data, .data, .pinned], laidTests := true, laidLooks := .later }
def PageSectorsCardSaid : Prop := Claim7.holds Tryd.pinned (.plain (OpenSpec.ofChange pageSectorsSpec)) pageSectorsCard

/-- THE TIED CARD OF 'rostrumlaw04.PageBack'. -/
def pageBackCard : Claim7 := { stood := { row := pageBackRow, standIns := [], harness := (true, "487d1eb9695cf26eab9bfc41f5fce694b8f6bc954c1ce6f5b3b87161d6c5d5a2"), looks := false }, kinds := [], alts := [], laidByText := true, laidKinds := [.data, .data, .pinned], laidTests := true, laidLooks := .later }
def PageBackCardSaid : Prop := Claim7.holds Tryd.pinned (.plain (OpenSpec.ofChange pageBackSpec)) pageBackCard

/-- THE TIED CARD OF 'rostrumlaw04.PageTurned'. -/
def pageTurnedCard : Claim7 := { stood := { row := pageTurnedRow, standIns := [], harness := (true, "487d1eb9695cf26eab9bfc41f5fce694b8f6bc954c1ce6f5b3b87161d6c5d5a2"), looks := false }, kinds := [], alts := [], laidByText := true, laidKinds := [.data, .data, .pinned], laidTests := true, laidLooks := .later }
def PageTurnedCardSaid : Prop := Claim7.holds Tryd.pinned (.plain (OpenSpec.ofChange pageTurnedSpec)) pageTurnedCard

/-- THE TIED CARD OF 'rostrumlaw20.SessionPacks'. -/
def sessionPacksCard : Claim7 := { stood := { row := sessionPacksRow, standIns := [], harness := (true, "487d1eb9695cf26eab9bfc41f5fce694b8f6bc954c1ce6f5b3b87161d6c5d5a2"), looks := false }, kinds := [], alts := [], laidByText := true, laidKinds := [.data, .data, .data, .data], laidTests := true, laidLooks := .later }
def SessionPacksCardSaid : Prop := Claim7.holds Tryd.pinned (.plain (OpenSpec.ofChange sessionPacksSpec)) sessionPacksCard

/-- THE SECOND FORM's CARD OF 'rostrumlaw04.PageSectors'. -/
def pageSectorsUptoCard : Claim7 := { stood := { row := pageSectorsUptoRow, standIns := [], harness := (true, "487d1eb9695cf26eab9bfc41f5fce694b8f6bc954c1ce6f5b3b87161d6c5d5a2"), looks := false }, kinds := [], alts := [], laidByText := true, laidKinds := [.data, .data, .pinned], laidTests := true, laidLooks := .later }
def PageSectorsUptoCardSaid : Prop := Claim7.holds Tryd.pinned (.plain (OpenSpec.upto pageSectorsSpec)) pageSectorsUptoCard

/-- THE SECOND FORM's CARD OF 'rostrumlaw04.PageBack'. -/
def pageBackUptoCard : Claim7 := { stood := { row := pageBackUptoRow, standIns := [], harness := (true, "487d1eb9695cf26eab9bfc41f5fce694b8f6bc954c1ce6f5b3b87161d6c5d5a2"), looks := false }, kinds := [], alts := [], laidByText := true, laidKinds := [.data, .data, .pinned], laidTests := true, laidLooks := .later }
def PageBackUptoCardSaid : Prop := Claim7.holds Tryd.pinned (.plain (OpenSpec.upto pageBackSpec)) pageBackUptoCard

/-- THE SECOND FORM's CARD OF 'rostrumlaw04.PageTurned'. -/
def pageTurnedUptoCard : Claim7 := { stood := { row := pageTurnedUptoRow, standIns := [], harness := (true, "487d1eb9695cf26eab9bfc41f5fce694b8f6bc954c1ce6f5b3b87161d6c5d5a2"), looks := false }, kinds := [], alts := [], laidByText := true, laidKinds := [.data, .data, .pinned], laidTests := true, laidLooks := .later }
def PageTurnedUptoCardSaid : Prop := Claim7.holds Tryd.pinned (.plain (OpenSpec.upto pageTurnedSpec)) pageTurnedUptoCard

/-- THE SECOND FORM's CARD OF 'rostrumlaw20.SessionPacks'. -/
def sessionPacksUptoCard : Claim7 := { stood := { row := sessionPacksUptoRow, standIns := [], harness := (true, "487d1eb9695cf26eab9bfc41f5fce694b8f6bc954c1ce6f5b3b87161d6c5d5a2"), looks := false }, kinds := [], alts := [], laidByText := true, laidKinds := [.data, .data, .data, .data], laidTests := true, laidLooks := .later }
def SessionPacksUptoCardSaid : Prop := Claim7.holds Tryd.pinned (.plain (OpenSpec.upto sessionPacksSpec)) sessionPacksUptoCard
end Rows
end Go.Proofs.YtefalhnllkkkhaaDoor
