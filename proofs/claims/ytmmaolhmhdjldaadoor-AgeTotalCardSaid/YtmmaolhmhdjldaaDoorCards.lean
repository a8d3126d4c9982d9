/-
  DERIVED. GIVEN WITH THE SEED: THE CARDS: each row of YtmmaolhmhdjldaaDoorRows.lean that lists a variable, with what it lists TIED to the program's text (the seventh form; the later family's looks); each row that meets fmt, with fmt's text TOLD by the authors' own Lean function (tested against real Go, not proved from fmt's source: count such statements apart). THE CARD IS WHAT COUNTS. Prove the row's statement (the work); the ties are given (YtmmaolhmhdjldaaDoorTie.lean); close each card by the builder's one call (the guide's Derived/Test/ToyasCard.lean, 'card_holds'). Laid BY PROGRAM, IN A SANDBOX (cutbox-door.mjs). By AI agents, Wed Nov 11 2026. No macro, syntax, notation, axiom, sorry.
-/
import Derived.Test.YtmmaolhmhdjldaaDoorRows
import GoSem.ClaimSeven
namespace Go.Proofs.YtmmaolhmhdjldaaDoor
namespace Rows

/-- THE TIED CARD OF 'bursarlaw02.AgeNext'. -/
def ageNextCard : Claim7 := { stood := { row := ageNextRow, standIns := [], harness := (true, "8dc5df0ab8274fe2ef9dd1d0a91d415ac4f160a8d002ce29a74ba15f64fbce77"), looks := true }, kinds := [], alts := [], laidByText := true, laidKinds := [.data, .data, .data], laidTests := true, laidLooks := .later }
def AgeNextCardSaid : Prop := Claim7.holds Tryd.pinned (.plain (OpenSpec.ofChange ageNextSpec)) ageNextCard

/-- THE TIED CARD OF 'bursarlaw02.AgeTexts'. -/
def ageTextsCard : Claim7 := { stood := { row := ageTextsRow, standIns := [], harness := (true, "8dc5df0ab8274fe2ef9dd1d0a91d415ac4f160a8d002ce29a74ba15f64fbce77"), looks := true }, kinds := [], alts := [], laidByText := true, laidKinds := [.data, .data, .data, .sentinel, .sentinel], laidTests := true, laidLooks := .later }
def AgeTextsCardSaid : Prop := Claim7.holds Tryd.pinned (.plain (OpenSpec.ofChange ageTextsSpec)) ageTextsCard

/-- THE TIED CARD OF 'bursarlaw02.AgeTotal'. -/
def ageTotalCard : Claim7 := { stood := { row := ageTotalRow, standIns := [], harness := (true, "8dc5df0ab8274fe2ef9dd1d0a91d415ac4f160a8d002ce29a74ba15f64fbce77"), looks := true }, kinds := [], alts := [], laidByText := true, laidKinds := [.data, .data, .data], laidTests := true, laidLooks := .later }
def AgeTotalCardSaid : Prop := Claim7.holds Tryd.pinned (.plain (OpenSpec.ofChange ageTotalSpec)) ageTotalCard

/-- THE TIED CARD OF 'bursarlaw02.AgeBack'. -/
def ageBackCard : Claim7 := { stood := { row := ageBackRow, standIns := [], harness := (true, "8dc5df0ab8274fe2ef9dd1d0a91d415ac4f160a8d002ce29a74ba15f64fbce77"), looks := true }, kinds := [], alts := [], laidByText := true, laidKinds := [.data, .data, .data, .sentinel, .sentinel], laidTests := true, laidLooks := .later }
def AgeBackCardSaid : Prop := Claim7.holds Tryd.pinned (.plain (OpenSpec.ofChange ageBackSpec)) ageBackCard

/-- THE SECOND FORM's CARD OF 'bursarlaw02.AgeNext'. -/
def ageNextUptoCard : Claim7 := { stood := { row := ageNextUptoRow, standIns := [], harness := (true, "8dc5df0ab8274fe2ef9dd1d0a91d415ac4f160a8d002ce29a74ba15f64fbce77"), looks := true }, kinds := [], alts := [], laidByText := true, laidKinds := [.data, .data, .data], laidTests := true, laidLooks := .later }
def AgeNextUptoCardSaid : Prop := Claim7.holds Tryd.pinned (.plain (OpenSpec.upto ageNextSpec)) ageNextUptoCard

/-- THE SECOND FORM's CARD OF 'bursarlaw02.AgeTexts'. -/
def ageTextsUptoCard : Claim7 := { stood := { row := ageTextsUptoRow, standIns := [], harness := (true, "8dc5df0ab8274fe2ef9dd1d0a91d415ac4f160a8d002ce29a74ba15f64fbce77"), looks := true }, kinds := [], alts := [], laidByText := true, laidKinds := [.data, .data, .data, .sentinel, .sentinel], laidTests := true, laidLooks := .later }
def AgeTextsUptoCardSaid : Prop := Claim7.holds Tryd.pinned (.plain (OpenSpec.upto ageTextsSpec)) ageTextsUptoCard

/-- THE SECOND FORM's CARD OF 'bursarlaw02.AgeTotal'. -/
def ageTotalUptoCard : Claim7 := { stood := { row := ageTotalUptoRow, standIns := [], harness := (true, "8dc5df0ab8274fe2ef9dd1d0a91d415ac4f160a8d002ce29a74ba15f64fbce77"), looks := true }, kinds := [], alts := [], laidByText := true, laidKinds := [.data, .data, .data], laidTests := true, laidLooks := .later }
def AgeTotalUptoCardSaid : Prop := Claim7.holds Tryd.pinned (.plain (OpenSpec.upto ageTotalSpec)) ageTotalUptoCard

/-- THE SECOND FORM's CARD OF 'bursarlaw02.AgeBack'. -/
def ageBackUptoCard : Claim7 := { stood := { row := ageBackUptoRow, standIns := [], harness := (true, "8dc5df0ab8274fe2ef9dd1d0a91d415ac4f160a8d002ce29a74ba15f64fbce77"), looks := true }, kinds := [], alts := [], laidByText := true, laidKinds := [.data, .data, .data, .sentinel, .sentinel], laidTests := true, laidLooks := .later }
def AgeBackUptoCardSaid : Prop := Claim7.holds Tryd.pinned (.plain (OpenSpec.upto ageBackSpec)) ageBackUptoCard
end Rows
end Go.Proofs.YtmmaolhmhdjldaaDoor
