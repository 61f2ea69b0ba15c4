/-
  DERIVED. GIVEN WITH THE SEED: THE CARDS: each row of YtfonajakaimnoaaDoorRows.lean that lists a variable, with what it lists TIED to the program's text (the seventh form; the later family's looks); each row that meets fmt, with fmt's text TOLD by the authors' own Lean function (tested against real Go, not proved from fmt's source: count such statements apart). THE CARD IS WHAT COUNTS. Prove the row's statement (the work); the ties are given (YtfonajakaimnoaaDoorTie.lean); close each card by the builder's one call (the guide's Derived/Test/ToyasCard.lean, 'card_holds'). Laid BY PROGRAM, IN A SANDBOX (cutbox-door.mjs). By AI agents, Wed Nov 11 2026. No macro, syntax, notation, axiom, sorry.
-/
import Derived.Test.YtfonajakaimnoaaDoorRows
import GoSem.ClaimSeven
namespace Go.Proofs.YtfonajakaimnoaaDoor
namespace Rows

/-- THE TIED CARD OF 'caesuralaw13.MinimalApart'. -/
def minimalApartCard : Claim7 := { stood := { row := minimalApartRow, standIns := [], harness := (true, "235ee8bf7d290db059bcc9332fed207d2bf705055d2fa2f83f2e9ec768c9d8eb"), looks := true }, kinds := [], alts := [], laidByText := true, laidKinds := [.sentinel, .sentinel, .sentinel, .sentinel, .sentinel, .sentinel, .sentinel, .sentinel, .sentinel, .sentinel, .sentinel], laidTests := true, laidLooks := .later }
def MinimalApartCardSaid : Prop := Claim7.holds Tryd.pinned (.plain (OpenSpec.ofChange minimalApartSpec)) minimalApartCard

/-- THE TIED CARD OF 'caesuralaw11.PlacesReads'. -/
def placesReadsCard : Claim7 := { stood := { row := placesReadsRow, standIns := [], harness := (true, "235ee8bf7d290db059bcc9332fed207d2bf705055d2fa2f83f2e9ec768c9d8eb"), looks := true }, kinds := [], alts := [], laidByText := true, laidKinds := [.sentinel, .sentinel, .sentinel, .sentinel, .sentinel, .sentinel, .sentinel, .sentinel, .sentinel, .sentinel, .sentinel], laidTests := true, laidLooks := .later }
def PlacesReadsCardSaid : Prop := Claim7.holds Tryd.pinned (.plain (OpenSpec.ofChange placesReadsSpec)) placesReadsCard

/-- THE TIED CARD OF 'caesuralaw11.PlacesTurn'. -/
def placesTurnCard : Claim7 := { stood := { row := placesTurnRow, standIns := [], harness := (true, "235ee8bf7d290db059bcc9332fed207d2bf705055d2fa2f83f2e9ec768c9d8eb"), looks := true }, kinds := [], alts := [], laidByText := true, laidKinds := [.sentinel, .sentinel], laidTests := true, laidLooks := .later }
def PlacesTurnCardSaid : Prop := Claim7.holds Tryd.pinned (.plain (OpenSpec.ofChange placesTurnSpec)) placesTurnCard

/-- THE TIED CARD OF 'caesuralaw14.PairReads'. -/
def pairReadsCard : Claim7 := { stood := { row := pairReadsRow, standIns := [], harness := (true, "235ee8bf7d290db059bcc9332fed207d2bf705055d2fa2f83f2e9ec768c9d8eb"), looks := true }, kinds := [], alts := [], laidByText := true, laidKinds := [.sentinel, .sentinel, .sentinel, .sentinel, .sentinel, .sentinel, .sentinel, .sentinel, .sentinel, .sentinel, .sentinel], laidTests := true, laidLooks := .later }
def PairReadsCardSaid : Prop := Claim7.holds Tryd.pinned (.plain (OpenSpec.ofChange pairReadsSpec)) pairReadsCard

/-- THE TIED CARD OF 'caesuralaw13.MinimalOf'. -/
def minimalOfCard : Claim7 := { stood := { row := minimalOfRow, standIns := [], harness := (true, "235ee8bf7d290db059bcc9332fed207d2bf705055d2fa2f83f2e9ec768c9d8eb"), looks := true }, kinds := [], alts := [], laidByText := true, laidKinds := [.data, .data, .data, .sentinel, .sentinel, .sentinel, .sentinel, .sentinel, .sentinel, .sentinel, .sentinel, .sentinel, .sentinel, .sentinel], laidTests := true, laidLooks := .later }
def MinimalOfCardSaid : Prop := Claim7.holds Tryd.pinned (.plain (OpenSpec.ofChange minimalOfSpec)) minimalOfCard

/-- THE TIED CARD OF 'caesuralaw13.MinimalSays'. -/
def minimalSaysCard : Claim7 := { stood := { row := minimalSaysRow, standIns := [], harness := (true, "235ee8bf7d290db059bcc9332fed207d2bf705055d2fa2f83f2e9ec768c9d8eb"), looks := true }, kinds := [], alts := [], laidByText := true, laidKinds := [.data, .data, .data, .sentinel, .sentinel, .sentinel, .sentinel, .sentinel, .sentinel, .sentinel, .sentinel, .sentinel, .sentinel, .sentinel], laidTests := true, laidLooks := .later }
def MinimalSaysCardSaid : Prop := Claim7.holds Tryd.pinned (.plain (OpenSpec.ofChange minimalSaysSpec)) minimalSaysCard

/-- THE TIED CARD OF 'caesuralaw13.MinimalNew'. -/
def minimalNewCard : Claim7 := { stood := { row := minimalNewRow, standIns := [], harness := (true, "235ee8bf7d290db059bcc9332fed207d2bf705055d2fa2f83f2e9ec768c9d8eb"), looks := true }, kinds := [], alts := [], laidByText := true, laidKinds := [.data, .data, .data, .sentinel], laidTests := true, laidLooks := .later }
def MinimalNewCardSaid : Prop := Claim7.holds Tryd.pinned (.plain (OpenSpec.ofChange minimalNewSpec)) minimalNewCard

/-- THE TIED CARD OF 'caesuralaw13.MinimalLeast'. -/
def minimalLeastCard : Claim7 := { stood := { row := minimalLeastRow, standIns := [], harness := (true, "235ee8bf7d290db059bcc9332fed207d2bf705055d2fa2f83f2e9ec768c9d8eb"), looks := true }, kinds := [], alts := [], laidByText := true, laidKinds := [.data, .data, .data, .sentinel], laidTests := true, laidLooks := .later }
def MinimalLeastCardSaid : Prop := Claim7.holds Tryd.pinned (.plain (OpenSpec.ofChange minimalLeastSpec)) minimalLeastCard

/-- THE TIED CARD OF 'caesuralaw13.MinimalOne'. -/
def minimalOneCard : Claim7 := { stood := { row := minimalOneRow, standIns := [], harness := (true, "235ee8bf7d290db059bcc9332fed207d2bf705055d2fa2f83f2e9ec768c9d8eb"), looks := true }, kinds := [], alts := [], laidByText := true, laidKinds := [.data, .data, .data, .sentinel], laidTests := true, laidLooks := .later }
def MinimalOneCardSaid : Prop := Claim7.holds Tryd.pinned (.plain (OpenSpec.ofChange minimalOneSpec)) minimalOneCard

/-- THE SECOND FORM's CARD OF 'caesuralaw13.MinimalApart'. -/
def minimalApartUptoCard : Claim7 := { stood := { row := minimalApartUptoRow, standIns := [], harness := (true, "235ee8bf7d290db059bcc9332fed207d2bf705055d2fa2f83f2e9ec768c9d8eb"), looks := true }, kinds := [], alts := [], laidByText := true, laidKinds := [.sentinel, .sentinel, .sentinel, .sentinel, .sentinel, .sentinel, .sentinel, .sentinel, .sentinel, .sentinel, .sentinel], laidTests := true, laidLooks := .later }
def MinimalApartUptoCardSaid : Prop := Claim7.holds Tryd.pinned (.plain (OpenSpec.upto minimalApartSpec)) minimalApartUptoCard

/-- THE SECOND FORM's CARD OF 'caesuralaw11.PlacesReads'. -/
def placesReadsUptoCard : Claim7 := { stood := { row := placesReadsUptoRow, standIns := [], harness := (true, "235ee8bf7d290db059bcc9332fed207d2bf705055d2fa2f83f2e9ec768c9d8eb"), looks := true }, kinds := [], alts := [], laidByText := true, laidKinds := [.sentinel, .sentinel, .sentinel, .sentinel, .sentinel, .sentinel, .sentinel, .sentinel, .sentinel, .sentinel, .sentinel], laidTests := true, laidLooks := .later }
def PlacesReadsUptoCardSaid : Prop := Claim7.holds Tryd.pinned (.plain (OpenSpec.upto placesReadsSpec)) placesReadsUptoCard

/-- THE SECOND FORM's CARD OF 'caesuralaw11.PlacesTurn'. -/
def placesTurnUptoCard : Claim7 := { stood := { row := placesTurnUptoRow, standIns := [], harness := (true, "235ee8bf7d290db059bcc9332fed207d2bf705055d2fa2f83f2e9ec768c9d8eb"), looks := true }, kinds := [], alts := [], laidByText := true, laidKinds := [.sentinel, .sentinel], laidTests := true, laidLooks := .later }
def PlacesTurnUptoCardSaid : Prop := Claim7.holds Tryd.pinned (.plain (OpenSpec.upto placesTurnSpec)) placesTurnUptoCard

/-- THE SECOND FORM's CARD OF 'caesuralaw14.PairReads'. -/
def pairReadsUptoCard : Claim7 := { stood := { row := pairReadsUptoRow, standIns := [], harness := (true, "235ee8bf7d290db059bcc9332fed207d2bf705055d2fa2f83f2e9ec768c9d8eb"), looks := true }, kinds := [], alts := [], laidByText := true, laidKinds := [.sentinel, .sentinel, .sentinel, .sentinel, .sentinel, .sentinel, .sentinel, .sentinel, .sentinel, .sentinel, .sentinel], laidTests := true, laidLooks := .later }
def PairReadsUptoCardSaid : Prop := Claim7.holds Tryd.pinned (.plain (OpenSpec.upto pairReadsSpec)) pairReadsUptoCard

/-- THE SECOND FORM's CARD OF 'caesuralaw13.MinimalOf'. -/
def minimalOfUptoCard : Claim7 := { stood := { row := minimalOfUptoRow, standIns := [], harness := (true, "235ee8bf7d290db059bcc9332fed207d2bf705055d2fa2f83f2e9ec768c9d8eb"), looks := true }, kinds := [], alts := [], laidByText := true, laidKinds := [.data, .data, .data, .sentinel, .sentinel, .sentinel, .sentinel, .sentinel, .sentinel, .sentinel, .sentinel, .sentinel, .sentinel, .sentinel], laidTests := true, laidLooks := .later }
def MinimalOfUptoCardSaid : Prop := Claim7.holds Tryd.pinned (.plain (OpenSpec.upto minimalOfSpec)) minimalOfUptoCard

/-- THE SECOND FORM's CARD OF 'caesuralaw13.MinimalSays'. -/
def minimalSaysUptoCard : Claim7 := { stood := { row := minimalSaysUptoRow, standIns := [], harness := (true, "235ee8bf7d290db059bcc9332fed207d2bf705055d2fa2f83f2e9ec768c9d8eb"), looks := true }, kinds := [], alts := [], laidByText := true, laidKinds := [.data, .data, .data, .sentinel, .sentinel, .sentinel, .sentinel, .sentinel, .sentinel, .sentinel, .sentinel, .sentinel, .sentinel, .sentinel], laidTests := true, laidLooks := .later }
def MinimalSaysUptoCardSaid : Prop := Claim7.holds Tryd.pinned (.plain (OpenSpec.upto minimalSaysSpec)) minimalSaysUptoCard

/-- THE SECOND FORM's CARD OF 'caesuralaw13.MinimalNew'. -/
def minimalNewUptoCard : Claim7 := { stood := { row := minimalNewUptoRow, standIns := [], harness := (true, "235ee8bf7d290db059bcc9332fed207d2bf705055d2fa2f83f2e9ec768c9d8eb"), looks := true }, kinds := [], alts := [], laidByText := true, laidKinds := [.data, .data, .data, .sentinel], laidTests := true, laidLooks := .later }
def MinimalNewUptoCardSaid : Prop := Claim7.holds Tryd.pinned (.plain (OpenSpec.upto minimalNewSpec)) minimalNewUptoCard

/-- THE SECOND FORM's CARD OF 'caesuralaw13.MinimalLeast'. -/
def minimalLeastUptoCard : Claim7 := { stood := { row := minimalLeastUptoRow, standIns := [], harness := (true, "235ee8bf7d290db059bcc9332fed207d2bf705055d2fa2f83f2e9ec768c9d8eb"), looks := true }, kinds := [], alts := [], laidByText := true, laidKinds := [.data, .data, .data, .sentinel], laidTests := true, laidLooks := .later }
def MinimalLeastUptoCardSaid : Prop := Claim7.holds Tryd.pinned (.plain (OpenSpec.upto minimalLeastSpec)) minimalLeastUptoCard

/-- THE SECOND FORM's CARD OF 'caesuralaw13.MinimalOne'. -/
def minimalOneUptoCard : Claim7 := { stood := { row := minimalOneUptoRow, standIns := [], harness := (true, "235ee8bf7d290db059bcc9332fed207d2bf705055d2fa2f83f2e9ec768c9d8eb"), looks := true }, kinds := [], alts := [], laidByText := true, laidKinds := [.data, .data, .data, .sentinel], laidTests := true, laidLooks := .later }
def MinimalOneUptoCardSaid : Prop := Claim7.holds Tryd.pinned (.plain (OpenSpec.upto minimalOneSpec)) minimalOneUptoCard
end Rows
end Go.Proofs.YtfonajakaimnoaaDoor
