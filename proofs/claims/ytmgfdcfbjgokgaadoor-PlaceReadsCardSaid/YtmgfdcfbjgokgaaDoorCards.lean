/-
  DERIVED. GIVEN WITH THE SEED: THE CARDS: each row of YtmgfdcfbjgokgaaDoorRows.lean that lists a variable, with what it lists TIED to the program's text (the seventh form; the later family's looks); each row that meets fmt, with fmt's text TOLD by the authors' own Lean function (tested against real Go, not proved from fmt's source: count such statements apart). THE CARD IS WHAT COUNTS. Prove the row's statement (the work); the ties are given (YtmgfdcfbjgokgaaDoorTie.lean); close each card by the builder's one call (the guide's Derived/Test/ToyasCard.lean, 'card_holds'). Laid BY PROGRAM, IN A SANDBOX (cutbox-door.mjs). By AI agents, Wed Nov 11 2026. No macro, syntax, notation, axiom, sorry.
-/
import Derived.Test.YtmgfdcfbjgokgaaDoorRows
import GoSem.ClaimSeven
namespace Go.Proofs.YtmgfdcfbjgokgaaDoor
namespace Rows

/-- THE TIED CARD OF 'erratalaw03.PlaceTexts'. -/
def placeTextsCard : Claim7 := { stood := { row := placeTextsRow, standIns := [], harness := (true, "f07335a018d55dc7c57fbabfaf11b8ce569e876afa6a867f8bf018eeeb022f9b"), looks := true }, kinds := [], alts := [], laidByText := true, laidKinds := [.data, .data, .data, .data, .sentinel, .sentinel, .pinned], laidTests := true, laidLooks := .later }
def PlaceTextsCardSaid : Prop := Claim7.holds Tryd.pinned (.plain (OpenSpec.ofChange placeTextsSpec)) placeTextsCard

/-- THE TIED CARD OF 'erratalaw03.PlaceUnfolds'. -/
def placeUnfoldsCard : Claim7 := { stood := { row := placeUnfoldsRow, standIns := [], harness := (true, "f07335a018d55dc7c57fbabfaf11b8ce569e876afa6a867f8bf018eeeb022f9b"), looks := true }, kinds := [], alts := [], laidByText := true, laidKinds := [.data, .data, .data, .data, .sentinel, .sentinel, .pinned], laidTests := true, laidLooks := .later }
def PlaceUnfoldsCardSaid : Prop := Claim7.holds Tryd.pinned (.plain (OpenSpec.ofChange placeUnfoldsSpec)) placeUnfoldsCard

/-- THE TIED CARD OF 'erratalaw03.PlaceTrims'. -/
def placeTrimsCard : Claim7 := { stood := { row := placeTrimsRow, standIns := [], harness := (true, "f07335a018d55dc7c57fbabfaf11b8ce569e876afa6a867f8bf018eeeb022f9b"), looks := true }, kinds := [], alts := [], laidByText := true, laidKinds := [.data, .data, .data, .data, .sentinel, .sentinel, .pinned], laidTests := true, laidLooks := .later }
def PlaceTrimsCardSaid : Prop := Claim7.holds Tryd.pinned (.plain (OpenSpec.ofChange placeTrimsSpec)) placeTrimsCard

/-- THE TIED CARD OF 'erratalaw03.PlaceFolds'. -/
def placeFoldsCard : Claim7 := { stood := { row := placeFoldsRow, standIns := [], harness := (true, "f07335a018d55dc7c57fbabfaf11b8ce569e876afa6a867f8bf018eeeb022f9b"), looks := true }, kinds := [], alts := [], laidByText := true, laidKinds := [.data, .data, .data, .data, .sentinel, .sentinel, .pinned], laidTests := true, laidLooks := .later }
def PlaceFoldsCardSaid : Prop := Claim7.holds Tryd.pinned (.plain (OpenSpec.ofChange placeFoldsSpec)) placeFoldsCard

/-- THE TIED CARD OF 'erratalaw03.PlaceBack'. -/
def placeBackCard : Claim7 := { stood := { row := placeBackRow, standIns := [], harness := (true, "f07335a018d55dc7c57fbabfaf11b8ce569e876afa6a867f8bf018eeeb022f9b"), looks := true }, kinds := [], alts := [], laidByText := true, laidKinds := [.data, .data, .data, .data, .sentinel, .sentinel, .pinned], laidTests := true, laidLooks := .later }
def PlaceBackCardSaid : Prop := Claim7.holds Tryd.pinned (.plain (OpenSpec.ofChange placeBackSpec)) placeBackCard

/-- THE TIED CARD OF 'erratalaw03.PlaceReads'. -/
def placeReadsCard : Claim7 := { stood := { row := placeReadsRow, standIns := [], harness := (true, "f07335a018d55dc7c57fbabfaf11b8ce569e876afa6a867f8bf018eeeb022f9b"), looks := true }, kinds := [], alts := [], laidByText := true, laidKinds := [.data, .data, .data, .data, .sentinel, .sentinel, .pinned], laidTests := true, laidLooks := .later }
def PlaceReadsCardSaid : Prop := Claim7.holds Tryd.pinned (.plain (OpenSpec.ofChange placeReadsSpec)) placeReadsCard

/-- THE TIED CARD OF 'erratalaw03.PlaceMeets'. -/
def placeMeetsCard : Claim7 := { stood := { row := placeMeetsRow, standIns := [], harness := (true, "f07335a018d55dc7c57fbabfaf11b8ce569e876afa6a867f8bf018eeeb022f9b"), looks := true }, kinds := [], alts := [], laidByText := true, laidKinds := [.data, .data, .data, .data, .sentinel, .sentinel, .pinned], laidTests := true, laidLooks := .later }
def PlaceMeetsCardSaid : Prop := Claim7.holds Tryd.pinned (.plain (OpenSpec.ofChange placeMeetsSpec)) placeMeetsCard

/-- THE SECOND FORM's CARD OF 'erratalaw03.PlaceTexts'. -/
def placeTextsUptoCard : Claim7 := { stood := { row := placeTextsUptoRow, standIns := [], harness := (true, "f07335a018d55dc7c57fbabfaf11b8ce569e876afa6a867f8bf018eeeb022f9b"), looks := true }, kinds := [], alts := [], laidByText := true, laidKinds := [.data, .data, .data, .data, .sentinel, .sentinel, .pinned], laidTests := true, laidLooks := .later }
def PlaceTextsUptoCardSaid : Prop := Claim7.holds Tryd.pinned (.plain (OpenSpec.upto placeTextsSpec)) placeTextsUptoCard

/-- THE SECOND FORM's CARD OF 'erratalaw03.PlaceUnfolds'. -/
def placeUnfoldsUptoCard : Claim7 := { stood := { row := placeUnfoldsUptoRow, standIns := [], harness := (true, "f07335a018d55dc7c57fbabfaf11b8ce569e876afa6a867f8bf018eeeb022f9b"), looks := true }, kinds := [], alts := [], laidByText := true, laidKinds := [.data, .data, .data, .data, .sentinel, .sentinel, .pinned], laidTests := true, laidLooks := .later }
def PlaceUnfoldsUptoCardSaid : Prop := Claim7.holds Tryd.pinned (.plain (OpenSpec.upto placeUnfoldsSpec)) placeUnfoldsUptoCard

/-- THE SECOND FORM's CARD OF 'erratalaw03.PlaceTrims'. -/
def placeTrimsUptoCard : Claim7 := { stood := { row := placeTrimsUptoRow, standIns := [], harness := (true, "f07335a018d55dc7c57fbabfaf11b8ce569e876afa6a867f8bf018eeeb022f9b"), looks := true }, kinds := [], alts := [], laidByText := true, laidKinds := [.data, .data, .data, .data, .sentinel, .sentinel, .pinned], laidTests := true, laidLooks := .later }
def PlaceTrimsUptoCardSaid : Prop := Claim7.holds Tryd.pinned (.plain (OpenSpec.upto placeTrimsSpec)) placeTrimsUptoCard

/-- THE SECOND FORM's CARD OF 'erratalaw03.PlaceFolds'. -/
def placeFoldsUptoCard : Claim7 := { stood := { row := placeFoldsUptoRow, standIns := [], harness := (true, "f07335a018d55dc7c57fbabfaf11b8ce569e876afa6a867f8bf018eeeb022f9b"), looks := true }, kinds := [], alts := [], laidByText := true, laidKinds := [.data, .data, .data, .data, .sentinel, .sentinel, .pinned], laidTests := true, laidLooks := .later }
def PlaceFoldsUptoCardSaid : Prop := Claim7.holds Tryd.pinned (.plain (OpenSpec.upto placeFoldsSpec)) placeFoldsUptoCard

/-- THE SECOND FORM's CARD OF 'erratalaw03.PlaceBack'. -/
def placeBackUptoCard : Claim7 := { stood := { row := placeBackUptoRow, standIns := [], harness := (true, "f07335a018d55dc7c57fbabfaf11b8ce569e876afa6a867f8bf018eeeb022f9b"), looks := true }, kinds := [], alts := [], laidByText := true, laidKinds := [.data, .data, .data, .data, .sentinel, .sentinel, .pinned], laidTests := true, laidLooks := .later }
def PlaceBackUptoCardSaid : Prop := Claim7.holds Tryd.pinned (.plain (OpenSpec.upto placeBackSpec)) placeBackUptoCard

/-- THE SECOND FORM's CARD OF 'erratalaw03.PlaceReads'. -/
def placeReadsUptoCard : Claim7 := { stood := { row := placeReadsUptoRow, standIns := [], harness := (true, "f07335a018d55dc7c57fbabfaf11b8ce569e876afa6a867f8bf018eeeb022f9b"), looks := true }, kinds := [], alts := [], laidByText := true, laidKinds := [.data, .data, .data, .data, .sentinel, .sentinel, .pinned], laidTests := true, laidLooks := .later }
def PlaceReadsUptoCardSaid : Prop := Claim7.holds Tryd.pinned (.plain (OpenSpec.upto placeReadsSpec)) placeReadsUptoCard

/-- THE SECOND FORM's CARD OF 'erratalaw03.PlaceMeets'. -/
def placeMeetsUptoCard : Claim7 := { stood := { row := placeMeetsUptoRow, standIns := [], harness := (true, "f07335a018d55dc7c57fbabfaf11b8ce569e876afa6a867f8bf018eeeb022f9b"), looks := true }, kinds := [], alts := [], laidByText := true, laidKinds := [.data, .data, .data, .data, .sentinel, .sentinel, .pinned], laidTests := true, laidLooks := .later }
def PlaceMeetsUptoCardSaid : Prop := Claim7.holds Tryd.pinned (.plain (OpenSpec.upto placeMeetsSpec)) placeMeetsUptoCard
end Rows
end Go.Proofs.YtmgfdcfbjgokgaaDoor
