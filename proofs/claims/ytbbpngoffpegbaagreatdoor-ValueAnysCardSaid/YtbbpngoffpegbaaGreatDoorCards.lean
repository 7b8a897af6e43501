/-
  DERIVED. GIVEN WITH THE SEED: THE CARDS: each row of YtbbpngoffpegbaaGreatDoorRows.lean that lists a variable, with what it lists TIED to the program's text (the seventh form; the later family's looks); each row that meets fmt, with fmt's text TOLD by the authors' own Lean function (tested against real Go, not proved from fmt's source: count such statements apart). THE CARD IS WHAT COUNTS. Prove the row's statement (the work); the ties are given (YtbbpngoffpegbaaGreatDoorTie.lean); close each card by the builder's one call (the guide's Derived/Test/ToyasCard.lean, 'card_holds'). Laid BY PROGRAM, IN A SANDBOX (cutbox-door.mjs). By AI agents, Wed Nov 11 2026. No macro, syntax, notation, axiom, sorry.
-/
import Derived.Test.YtbbpngoffpegbaaGreatDoorRows
import GoSem.ClaimSeven
namespace Go.Proofs.YtbbpngoffpegbaaGreatDoor
namespace Rows

/-- THE TIED CARD OF 'erratalaw02.ValueSames'. -/
def valueSamesCard : Claim7 := { stood := { row := valueSamesRow, standIns := [], harness := (true, "b2021d8b2a3b338a215e88450d848c7db8968d6a09a1daaf89d386349aa29d45"), looks := true }, kinds := [], alts := [], laidByText := true, laidKinds := [.data, .data, .widerDeep, .widerDeep, .data, .data, .data, .data, .data, .sentinel, .sentinel, .pinned, .pinned], laidTests := true, laidLooks := .later }
def ValueSamesCardSaid : Prop := Claim7.holds Tryz.pinned (.plain (OpenSpec.ofChange valueSamesSpec)) valueSamesCard

/-- THE TIED CARD OF 'erratalaw02.ValueAnys'. -/
def valueAnysCard : Claim7 := { stood := { row := valueAnysRow, standIns := [], harness := (true, "b2021d8b2a3b338a215e88450d848c7db8968d6a09a1daaf89d386349aa29d45"), looks := true }, kinds := [], alts := [], laidByText := true, laidKinds := [.data, .data, .widerDeep, .widerDeep, .data, .data, .data, .data, .data, .sentinel, .sentinel, .pinned, .pinned], laidTests := true, laidLooks := .later }
def ValueAnysCardSaid : Prop := Claim7.holds Tryz.pinned (.plain (OpenSpec.ofChange valueAnysSpec)) valueAnysCard

/-- THE TIED CARD OF 'erratalaw02.ValueTexts'. -/
def valueTextsCard : Claim7 := { stood := { row := valueTextsRow, standIns := [], harness := (true, "b2021d8b2a3b338a215e88450d848c7db8968d6a09a1daaf89d386349aa29d45"), looks := true }, kinds := [], alts := [], laidByText := true, laidKinds := [.data, .data, .data, .data, .pinned, .pinned], laidTests := true, laidLooks := .later }
def ValueTextsCardSaid : Prop := Claim7.holds Tryz.pinned (.plain (OpenSpec.ofChange valueTextsSpec)) valueTextsCard

/-- THE SECOND FORM's CARD OF 'erratalaw02.ValueSames'. -/
def valueSamesUptoCard : Claim7 := { stood := { row := valueSamesUptoRow, standIns := [], harness := (true, "b2021d8b2a3b338a215e88450d848c7db8968d6a09a1daaf89d386349aa29d45"), looks := true }, kinds := [], alts := [], laidByText := true, laidKinds := [.data, .data, .widerDeep, .widerDeep, .data, .data, .data, .data, .data, .sentinel, .sentinel, .pinned, .pinned], laidTests := true, laidLooks := .later }
def ValueSamesUptoCardSaid : Prop := Claim7.holds Tryz.pinned (.plain (OpenSpec.upto valueSamesSpec)) valueSamesUptoCard

/-- THE SECOND FORM's CARD OF 'erratalaw02.ValueAnys'. -/
def valueAnysUptoCard : Claim7 := { stood := { row := valueAnysUptoRow, standIns := [], harness := (true, "b2021d8b2a3b338a215e88450d848c7db8968d6a09a1daaf89d386349aa29d45"), looks := true }, kinds := [], alts := [], laidByText := true, laidKinds := [.data, .data, .widerDeep, .widerDeep, .data, .data, .data, .data, .data, .sentinel, .sentinel, .pinned, .pinned], laidTests := true, laidLooks := .later }
def ValueAnysUptoCardSaid : Prop := Claim7.holds Tryz.pinned (.plain (OpenSpec.upto valueAnysSpec)) valueAnysUptoCard

/-- THE SECOND FORM's CARD OF 'erratalaw02.ValueTexts'. -/
def valueTextsUptoCard : Claim7 := { stood := { row := valueTextsUptoRow, standIns := [], harness := (true, "b2021d8b2a3b338a215e88450d848c7db8968d6a09a1daaf89d386349aa29d45"), looks := true }, kinds := [], alts := [], laidByText := true, laidKinds := [.data, .data, .data, .data, .pinned, .pinned], laidTests := true, laidLooks := .later }
def ValueTextsUptoCardSaid : Prop := Claim7.holds Tryz.pinned (.plain (OpenSpec.upto valueTextsSpec)) valueTextsUptoCard
end Rows
end Go.Proofs.YtbbpngoffpegbaaGreatDoor
