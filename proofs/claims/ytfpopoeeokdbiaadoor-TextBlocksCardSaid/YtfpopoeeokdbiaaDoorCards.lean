/-
  DERIVED. GIVEN WITH THE SEED: THE CARDS: each row of YtfpopoeeokdbiaaDoorRows.lean that lists a variable, with what it lists TIED to the program's text (the seventh form; the later family's looks); each row that meets fmt, with fmt's text TOLD by the authors' own Lean function (tested against real Go, not proved from fmt's source: count such statements apart). THE CARD IS WHAT COUNTS. Prove the row's statement (the work); the ties are given (YtfpopoeeokdbiaaDoorTie.lean); close each card by the builder's one call (the guide's Derived/Test/ToyasCard.lean, 'card_holds'). Laid BY PROGRAM, IN A SANDBOX (cutbox-door.mjs). By AI agents, Wed Nov 11 2026. No macro, syntax, notation, axiom, sorry.
-/
import Derived.Test.YtfpopoeeokdbiaaDoorRows
import GoSem.ClaimSeven
namespace Go.Proofs.YtfpopoeeokdbiaaDoor
namespace Rows

/-- THE TIED CARD OF 'scrollbacklaw40.TextBlocks'. -/
def textBlocksCard : Claim7 := { stood := { row := textBlocksRow, standIns := [], harness := (true, "9f617854e064a702581745aa367e81272d62fa4ae07f74109050f170ca3c44a0"), looks := false }, kinds := [], alts := [], laidByText := true, laidKinds := [.data, .widerDeep, .widerDeep, .pinned], laidTests := true, laidLooks := .later }
def TextBlocksCardSaid : Prop := Claim7.holds Tryd.pinned (.plain (OpenSpec.ofChange textBlocksSpec)) textBlocksCard

/-- THE TIED CARD OF 'scrollbacklaw40.TextFits'. -/
def textFitsCard : Claim7 := { stood := { row := textFitsRow, standIns := [], harness := (true, "9f617854e064a702581745aa367e81272d62fa4ae07f74109050f170ca3c44a0"), looks := false }, kinds := [], alts := [], laidByText := true, laidKinds := [.data, .widerDeep, .widerDeep, .pinned], laidTests := true, laidLooks := .later }
def TextFitsCardSaid : Prop := Claim7.holds Tryd.pinned (.plain (OpenSpec.ofChange textFitsSpec)) textFitsCard

/-- THE TIED CARD OF 'scrollbacklaw40.TextRunes'. -/
def textRunesCard : Claim7 := { stood := { row := textRunesRow, standIns := [], harness := (true, "9f617854e064a702581745aa367e81272d62fa4ae07f74109050f170ca3c44a0"), looks := false }, kinds := [], alts := [], laidByText := true, laidKinds := [.data, .widerDeep, .widerDeep, .pinned], laidTests := true, laidLooks := .later }
def TextRunesCardSaid : Prop := Claim7.holds Tryd.pinned (.plain (OpenSpec.ofChange textRunesSpec)) textRunesCard

/-- THE TIED CARD OF 'scrollbacklaw40.TextHolds'. -/
def textHoldsCard : Claim7 := { stood := { row := textHoldsRow, standIns := [], harness := (true, "9f617854e064a702581745aa367e81272d62fa4ae07f74109050f170ca3c44a0"), looks := false }, kinds := [], alts := [], laidByText := true, laidKinds := [.data, .widerDeep, .widerDeep, .pinned], laidTests := true, laidLooks := .later }
def TextHoldsCardSaid : Prop := Claim7.holds Tryd.pinned (.plain (OpenSpec.ofChange textHoldsSpec)) textHoldsCard

/-- THE SECOND FORM's CARD OF 'scrollbacklaw40.TextBlocks'. -/
def textBlocksUptoCard : Claim7 := { stood := { row := textBlocksUptoRow, standIns := [], harness := (true, "9f617854e064a702581745aa367e81272d62fa4ae07f74109050f170ca3c44a0"), looks := false }, kinds := [], alts := [], laidByText := true, laidKinds := [.data, .widerDeep, .widerDeep, .pinned], laidTests := true, laidLooks := .later }
def TextBlocksUptoCardSaid : Prop := Claim7.holds Tryd.pinned (.plain (OpenSpec.upto textBlocksSpec)) textBlocksUptoCard

/-- THE SECOND FORM's CARD OF 'scrollbacklaw40.TextFits'. -/
def textFitsUptoCard : Claim7 := { stood := { row := textFitsUptoRow, standIns := [], harness := (true, "9f617854e064a702581745aa367e81272d62fa4ae07f74109050f170ca3c44a0"), looks := false }, kinds := [], alts := [], laidByText := true, laidKinds := [.data, .widerDeep, .widerDeep, .pinned], laidTests := true, laidLooks := .later }
def TextFitsUptoCardSaid : Prop := Claim7.holds Tryd.pinned (.plain (OpenSpec.upto textFitsSpec)) textFitsUptoCard

/-- THE SECOND FORM's CARD OF 'scrollbacklaw40.TextRunes'. -/
def textRunesUptoCard : Claim7 := { stood := { row := textRunesUptoRow, standIns := [], harness := (true, "9f617854e064a702581745aa367e81272d62fa4ae07f74109050f170ca3c44a0"), looks := false }, kinds := [], alts := [], laidByText := true, laidKinds := [.data, .widerDeep, .widerDeep, .pinned], laidTests := true, laidLooks := .later }
def TextRunesUptoCardSaid : Prop := Claim7.holds Tryd.pinned (.plain (OpenSpec.upto textRunesSpec)) textRunesUptoCard

/-- THE SECOND FORM's CARD OF 'scrollbacklaw40.TextHolds'. -/
def textHoldsUptoCard : Claim7 := { stood := { row := textHoldsUptoRow, standIns := [], harness := (true, "9f617854e064a702581745aa367e81272d62fa4ae07f74109050f170ca3c44a0"), looks := false }, kinds := [], alts := [], laidByText := true, laidKinds := [.data, .widerDeep, .widerDeep, .pinned], laidTests := true, laidLooks := .later }
def TextHoldsUptoCardSaid : Prop := Claim7.holds Tryd.pinned (.plain (OpenSpec.upto textHoldsSpec)) textHoldsUptoCard
end Rows
end Go.Proofs.YtfpopoeeokdbiaaDoor
