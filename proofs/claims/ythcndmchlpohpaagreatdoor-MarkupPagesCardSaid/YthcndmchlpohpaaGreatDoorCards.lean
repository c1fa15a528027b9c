/-
  DERIVED. GIVEN WITH THE SEED: THE CARDS: each row of YthcndmchlpohpaaGreatDoorRows.lean that lists a variable, with what it lists TIED to the program's text (the seventh form; the later family's looks); each row that meets fmt, with fmt's text TOLD by the authors' own Lean function (tested against real Go, not proved from fmt's source: count such statements apart). THE CARD IS WHAT COUNTS. Prove the row's statement (the work); the ties are given (YthcndmchlpohpaaGreatDoorTie.lean); close each card by the builder's one call (the guide's Derived/Test/ToyasCard.lean, 'card_holds'). Laid BY PROGRAM, IN A SANDBOX (cutbox-door.mjs). By AI agents, Wed Nov 11 2026. No macro, syntax, notation, axiom, sorry.
-/
import Derived.Test.YthcndmchlpohpaaGreatDoorRows
import GoSem.ClaimSeven
namespace Go.Proofs.YthcndmchlpohpaaGreatDoor
namespace Rows

/-- THE TIED CARD OF 'scrollbacklaw48.MarkupLongs'. -/
def markupLongsCard : Claim7 := { stood := { row := markupLongsRow, standIns := [], harness := (true, "c914d1f5fec480ea1ebc189ec6795ac65c70abd3f36fdde8ed71df2ee3b3da3d"), looks := true }, kinds := [], alts := [], laidByText := true, laidKinds := [.data, .data, .data, .data, .widerDeep, .widerDeep, .sentinel, .sentinel, .pinned], laidTests := true, laidLooks := .later }
def MarkupLongsCardSaid : Prop := Claim7.holds Tryz.pinned (.plain (OpenSpec.ofChange markupLongsSpec)) markupLongsCard

/-- THE TIED CARD OF 'scrollbacklaw48.MarkupPages'. -/
def markupPagesCard : Claim7 := { stood := { row := markupPagesRow, standIns := [], harness := (true, "c914d1f5fec480ea1ebc189ec6795ac65c70abd3f36fdde8ed71df2ee3b3da3d"), looks := true }, kinds := [], alts := [], laidByText := true, laidKinds := [.data, .data, .data, .data, .widerDeep, .widerDeep, .sentinel, .sentinel, .pinned], laidTests := true, laidLooks := .later }
def MarkupPagesCardSaid : Prop := Claim7.holds Tryz.pinned (.plain (OpenSpec.ofChange markupPagesSpec)) markupPagesCard

/-- THE TIED CARD OF 'scrollbacklaw48.MarkupTags'. -/
def markupTagsCard : Claim7 := { stood := { row := markupTagsRow, standIns := [], harness := (true, "c914d1f5fec480ea1ebc189ec6795ac65c70abd3f36fdde8ed71df2ee3b3da3d"), looks := true }, kinds := [], alts := [], laidByText := true, laidKinds := [.data, .data, .data, .data, .widerDeep, .widerDeep, .sentinel, .sentinel, .pinned], laidTests := true, laidLooks := .later }
def MarkupTagsCardSaid : Prop := Claim7.holds Tryz.pinned (.plain (OpenSpec.ofChange markupTagsSpec)) markupTagsCard

/-- THE TIED CARD OF 'scrollbacklaw48.MarkupReads'. -/
def markupReadsCard : Claim7 := { stood := { row := markupReadsRow, standIns := [], harness := (true, "c914d1f5fec480ea1ebc189ec6795ac65c70abd3f36fdde8ed71df2ee3b3da3d"), looks := true }, kinds := [], alts := [], laidByText := true, laidKinds := [.data, .data, .data, .data, .widerDeep, .widerDeep, .sentinel, .sentinel, .pinned], laidTests := true, laidLooks := .later }
def MarkupReadsCardSaid : Prop := Claim7.holds Tryz.pinned (.plain (OpenSpec.ofChange markupReadsSpec)) markupReadsCard

/-- THE TIED CARD OF 'scrollbacklaw48.MarkupLines'. -/
def markupLinesCard : Claim7 := { stood := { row := markupLinesRow, standIns := [], harness := (true, "c914d1f5fec480ea1ebc189ec6795ac65c70abd3f36fdde8ed71df2ee3b3da3d"), looks := true }, kinds := [], alts := [], laidByText := true, laidKinds := [.data, .data, .data, .data, .widerDeep, .widerDeep, .sentinel, .sentinel, .pinned], laidTests := true, laidLooks := .later }
def MarkupLinesCardSaid : Prop := Claim7.holds Tryz.pinned (.plain (OpenSpec.ofChange markupLinesSpec)) markupLinesCard

/-- THE SECOND FORM's CARD OF 'scrollbacklaw48.MarkupLongs'. -/
def markupLongsUptoCard : Claim7 := { stood := { row := markupLongsUptoRow, standIns := [], harness := (true, "c914d1f5fec480ea1ebc189ec6795ac65c70abd3f36fdde8ed71df2ee3b3da3d"), looks := true }, kinds := [], alts := [], laidByText := true, laidKinds := [.data, .data, .data, .data, .widerDeep, .widerDeep, .sentinel, .sentinel, .pinned], laidTests := true, laidLooks := .later }
def MarkupLongsUptoCardSaid : Prop := Claim7.holds Tryz.pinned (.plain (OpenSpec.upto markupLongsSpec)) markupLongsUptoCard

/-- THE SECOND FORM's CARD OF 'scrollbacklaw48.MarkupPages'. -/
def markupPagesUptoCard : Claim7 := { stood := { row := markupPagesUptoRow, standIns := [], harness := (true, "c914d1f5fec480ea1ebc189ec6795ac65c70abd3f36fdde8ed71df2ee3b3da3d"), looks := true }, kinds := [], alts := [], laidByText := true, laidKinds := [.data, .data, .data, .data, .widerDeep, .widerDeep, .sentinel, .sentinel, .pinned], laidTests := true, laidLooks := .later }
def MarkupPagesUptoCardSaid : Prop := Claim7.holds Tryz.pinned (.plain (OpenSpec.upto markupPagesSpec)) markupPagesUptoCard

/-- THE SECOND FORM's CARD OF 'scrollbacklaw48.MarkupTags'. -/
def markupTagsUptoCard : Claim7 := { stood := { row := markupTagsUptoRow, standIns := [], harness := (true, "c914d1f5fec480ea1ebc189ec6795ac65c70abd3f36fdde8ed71df2ee3b3da3d"), looks := true }, kinds := [], alts := [], laidByText := true, laidKinds := [.data, .data, .data, .data, .widerDeep, .widerDeep, .sentinel, .sentinel, .pinned], laidTests := true, laidLooks := .later }
def MarkupTagsUptoCardSaid : Prop := Claim7.holds Tryz.pinned (.plain (OpenSpec.upto markupTagsSpec)) markupTagsUptoCard

/-- THE SECOND FORM's CARD OF 'scrollbacklaw48.MarkupReads'. -/
def markupReadsUptoCard : Claim7 := { stood := { row := markupReadsUptoRow, standIns := [], harness := (true, "c914d1f5fec480ea1ebc189ec6795ac65c70abd3f36fdde8ed71df2ee3b3da3d"), looks := true }, kinds := [], alts := [], laidByText := true, laidKinds := [.data, .data, .data, .data, .widerDeep, .widerDeep, .sentinel, .sentinel, .pinned], laidTests := true, laidLooks := .later }
def MarkupReadsUptoCardSaid : Prop := Claim7.holds Tryz.pinned (.plain (OpenSpec.upto markupReadsSpec)) markupReadsUptoCard

/-- THE SECOND FORM's CARD OF 'scrollbacklaw48.MarkupLines'. -/
def markupLinesUptoCard : Claim7 := { stood := { row := markupLinesUptoRow, standIns := [], harness := (true, "c914d1f5fec480ea1ebc189ec6795ac65c70abd3f36fdde8ed71df2ee3b3da3d"), looks := true }, kinds := [], alts := [], laidByText := true, laidKinds := [.data, .data, .data, .data, .widerDeep, .widerDeep, .sentinel, .sentinel, .pinned], laidTests := true, laidLooks := .later }
def MarkupLinesUptoCardSaid : Prop := Claim7.holds Tryz.pinned (.plain (OpenSpec.upto markupLinesSpec)) markupLinesUptoCard
end Rows
end Go.Proofs.YthcndmchlpohpaaGreatDoor
