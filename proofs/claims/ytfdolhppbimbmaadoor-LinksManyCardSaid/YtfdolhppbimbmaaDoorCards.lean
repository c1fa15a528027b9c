/-
  DERIVED. GIVEN WITH THE SEED: THE CARDS: each row of YtfdolhppbimbmaaDoorRows.lean that lists a variable, with what it lists TIED to the program's text (the seventh form; the later family's looks); each row that meets fmt, with fmt's text TOLD by the authors' own Lean function (tested against real Go, not proved from fmt's source: count such statements apart). THE CARD IS WHAT COUNTS. Prove the row's statement (the work); the ties are given (YtfdolhppbimbmaaDoorTie.lean); close each card by the builder's one call (the guide's Derived/Test/ToyasCard.lean, 'card_holds'). Laid BY PROGRAM, IN A SANDBOX (cutbox-door.mjs). By AI agents, Wed Nov 11 2026. No macro, syntax, notation, axiom, sorry.
-/
import Derived.Test.YtfdolhppbimbmaaDoorRows
import GoSem.ClaimSeven
namespace Go.Proofs.YtfdolhppbimbmaaDoor
namespace Rows

/-- THE TIED CARD OF 'scrollbacklaw42.SearchHolds'. -/
def searchHoldsCard : Claim7 := { stood := { row := searchHoldsRow, standIns := [], harness := (true, "7d3ca8be9edafcb02870e9683efda2c5e808c83d5535b57392b0d743fe9600aa"), looks := false }, kinds := [], alts := [], laidByText := true, laidKinds := [.widerDeep, .widerDeep], laidTests := true, laidLooks := .later }
def SearchHoldsCardSaid : Prop := Claim7.holds Tryd.pinned (.plain (OpenSpec.ofChange searchHoldsSpec)) searchHoldsCard

/-- THE TIED CARD OF 'scrollbacklaw43.LinksFind'. -/
def linksFindCard : Claim7 := { stood := { row := linksFindRow, standIns := [], harness := (true, "7d3ca8be9edafcb02870e9683efda2c5e808c83d5535b57392b0d743fe9600aa"), looks := false }, kinds := [], alts := [], laidByText := true, laidKinds := [.widerDeep, .widerDeep], laidTests := true, laidLooks := .later }
def LinksFindCardSaid : Prop := Claim7.holds Tryd.pinned (.plain (OpenSpec.ofChange linksFindSpec)) linksFindCard

/-- THE TIED CARD OF 'scrollbacklaw43.LinksRunes'. -/
def linksRunesCard : Claim7 := { stood := { row := linksRunesRow, standIns := [], harness := (true, "7d3ca8be9edafcb02870e9683efda2c5e808c83d5535b57392b0d743fe9600aa"), looks := false }, kinds := [], alts := [], laidByText := true, laidKinds := [.widerDeep, .widerDeep], laidTests := true, laidLooks := .later }
def LinksRunesCardSaid : Prop := Claim7.holds Tryd.pinned (.plain (OpenSpec.ofChange linksRunesSpec)) linksRunesCard

/-- THE TIED CARD OF 'scrollbacklaw43.LinksRows'. -/
def linksRowsCard : Claim7 := { stood := { row := linksRowsRow, standIns := [], harness := (true, "7d3ca8be9edafcb02870e9683efda2c5e808c83d5535b57392b0d743fe9600aa"), looks := false }, kinds := [], alts := [], laidByText := true, laidKinds := [.widerDeep, .widerDeep], laidTests := true, laidLooks := .later }
def LinksRowsCardSaid : Prop := Claim7.holds Tryd.pinned (.plain (OpenSpec.ofChange linksRowsSpec)) linksRowsCard

/-- THE TIED CARD OF 'scrollbacklaw43.LinksMany'. -/
def linksManyCard : Claim7 := { stood := { row := linksManyRow, standIns := [], harness := (true, "7d3ca8be9edafcb02870e9683efda2c5e808c83d5535b57392b0d743fe9600aa"), looks := false }, kinds := [], alts := [], laidByText := true, laidKinds := [.widerDeep, .widerDeep], laidTests := true, laidLooks := .later }
def LinksManyCardSaid : Prop := Claim7.holds Tryd.pinned (.plain (OpenSpec.ofChange linksManySpec)) linksManyCard

/-- THE TIED CARD OF 'scrollbacklaw43.LinksHolds'. -/
def linksHoldsCard : Claim7 := { stood := { row := linksHoldsRow, standIns := [], harness := (true, "7d3ca8be9edafcb02870e9683efda2c5e808c83d5535b57392b0d743fe9600aa"), looks := false }, kinds := [], alts := [], laidByText := true, laidKinds := [.widerDeep, .widerDeep], laidTests := true, laidLooks := .later }
def LinksHoldsCardSaid : Prop := Claim7.holds Tryd.pinned (.plain (OpenSpec.ofChange linksHoldsSpec)) linksHoldsCard

/-- THE TIED CARD OF 'scrollbacklaw41.ChooseSpans'. -/
def chooseSpansCard : Claim7 := { stood := { row := chooseSpansRow, standIns := [], harness := (true, "7d3ca8be9edafcb02870e9683efda2c5e808c83d5535b57392b0d743fe9600aa"), looks := false }, kinds := [], alts := [], laidByText := true, laidKinds := [.data, .widerDeep, .widerDeep, .pinned], laidTests := true, laidLooks := .later }
def ChooseSpansCardSaid : Prop := Claim7.holds Tryd.pinned (.plain (OpenSpec.ofChange chooseSpansSpec)) chooseSpansCard

/-- THE TIED CARD OF 'scrollbacklaw41.ChooseWords'. -/
def chooseWordsCard : Claim7 := { stood := { row := chooseWordsRow, standIns := [], harness := (true, "7d3ca8be9edafcb02870e9683efda2c5e808c83d5535b57392b0d743fe9600aa"), looks := false }, kinds := [], alts := [], laidByText := true, laidKinds := [.data, .widerDeep, .widerDeep, .pinned], laidTests := true, laidLooks := .later }
def ChooseWordsCardSaid : Prop := Claim7.holds Tryd.pinned (.plain (OpenSpec.ofChange chooseWordsSpec)) chooseWordsCard

/-- THE TIED CARD OF 'scrollbacklaw41.ChooseMany'. -/
def chooseManyCard : Claim7 := { stood := { row := chooseManyRow, standIns := [], harness := (true, "7d3ca8be9edafcb02870e9683efda2c5e808c83d5535b57392b0d743fe9600aa"), looks := false }, kinds := [], alts := [], laidByText := true, laidKinds := [.data, .widerDeep, .widerDeep, .pinned], laidTests := true, laidLooks := .later }
def ChooseManyCardSaid : Prop := Claim7.holds Tryd.pinned (.plain (OpenSpec.ofChange chooseManySpec)) chooseManyCard

/-- THE TIED CARD OF 'scrollbacklaw41.ChooseHolds'. -/
def chooseHoldsCard : Claim7 := { stood := { row := chooseHoldsRow, standIns := [], harness := (true, "7d3ca8be9edafcb02870e9683efda2c5e808c83d5535b57392b0d743fe9600aa"), looks := false }, kinds := [], alts := [], laidByText := true, laidKinds := [.data, .widerDeep, .widerDeep, .pinned], laidTests := true, laidLooks := .later }
def ChooseHoldsCardSaid : Prop := Claim7.holds Tryd.pinned (.plain (OpenSpec.ofChange chooseHoldsSpec)) chooseHoldsCard

/-- THE TIED CARD OF 'scrollbacklaw41.ChooseBytes'. -/
def chooseBytesCard : Claim7 := { stood := { row := chooseBytesRow, standIns := [], harness := (true, "7d3ca8be9edafcb02870e9683efda2c5e808c83d5535b57392b0d743fe9600aa"), looks := false }, kinds := [], alts := [], laidByText := true, laidKinds := [.data, .widerDeep, .widerDeep, .pinned], laidTests := true, laidLooks := .later }
def ChooseBytesCardSaid : Prop := Claim7.holds Tryd.pinned (.plain (OpenSpec.ofChange chooseBytesSpec)) chooseBytesCard

/-- THE TIED CARD OF 'scrollbacklaw40.TextHolds'. -/
def textHoldsCard : Claim7 := { stood := { row := textHoldsRow, standIns := [], harness := (true, "7d3ca8be9edafcb02870e9683efda2c5e808c83d5535b57392b0d743fe9600aa"), looks := false }, kinds := [], alts := [], laidByText := true, laidKinds := [.data, .widerDeep, .widerDeep, .pinned], laidTests := true, laidLooks := .later }
def TextHoldsCardSaid : Prop := Claim7.holds Tryd.pinned (.plain (OpenSpec.ofChange textHoldsSpec)) textHoldsCard

/-- THE SECOND FORM's CARD OF 'scrollbacklaw42.SearchHolds'. -/
def searchHoldsUptoCard : Claim7 := { stood := { row := searchHoldsUptoRow, standIns := [], harness := (true, "7d3ca8be9edafcb02870e9683efda2c5e808c83d5535b57392b0d743fe9600aa"), looks := false }, kinds := [], alts := [], laidByText := true, laidKinds := [.widerDeep, .widerDeep], laidTests := true, laidLooks := .later }
def SearchHoldsUptoCardSaid : Prop := Claim7.holds Tryd.pinned (.plain (OpenSpec.upto searchHoldsSpec)) searchHoldsUptoCard

/-- THE SECOND FORM's CARD OF 'scrollbacklaw43.LinksFind'. -/
def linksFindUptoCard : Claim7 := { stood := { row := linksFindUptoRow, standIns := [], harness := (true, "7d3ca8be9edafcb02870e9683efda2c5e808c83d5535b57392b0d743fe9600aa"), looks := false }, kinds := [], alts := [], laidByText := true, laidKinds := [.widerDeep, .widerDeep], laidTests := true, laidLooks := .later }
def LinksFindUptoCardSaid : Prop := Claim7.holds Tryd.pinned (.plain (OpenSpec.upto linksFindSpec)) linksFindUptoCard

/-- THE SECOND FORM's CARD OF 'scrollbacklaw43.LinksRunes'. -/
def linksRunesUptoCard : Claim7 := { stood := { row := linksRunesUptoRow, standIns := [], harness := (true, "7d3ca8be9edafcb02870e9683efda2c5e808c83d5535b57392b0d743fe9600aa"), looks := false }, kinds := [], alts := [], laidByText := true, laidKinds := [.widerDeep, .widerDeep], laidTests := true, laidLooks := .later }
def LinksRunesUptoCardSaid : Prop := Claim7.holds Tryd.pinned (.plain (OpenSpec.upto linksRunesSpec)) linksRunesUptoCard

/-- THE SECOND FORM's CARD OF 'scrollbacklaw43.LinksRows'. -/
def linksRowsUptoCard : Claim7 := { stood := { row := linksRowsUptoRow, standIns := [], harness := (true, "7d3ca8be9edafcb02870e9683efda2c5e808c83d5535b57392b0d743fe9600aa"), looks := false }, kinds := [], alts := [], laidByText := true, laidKinds := [.widerDeep, .widerDeep], laidTests := true, laidLooks := .later }
def LinksRowsUptoCardSaid : Prop := Claim7.holds Tryd.pinned (.plain (OpenSpec.upto linksRowsSpec)) linksRowsUptoCard

/-- THE SECOND FORM's CARD OF 'scrollbacklaw43.LinksMany'. -/
def linksManyUptoCard : Claim7 := { stood := { row := linksManyUptoRow, standIns := [], harness := (true, "7d3ca8be9edafcb02870e9683efda2c5e808c83d5535b57392b0d743fe9600aa"), looks := false }, kinds := [], alts := [], laidByText := true, laidKinds := [.widerDeep, .widerDeep], laidTests := true, laidLooks := .later }
def LinksManyUptoCardSaid : Prop := Claim7.holds Tryd.pinned (.plain (OpenSpec.upto linksManySpec)) linksManyUptoCard

/-- THE SECOND FORM's CARD OF 'scrollbacklaw43.LinksHolds'. -/
def linksHoldsUptoCard : Claim7 := { stood := { row := linksHoldsUptoRow, standIns := [], harness := (true, "7d3ca8be9edafcb02870e9683efda2c5e808c83d5535b57392b0d743fe9600aa"), looks := false }, kinds := [], alts := [], laidByText := true, laidKinds := [.widerDeep, .widerDeep], laidTests := true, laidLooks := .later }
def LinksHoldsUptoCardSaid : Prop := Claim7.holds Tryd.pinned (.plain (OpenSpec.upto linksHoldsSpec)) linksHoldsUptoCard

/-- THE SECOND FORM's CARD OF 'scrollbacklaw41.ChooseSpans'. -/
def chooseSpansUptoCard : Claim7 := { stood := { row := chooseSpansUptoRow, standIns := [], harness := (true, "7d3ca8be9edafcb02870e9683efda2c5e808c83d5535b57392b0d743fe9600aa"), looks := false }, kinds := [], alts := [], laidByText := true, laidKinds := [.data, .widerDeep, .widerDeep, .pinned], laidTests := true, laidLooks := .later }
def ChooseSpansUptoCardSaid : Prop := Claim7.holds Tryd.pinned (.plain (OpenSpec.upto chooseSpansSpec)) chooseSpansUptoCard

/-- THE SECOND FORM's CARD OF 'scrollbacklaw41.ChooseWords'. -/
def chooseWordsUptoCard : Claim7 := { stood := { row := chooseWordsUptoRow, standIns := [], harness := (true, "7d3ca8be9edafcb02870e9683efda2c5e808c83d5535b57392b0d743fe9600aa"), looks := false }, kinds := [], alts := [], laidByText := true, laidKinds := [.data, .widerDeep, .widerDeep, .pinned], laidTests := true, laidLooks := .later }
def ChooseWordsUptoCardSaid : Prop := Claim7.holds Tryd.pinned (.plain (OpenSpec.upto chooseWordsSpec)) chooseWordsUptoCard

/-- THE SECOND FORM's CARD OF 'scrollbacklaw41.ChooseMany'. -/
def chooseManyUptoCard : Claim7 := { stood := { row := chooseManyUptoRow, standIns := [], harness := (true, "7d3ca8be9edafcb02870e9683efda2c5e808c83d5535b57392b0d743fe9600aa"), looks := false }, kinds := [], alts := [], laidByText := true, laidKinds := [.data, .widerDeep, .widerDeep, .pinned], laidTests := true, laidLooks := .later }
def ChooseManyUptoCardSaid : Prop := Claim7.holds Tryd.pinned (.plain (OpenSpec.upto chooseManySpec)) chooseManyUptoCard

/-- THE SECOND FORM's CARD OF 'scrollbacklaw41.ChooseHolds'. -/
def chooseHoldsUptoCard : Claim7 := { stood := { row := chooseHoldsUptoRow, standIns := [], harness := (true, "7d3ca8be9edafcb02870e9683efda2c5e808c83d5535b57392b0d743fe9600aa"), looks := false }, kinds := [], alts := [], laidByText := true, laidKinds := [.data, .widerDeep, .widerDeep, .pinned], laidTests := true, laidLooks := .later }
def ChooseHoldsUptoCardSaid : Prop := Claim7.holds Tryd.pinned (.plain (OpenSpec.upto chooseHoldsSpec)) chooseHoldsUptoCard

/-- THE SECOND FORM's CARD OF 'scrollbacklaw41.ChooseBytes'. -/
def chooseBytesUptoCard : Claim7 := { stood := { row := chooseBytesUptoRow, standIns := [], harness := (true, "7d3ca8be9edafcb02870e9683efda2c5e808c83d5535b57392b0d743fe9600aa"), looks := false }, kinds := [], alts := [], laidByText := true, laidKinds := [.data, .widerDeep, .widerDeep, .pinned], laidTests := true, laidLooks := .later }
def ChooseBytesUptoCardSaid : Prop := Claim7.holds Tryd.pinned (.plain (OpenSpec.upto chooseBytesSpec)) chooseBytesUptoCard

/-- THE SECOND FORM's CARD OF 'scrollbacklaw40.TextHolds'. -/
def textHoldsUptoCard : Claim7 := { stood := { row := textHoldsUptoRow, standIns := [], harness := (true, "7d3ca8be9edafcb02870e9683efda2c5e808c83d5535b57392b0d743fe9600aa"), looks := false }, kinds := [], alts := [], laidByText := true, laidKinds := [.data, .widerDeep, .widerDeep, .pinned], laidTests := true, laidLooks := .later }
def TextHoldsUptoCardSaid : Prop := Claim7.holds Tryd.pinned (.plain (OpenSpec.upto textHoldsSpec)) textHoldsUptoCard
end Rows
end Go.Proofs.YtfdolhppbimbmaaDoor
