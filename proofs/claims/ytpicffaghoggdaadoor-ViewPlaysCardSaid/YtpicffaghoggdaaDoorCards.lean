/-
  DERIVED. GIVEN WITH THE SEED: THE CARDS: each row of YtpicffaghoggdaaDoorRows.lean that lists a variable, with what it lists TIED to the program's text (the seventh form; the later family's looks); each row that meets fmt, with fmt's text TOLD by the authors' own Lean function (tested against real Go, not proved from fmt's source: count such statements apart). THE CARD IS WHAT COUNTS. Prove the row's statement (the work); the ties are given (YtpicffaghoggdaaDoorTie.lean); close each card by the builder's one call (the guide's Derived/Test/ToyasCard.lean, 'card_holds'). Laid BY PROGRAM, IN A SANDBOX (cutbox-door.mjs). By AI agents, Wed Nov 11 2026. No macro, syntax, notation, axiom, sorry.
-/
import Derived.Test.YtpicffaghoggdaaDoorRows
import GoSem.ClaimSeven
namespace Go.Proofs.YtpicffaghoggdaaDoor
namespace Rows

/-- THE TIED CARD OF 'scrollbacklaw31.HistoryShares'. -/
def historySharesCard : Claim7 := { stood := { row := historySharesRow, standIns := [], harness := (true, "5ec929034f2e729652fb1c2bf9a6db0d720fba8fe1f390c4bc26af4490edb9bb"), looks := false }, kinds := [], alts := [], laidByText := true, laidKinds := [.widerDeep, .widerDeep], laidTests := true, laidLooks := .later }
def HistorySharesCardSaid : Prop := Claim7.holds Tryd.pinned (.plain (OpenSpec.ofChange historySharesSpec)) historySharesCard

/-- THE TIED CARD OF 'scrollbacklaw31.HistoryHolds'. -/
def historyHoldsCard : Claim7 := { stood := { row := historyHoldsRow, standIns := [], harness := (true, "5ec929034f2e729652fb1c2bf9a6db0d720fba8fe1f390c4bc26af4490edb9bb"), looks := false }, kinds := [], alts := [], laidByText := true, laidKinds := [.widerDeep, .widerDeep], laidTests := true, laidLooks := .later }
def HistoryHoldsCardSaid : Prop := Claim7.holds Tryd.pinned (.plain (OpenSpec.ofChange historyHoldsSpec)) historyHoldsCard

/-- THE TIED CARD OF 'scrollbacklaw32.ViewShares'. -/
def viewSharesCard : Claim7 := { stood := { row := viewSharesRow, standIns := [], harness := (true, "5ec929034f2e729652fb1c2bf9a6db0d720fba8fe1f390c4bc26af4490edb9bb"), looks := false }, kinds := [], alts := [], laidByText := true, laidKinds := [.widerDeep, .widerDeep], laidTests := true, laidLooks := .later }
def ViewSharesCardSaid : Prop := Claim7.holds Tryd.pinned (.plain (OpenSpec.ofChange viewSharesSpec)) viewSharesCard

/-- THE TIED CARD OF 'scrollbacklaw31.HistoryNew'. -/
def historyNewCard : Claim7 := { stood := { row := historyNewRow, standIns := [], harness := (true, "5ec929034f2e729652fb1c2bf9a6db0d720fba8fe1f390c4bc26af4490edb9bb"), looks := false }, kinds := [], alts := [], laidByText := true, laidKinds := [.widerDeep, .widerDeep], laidTests := true, laidLooks := .later }
def HistoryNewCardSaid : Prop := Claim7.holds Tryd.pinned (.plain (OpenSpec.ofChange historyNewSpec)) historyNewCard

/-- THE TIED CARD OF 'scrollbacklaw31.HistoryMany'. -/
def historyManyCard : Claim7 := { stood := { row := historyManyRow, standIns := [], harness := (true, "5ec929034f2e729652fb1c2bf9a6db0d720fba8fe1f390c4bc26af4490edb9bb"), looks := false }, kinds := [], alts := [], laidByText := true, laidKinds := [.widerDeep, .widerDeep], laidTests := true, laidLooks := .later }
def HistoryManyCardSaid : Prop := Claim7.holds Tryd.pinned (.plain (OpenSpec.ofChange historyManySpec)) historyManyCard

/-- THE TIED CARD OF 'scrollbacklaw32.ViewNew'. -/
def viewNewCard : Claim7 := { stood := { row := viewNewRow, standIns := [], harness := (true, "5ec929034f2e729652fb1c2bf9a6db0d720fba8fe1f390c4bc26af4490edb9bb"), looks := false }, kinds := [], alts := [], laidByText := true, laidKinds := [.widerDeep, .widerDeep], laidTests := true, laidLooks := .later }
def ViewNewCardSaid : Prop := Claim7.holds Tryd.pinned (.plain (OpenSpec.ofChange viewNewSpec)) viewNewCard

/-- THE TIED CARD OF 'scrollbacklaw32.ViewHolds'. -/
def viewHoldsCard : Claim7 := { stood := { row := viewHoldsRow, standIns := [], harness := (true, "5ec929034f2e729652fb1c2bf9a6db0d720fba8fe1f390c4bc26af4490edb9bb"), looks := false }, kinds := [], alts := [], laidByText := true, laidKinds := [.widerDeep, .widerDeep], laidTests := true, laidLooks := .later }
def ViewHoldsCardSaid : Prop := Claim7.holds Tryd.pinned (.plain (OpenSpec.ofChange viewHoldsSpec)) viewHoldsCard

/-- THE TIED CARD OF 'scrollbacklaw32.ViewNone'. -/
def viewNoneCard : Claim7 := { stood := { row := viewNoneRow, standIns := [], harness := (true, "5ec929034f2e729652fb1c2bf9a6db0d720fba8fe1f390c4bc26af4490edb9bb"), looks := false }, kinds := [], alts := [], laidByText := true, laidKinds := [.widerDeep, .widerDeep], laidTests := true, laidLooks := .later }
def ViewNoneCardSaid : Prop := Claim7.holds Tryd.pinned (.plain (OpenSpec.ofChange viewNoneSpec)) viewNoneCard

/-- THE TIED CARD OF 'scrollbacklaw31.HistoryPlays'. -/
def historyPlaysCard : Claim7 := { stood := { row := historyPlaysRow, standIns := [], harness := (true, "5ec929034f2e729652fb1c2bf9a6db0d720fba8fe1f390c4bc26af4490edb9bb"), looks := false }, kinds := [], alts := [], laidByText := true, laidKinds := [.widerDeep, .widerDeep], laidTests := true, laidLooks := .later }
def HistoryPlaysCardSaid : Prop := Claim7.holds Tryd.pinned (.plain (OpenSpec.ofChange historyPlaysSpec)) historyPlaysCard

/-- THE TIED CARD OF 'scrollbacklaw31.HistoryNone'. -/
def historyNoneCard : Claim7 := { stood := { row := historyNoneRow, standIns := [], harness := (true, "5ec929034f2e729652fb1c2bf9a6db0d720fba8fe1f390c4bc26af4490edb9bb"), looks := false }, kinds := [], alts := [], laidByText := true, laidKinds := [.widerDeep, .widerDeep], laidTests := true, laidLooks := .later }
def HistoryNoneCardSaid : Prop := Claim7.holds Tryd.pinned (.plain (OpenSpec.ofChange historyNoneSpec)) historyNoneCard

/-- THE TIED CARD OF 'scrollbacklaw32.ViewPlays'. -/
def viewPlaysCard : Claim7 := { stood := { row := viewPlaysRow, standIns := [], harness := (true, "5ec929034f2e729652fb1c2bf9a6db0d720fba8fe1f390c4bc26af4490edb9bb"), looks := false }, kinds := [], alts := [], laidByText := true, laidKinds := [.widerDeep, .widerDeep], laidTests := true, laidLooks := .later }
def ViewPlaysCardSaid : Prop := Claim7.holds Tryd.pinned (.plain (OpenSpec.ofChange viewPlaysSpec)) viewPlaysCard

/-- THE SECOND FORM's CARD OF 'scrollbacklaw31.HistoryShares'. -/
def historySharesUptoCard : Claim7 := { stood := { row := historySharesUptoRow, standIns := [], harness := (true, "5ec929034f2e729652fb1c2bf9a6db0d720fba8fe1f390c4bc26af4490edb9bb"), looks := false }, kinds := [], alts := [], laidByText := true, laidKinds := [.widerDeep, .widerDeep], laidTests := true, laidLooks := .later }
def HistorySharesUptoCardSaid : Prop := Claim7.holds Tryd.pinned (.plain (OpenSpec.upto historySharesSpec)) historySharesUptoCard

/-- THE SECOND FORM's CARD OF 'scrollbacklaw31.HistoryHolds'. -/
def historyHoldsUptoCard : Claim7 := { stood := { row := historyHoldsUptoRow, standIns := [], harness := (true, "5ec929034f2e729652fb1c2bf9a6db0d720fba8fe1f390c4bc26af4490edb9bb"), looks := false }, kinds := [], alts := [], laidByText := true, laidKinds := [.widerDeep, .widerDeep], laidTests := true, laidLooks := .later }
def HistoryHoldsUptoCardSaid : Prop := Claim7.holds Tryd.pinned (.plain (OpenSpec.upto historyHoldsSpec)) historyHoldsUptoCard

/-- THE SECOND FORM's CARD OF 'scrollbacklaw32.ViewShares'. -/
def viewSharesUptoCard : Claim7 := { stood := { row := viewSharesUptoRow, standIns := [], harness := (true, "5ec929034f2e729652fb1c2bf9a6db0d720fba8fe1f390c4bc26af4490edb9bb"), looks := false }, kinds := [], alts := [], laidByText := true, laidKinds := [.widerDeep, .widerDeep], laidTests := true, laidLooks := .later }
def ViewSharesUptoCardSaid : Prop := Claim7.holds Tryd.pinned (.plain (OpenSpec.upto viewSharesSpec)) viewSharesUptoCard

/-- THE SECOND FORM's CARD OF 'scrollbacklaw31.HistoryNew'. -/
def historyNewUptoCard : Claim7 := { stood := { row := historyNewUptoRow, standIns := [], harness := (true, "5ec929034f2e729652fb1c2bf9a6db0d720fba8fe1f390c4bc26af4490edb9bb"), looks := false }, kinds := [], alts := [], laidByText := true, laidKinds := [.widerDeep, .widerDeep], laidTests := true, laidLooks := .later }
def HistoryNewUptoCardSaid : Prop := Claim7.holds Tryd.pinned (.plain (OpenSpec.upto historyNewSpec)) historyNewUptoCard

/-- THE SECOND FORM's CARD OF 'scrollbacklaw31.HistoryMany'. -/
def historyManyUptoCard : Claim7 := { stood := { row := historyManyUptoRow, standIns := [], harness := (true, "5ec929034f2e729652fb1c2bf9a6db0d720fba8fe1f390c4bc26af4490edb9bb"), looks := false }, kinds := [], alts := [], laidByText := true, laidKinds := [.widerDeep, .widerDeep], laidTests := true, laidLooks := .later }
def HistoryManyUptoCardSaid : Prop := Claim7.holds Tryd.pinned (.plain (OpenSpec.upto historyManySpec)) historyManyUptoCard

/-- THE SECOND FORM's CARD OF 'scrollbacklaw32.ViewNew'. -/
def viewNewUptoCard : Claim7 := { stood := { row := viewNewUptoRow, standIns := [], harness := (true, "5ec929034f2e729652fb1c2bf9a6db0d720fba8fe1f390c4bc26af4490edb9bb"), looks := false }, kinds := [], alts := [], laidByText := true, laidKinds := [.widerDeep, .widerDeep], laidTests := true, laidLooks := .later }
def ViewNewUptoCardSaid : Prop := Claim7.holds Tryd.pinned (.plain (OpenSpec.upto viewNewSpec)) viewNewUptoCard

/-- THE SECOND FORM's CARD OF 'scrollbacklaw32.ViewHolds'. -/
def viewHoldsUptoCard : Claim7 := { stood := { row := viewHoldsUptoRow, standIns := [], harness := (true, "5ec929034f2e729652fb1c2bf9a6db0d720fba8fe1f390c4bc26af4490edb9bb"), looks := false }, kinds := [], alts := [], laidByText := true, laidKinds := [.widerDeep, .widerDeep], laidTests := true, laidLooks := .later }
def ViewHoldsUptoCardSaid : Prop := Claim7.holds Tryd.pinned (.plain (OpenSpec.upto viewHoldsSpec)) viewHoldsUptoCard

/-- THE SECOND FORM's CARD OF 'scrollbacklaw32.ViewNone'. -/
def viewNoneUptoCard : Claim7 := { stood := { row := viewNoneUptoRow, standIns := [], harness := (true, "5ec929034f2e729652fb1c2bf9a6db0d720fba8fe1f390c4bc26af4490edb9bb"), looks := false }, kinds := [], alts := [], laidByText := true, laidKinds := [.widerDeep, .widerDeep], laidTests := true, laidLooks := .later }
def ViewNoneUptoCardSaid : Prop := Claim7.holds Tryd.pinned (.plain (OpenSpec.upto viewNoneSpec)) viewNoneUptoCard

/-- THE SECOND FORM's CARD OF 'scrollbacklaw31.HistoryPlays'. -/
def historyPlaysUptoCard : Claim7 := { stood := { row := historyPlaysUptoRow, standIns := [], harness := (true, "5ec929034f2e729652fb1c2bf9a6db0d720fba8fe1f390c4bc26af4490edb9bb"), looks := false }, kinds := [], alts := [], laidByText := true, laidKinds := [.widerDeep, .widerDeep], laidTests := true, laidLooks := .later }
def HistoryPlaysUptoCardSaid : Prop := Claim7.holds Tryd.pinned (.plain (OpenSpec.upto historyPlaysSpec)) historyPlaysUptoCard

/-- THE SECOND FORM's CARD OF 'scrollbacklaw31.HistoryNone'. -/
def historyNoneUptoCard : Claim7 := { stood := { row := historyNoneUptoRow, standIns := [], harness := (true, "5ec929034f2e729652fb1c2bf9a6db0d720fba8fe1f390c4bc26af4490edb9bb"), looks := false }, kinds := [], alts := [], laidByText := true, laidKinds := [.widerDeep, .widerDeep], laidTests := true, laidLooks := .later }
def HistoryNoneUptoCardSaid : Prop := Claim7.holds Tryd.pinned (.plain (OpenSpec.upto historyNoneSpec)) historyNoneUptoCard

/-- THE SECOND FORM's CARD OF 'scrollbacklaw32.ViewPlays'. -/
def viewPlaysUptoCard : Claim7 := { stood := { row := viewPlaysUptoRow, standIns := [], harness := (true, "5ec929034f2e729652fb1c2bf9a6db0d720fba8fe1f390c4bc26af4490edb9bb"), looks := false }, kinds := [], alts := [], laidByText := true, laidKinds := [.widerDeep, .widerDeep], laidTests := true, laidLooks := .later }
def ViewPlaysUptoCardSaid : Prop := Claim7.holds Tryd.pinned (.plain (OpenSpec.upto viewPlaysSpec)) viewPlaysUptoCard
end Rows
end Go.Proofs.YtpicffaghoggdaaDoor
