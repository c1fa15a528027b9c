/-
  DERIVED. GIVEN WITH THE SEED: THE CARDS: each row of YtfeoejpbmpdkaaaDoorRows.lean that lists a variable, with what it lists TIED to the program's text (the seventh form; the later family's looks); each row that meets fmt, with fmt's text TOLD by the authors' own Lean function (tested against real Go, not proved from fmt's source: count such statements apart). THE CARD IS WHAT COUNTS. Prove the row's statement (the work); the ties are given (YtfeoejpbmpdkaaaDoorTie.lean); close each card by the builder's one call (the guide's Derived/Test/ToyasCard.lean, 'card_holds'). Laid BY PROGRAM, IN A SANDBOX (cutbox-door.mjs). By AI agents, Wed Nov 11 2026. No macro, syntax, notation, axiom, sorry.
-/
import Derived.Test.YtfeoejpbmpdkaaaDoorRows
import GoSem.ClaimSeven
namespace Go.Proofs.YtfeoejpbmpdkaaaDoor
namespace Rows

/-- THE TIED CARD OF 'scrollbacklaw07.SheetFulls'. -/
def sheetFullsCard : Claim7 := { stood := { row := sheetFullsRow, standIns := [], harness := (true, "15fca72597fc82ca5aae6e37e67851972f1032b1d275aea2d2c6dfa33fac3c31"), looks := false }, kinds := [], alts := [], laidByText := true, laidKinds := [.widerDeep, .widerDeep], laidTests := true, laidLooks := .later }
def SheetFullsCardSaid : Prop := Claim7.holds Tryd.pinned (.plain (OpenSpec.ofChange sheetFullsSpec)) sheetFullsCard

/-- THE TIED CARD OF 'scrollbacklaw07.SheetHolds'. -/
def sheetHoldsCard : Claim7 := { stood := { row := sheetHoldsRow, standIns := [], harness := (true, "15fca72597fc82ca5aae6e37e67851972f1032b1d275aea2d2c6dfa33fac3c31"), looks := false }, kinds := [], alts := [], laidByText := true, laidKinds := [.widerDeep, .widerDeep], laidTests := true, laidLooks := .later }
def SheetHoldsCardSaid : Prop := Claim7.holds Tryd.pinned (.plain (OpenSpec.ofChange sheetHoldsSpec)) sheetHoldsCard

/-- THE TIED CARD OF 'scrollbacklaw07.SheetPlays'. -/
def sheetPlaysCard : Claim7 := { stood := { row := sheetPlaysRow, standIns := [], harness := (true, "15fca72597fc82ca5aae6e37e67851972f1032b1d275aea2d2c6dfa33fac3c31"), looks := false }, kinds := [], alts := [], laidByText := true, laidKinds := [.widerDeep, .widerDeep], laidTests := true, laidLooks := .later }
def SheetPlaysCardSaid : Prop := Claim7.holds Tryd.pinned (.plain (OpenSpec.ofChange sheetPlaysSpec)) sheetPlaysCard

/-- THE TIED CARD OF 'scrollbacklaw07.SheetNil'. -/
def sheetNilCard : Claim7 := { stood := { row := sheetNilRow, standIns := [], harness := (true, "15fca72597fc82ca5aae6e37e67851972f1032b1d275aea2d2c6dfa33fac3c31"), looks := false }, kinds := [], alts := [], laidByText := true, laidKinds := [.widerDeep, .widerDeep], laidTests := true, laidLooks := .later }
def SheetNilCardSaid : Prop := Claim7.holds Tryd.pinned (.plain (OpenSpec.ofChange sheetNilSpec)) sheetNilCard

/-- THE TIED CARD OF 'scrollbacklaw08.RingLongs'. -/
def ringLongsCard : Claim7 := { stood := { row := ringLongsRow, standIns := [], harness := (true, "15fca72597fc82ca5aae6e37e67851972f1032b1d275aea2d2c6dfa33fac3c31"), looks := false }, kinds := [], alts := [], laidByText := true, laidKinds := [.widerDeep, .widerDeep], laidTests := true, laidLooks := .later }
def RingLongsCardSaid : Prop := Claim7.holds Tryd.pinned (.plain (OpenSpec.ofChange ringLongsSpec)) ringLongsCard

/-- THE TIED CARD OF 'scrollbacklaw08.RingHolds'. -/
def ringHoldsCard : Claim7 := { stood := { row := ringHoldsRow, standIns := [], harness := (true, "15fca72597fc82ca5aae6e37e67851972f1032b1d275aea2d2c6dfa33fac3c31"), looks := false }, kinds := [], alts := [], laidByText := true, laidKinds := [.widerDeep, .widerDeep], laidTests := true, laidLooks := .later }
def RingHoldsCardSaid : Prop := Claim7.holds Tryd.pinned (.plain (OpenSpec.ofChange ringHoldsSpec)) ringHoldsCard

/-- THE TIED CARD OF 'scrollbacklaw08.RingPlays'. -/
def ringPlaysCard : Claim7 := { stood := { row := ringPlaysRow, standIns := [], harness := (true, "15fca72597fc82ca5aae6e37e67851972f1032b1d275aea2d2c6dfa33fac3c31"), looks := false }, kinds := [], alts := [], laidByText := true, laidKinds := [.widerDeep, .widerDeep], laidTests := true, laidLooks := .later }
def RingPlaysCardSaid : Prop := Claim7.holds Tryd.pinned (.plain (OpenSpec.ofChange ringPlaysSpec)) ringPlaysCard

/-- THE TIED CARD OF 'scrollbacklaw08.RingNil'. -/
def ringNilCard : Claim7 := { stood := { row := ringNilRow, standIns := [], harness := (true, "15fca72597fc82ca5aae6e37e67851972f1032b1d275aea2d2c6dfa33fac3c31"), looks := false }, kinds := [], alts := [], laidByText := true, laidKinds := [.widerDeep, .widerDeep], laidTests := true, laidLooks := .later }
def RingNilCardSaid : Prop := Claim7.holds Tryd.pinned (.plain (OpenSpec.ofChange ringNilSpec)) ringNilCard

/-- THE SECOND FORM's CARD OF 'scrollbacklaw07.SheetFulls'. -/
def sheetFullsUptoCard : Claim7 := { stood := { row := sheetFullsUptoRow, standIns := [], harness := (true, "15fca72597fc82ca5aae6e37e67851972f1032b1d275aea2d2c6dfa33fac3c31"), looks := false }, kinds := [], alts := [], laidByText := true, laidKinds := [.widerDeep, .widerDeep], laidTests := true, laidLooks := .later }
def SheetFullsUptoCardSaid : Prop := Claim7.holds Tryd.pinned (.plain (OpenSpec.upto sheetFullsSpec)) sheetFullsUptoCard

/-- THE SECOND FORM's CARD OF 'scrollbacklaw07.SheetHolds'. -/
def sheetHoldsUptoCard : Claim7 := { stood := { row := sheetHoldsUptoRow, standIns := [], harness := (true, "15fca72597fc82ca5aae6e37e67851972f1032b1d275aea2d2c6dfa33fac3c31"), looks := false }, kinds := [], alts := [], laidByText := true, laidKinds := [.widerDeep, .widerDeep], laidTests := true, laidLooks := .later }
def SheetHoldsUptoCardSaid : Prop := Claim7.holds Tryd.pinned (.plain (OpenSpec.upto sheetHoldsSpec)) sheetHoldsUptoCard

/-- THE SECOND FORM's CARD OF 'scrollbacklaw07.SheetPlays'. -/
def sheetPlaysUptoCard : Claim7 := { stood := { row := sheetPlaysUptoRow, standIns := [], harness := (true, "15fca72597fc82ca5aae6e37e67851972f1032b1d275aea2d2c6dfa33fac3c31"), looks := false }, kinds := [], alts := [], laidByText := true, laidKinds := [.widerDeep, .widerDeep], laidTests := true, laidLooks := .later }
def SheetPlaysUptoCardSaid : Prop := Claim7.holds Tryd.pinned (.plain (OpenSpec.upto sheetPlaysSpec)) sheetPlaysUptoCard

/-- THE SECOND FORM's CARD OF 'scrollbacklaw07.SheetNil'. -/
def sheetNilUptoCard : Claim7 := { stood := { row := sheetNilUptoRow, standIns := [], harness := (true, "15fca72597fc82ca5aae6e37e67851972f1032b1d275aea2d2c6dfa33fac3c31"), looks := false }, kinds := [], alts := [], laidByText := true, laidKinds := [.widerDeep, .widerDeep], laidTests := true, laidLooks := .later }
def SheetNilUptoCardSaid : Prop := Claim7.holds Tryd.pinned (.plain (OpenSpec.upto sheetNilSpec)) sheetNilUptoCard

/-- THE SECOND FORM's CARD OF 'scrollbacklaw08.RingLongs'. -/
def ringLongsUptoCard : Claim7 := { stood := { row := ringLongsUptoRow, standIns := [], harness := (true, "15fca72597fc82ca5aae6e37e67851972f1032b1d275aea2d2c6dfa33fac3c31"), looks := false }, kinds := [], alts := [], laidByText := true, laidKinds := [.widerDeep, .widerDeep], laidTests := true, laidLooks := .later }
def RingLongsUptoCardSaid : Prop := Claim7.holds Tryd.pinned (.plain (OpenSpec.upto ringLongsSpec)) ringLongsUptoCard

/-- THE SECOND FORM's CARD OF 'scrollbacklaw08.RingHolds'. -/
def ringHoldsUptoCard : Claim7 := { stood := { row := ringHoldsUptoRow, standIns := [], harness := (true, "15fca72597fc82ca5aae6e37e67851972f1032b1d275aea2d2c6dfa33fac3c31"), looks := false }, kinds := [], alts := [], laidByText := true, laidKinds := [.widerDeep, .widerDeep], laidTests := true, laidLooks := .later }
def RingHoldsUptoCardSaid : Prop := Claim7.holds Tryd.pinned (.plain (OpenSpec.upto ringHoldsSpec)) ringHoldsUptoCard

/-- THE SECOND FORM's CARD OF 'scrollbacklaw08.RingPlays'. -/
def ringPlaysUptoCard : Claim7 := { stood := { row := ringPlaysUptoRow, standIns := [], harness := (true, "15fca72597fc82ca5aae6e37e67851972f1032b1d275aea2d2c6dfa33fac3c31"), looks := false }, kinds := [], alts := [], laidByText := true, laidKinds := [.widerDeep, .widerDeep], laidTests := true, laidLooks := .later }
def RingPlaysUptoCardSaid : Prop := Claim7.holds Tryd.pinned (.plain (OpenSpec.upto ringPlaysSpec)) ringPlaysUptoCard

/-- THE SECOND FORM's CARD OF 'scrollbacklaw08.RingNil'. -/
def ringNilUptoCard : Claim7 := { stood := { row := ringNilUptoRow, standIns := [], harness := (true, "15fca72597fc82ca5aae6e37e67851972f1032b1d275aea2d2c6dfa33fac3c31"), looks := false }, kinds := [], alts := [], laidByText := true, laidKinds := [.widerDeep, .widerDeep], laidTests := true, laidLooks := .later }
def RingNilUptoCardSaid : Prop := Claim7.holds Tryd.pinned (.plain (OpenSpec.upto ringNilSpec)) ringNilUptoCard
end Rows
end Go.Proofs.YtfeoejpbmpdkaaaDoor
