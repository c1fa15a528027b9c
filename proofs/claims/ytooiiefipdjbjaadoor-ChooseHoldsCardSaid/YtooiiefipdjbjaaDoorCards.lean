/-
  DERIVED. GIVEN WITH THE SEED: THE CARDS: each row of YtooiiefipdjbjaaDoorRows.lean that lists a variable, with what it lists TIED to the program's text (the seventh form; the later family's looks); each row that meets fmt, with fmt's text TOLD by the authors' own Lean function (tested against real Go, not proved from fmt's source: count such statements apart). THE CARD IS WHAT COUNTS. Prove the row's statement (the work); the ties are given (YtooiiefipdjbjaaDoorTie.lean); close each card by the builder's one call (the guide's Derived/Test/ToyasCard.lean, 'card_holds'). Laid BY PROGRAM, IN A SANDBOX (cutbox-door.mjs). By AI agents, Wed Nov 11 2026. No macro, syntax, notation, axiom, sorry.
-/
import Derived.Test.YtooiiefipdjbjaaDoorRows
import GoSem.ClaimSeven
namespace Go.Proofs.YtooiiefipdjbjaaDoor
namespace Rows

/-- THE TIED CARD OF 'scrollbacklaw41.ChooseSpans'. -/
def chooseSpansCard : Claim7 := { stood := { row := chooseSpansRow, standIns := [], harness := (true, "4a4aac3a376588723f1746684a31433717a0a2275d063a93e8f0e4fe053a78d0"), looks := true }, kinds := [], alts := [], laidByText := true, laidKinds := [.data, .widerDeep, .widerDeep, .pinned], laidTests := true, laidLooks := .later }
def ChooseSpansCardSaid : Prop := Claim7.holds Tryd.pinned (.plain (OpenSpec.ofChange chooseSpansSpec)) chooseSpansCard

/-- THE TIED CARD OF 'scrollbacklaw41.ChooseWords'. -/
def chooseWordsCard : Claim7 := { stood := { row := chooseWordsRow, standIns := [], harness := (true, "4a4aac3a376588723f1746684a31433717a0a2275d063a93e8f0e4fe053a78d0"), looks := true }, kinds := [], alts := [], laidByText := true, laidKinds := [.data, .widerDeep, .widerDeep, .pinned], laidTests := true, laidLooks := .later }
def ChooseWordsCardSaid : Prop := Claim7.holds Tryd.pinned (.plain (OpenSpec.ofChange chooseWordsSpec)) chooseWordsCard

/-- THE TIED CARD OF 'scrollbacklaw41.ChooseMany'. -/
def chooseManyCard : Claim7 := { stood := { row := chooseManyRow, standIns := [], harness := (true, "4a4aac3a376588723f1746684a31433717a0a2275d063a93e8f0e4fe053a78d0"), looks := true }, kinds := [], alts := [], laidByText := true, laidKinds := [.data, .widerDeep, .widerDeep, .pinned], laidTests := true, laidLooks := .later }
def ChooseManyCardSaid : Prop := Claim7.holds Tryd.pinned (.plain (OpenSpec.ofChange chooseManySpec)) chooseManyCard

/-- THE TIED CARD OF 'scrollbacklaw41.ChooseHolds'. -/
def chooseHoldsCard : Claim7 := { stood := { row := chooseHoldsRow, standIns := [], harness := (true, "4a4aac3a376588723f1746684a31433717a0a2275d063a93e8f0e4fe053a78d0"), looks := true }, kinds := [], alts := [], laidByText := true, laidKinds := [.data, .widerDeep, .widerDeep, .pinned], laidTests := true, laidLooks := .later }
def ChooseHoldsCardSaid : Prop := Claim7.holds Tryd.pinned (.plain (OpenSpec.ofChange chooseHoldsSpec)) chooseHoldsCard

/-- THE TIED CARD OF 'scrollbacklaw41.ChooseBytes'. -/
def chooseBytesCard : Claim7 := { stood := { row := chooseBytesRow, standIns := [], harness := (true, "4a4aac3a376588723f1746684a31433717a0a2275d063a93e8f0e4fe053a78d0"), looks := true }, kinds := [], alts := [], laidByText := true, laidKinds := [.data, .widerDeep, .widerDeep, .pinned], laidTests := true, laidLooks := .later }
def ChooseBytesCardSaid : Prop := Claim7.holds Tryd.pinned (.plain (OpenSpec.ofChange chooseBytesSpec)) chooseBytesCard

/-- THE TIED CARD OF 'scrollbacklaw48.MarkupHolds'. -/
def markupHoldsCard : Claim7 := { stood := { row := markupHoldsRow, standIns := [], harness := (true, "4a4aac3a376588723f1746684a31433717a0a2275d063a93e8f0e4fe053a78d0"), looks := true }, kinds := [], alts := [], laidByText := true, laidKinds := [.data, .data, .data, .data, .widerDeep, .widerDeep, .sentinel, .sentinel, .pinned], laidTests := true, laidLooks := .later }
def MarkupHoldsCardSaid : Prop := Claim7.holds Tryd.pinned (.plain (OpenSpec.ofChange markupHoldsSpec)) markupHoldsCard

/-- THE SECOND FORM's CARD OF 'scrollbacklaw41.ChooseSpans'. -/
def chooseSpansUptoCard : Claim7 := { stood := { row := chooseSpansUptoRow, standIns := [], harness := (true, "4a4aac3a376588723f1746684a31433717a0a2275d063a93e8f0e4fe053a78d0"), looks := true }, kinds := [], alts := [], laidByText := true, laidKinds := [.data, .widerDeep, .widerDeep, .pinned], laidTests := true, laidLooks := .later }
def ChooseSpansUptoCardSaid : Prop := Claim7.holds Tryd.pinned (.plain (OpenSpec.upto chooseSpansSpec)) chooseSpansUptoCard

/-- THE SECOND FORM's CARD OF 'scrollbacklaw41.ChooseWords'. -/
def chooseWordsUptoCard : Claim7 := { stood := { row := chooseWordsUptoRow, standIns := [], harness := (true, "4a4aac3a376588723f1746684a31433717a0a2275d063a93e8f0e4fe053a78d0"), looks := true }, kinds := [], alts := [], laidByText := true, laidKinds := [.data, .widerDeep, .widerDeep, .pinned], laidTests := true, laidLooks := .later }
def ChooseWordsUptoCardSaid : Prop := Claim7.holds Tryd.pinned (.plain (OpenSpec.upto chooseWordsSpec)) chooseWordsUptoCard

/-- THE SECOND FORM's CARD OF 'scrollbacklaw41.ChooseMany'. -/
def chooseManyUptoCard : Claim7 := { stood := { row := chooseManyUptoRow, standIns := [], harness := (true, "4a4aac3a376588723f1746684a31433717a0a2275d063a93e8f0e4fe053a78d0"), looks := true }, kinds := [], alts := [], laidByText := true, laidKinds := [.data, .widerDeep, .widerDeep, .pinned], laidTests := true, laidLooks := .later }
def ChooseManyUptoCardSaid : Prop := Claim7.holds Tryd.pinned (.plain (OpenSpec.upto chooseManySpec)) chooseManyUptoCard

/-- THE SECOND FORM's CARD OF 'scrollbacklaw41.ChooseHolds'. -/
def chooseHoldsUptoCard : Claim7 := { stood := { row := chooseHoldsUptoRow, standIns := [], harness := (true, "4a4aac3a376588723f1746684a31433717a0a2275d063a93e8f0e4fe053a78d0"), looks := true }, kinds := [], alts := [], laidByText := true, laidKinds := [.data, .widerDeep, .widerDeep, .pinned], laidTests := true, laidLooks := .later }
def ChooseHoldsUptoCardSaid : Prop := Claim7.holds Tryd.pinned (.plain (OpenSpec.upto chooseHoldsSpec)) chooseHoldsUptoCard

/-- THE SECOND FORM's CARD OF 'scrollbacklaw41.ChooseBytes'. -/
def chooseBytesUptoCard : Claim7 := { stood := { row := chooseBytesUptoRow, standIns := [], harness := (true, "4a4aac3a376588723f1746684a31433717a0a2275d063a93e8f0e4fe053a78d0"), looks := true }, kinds := [], alts := [], laidByText := true, laidKinds := [.data, .widerDeep, .widerDeep, .pinned], laidTests := true, laidLooks := .later }
def ChooseBytesUptoCardSaid : Prop := Claim7.holds Tryd.pinned (.plain (OpenSpec.upto chooseBytesSpec)) chooseBytesUptoCard

/-- THE SECOND FORM's CARD OF 'scrollbacklaw48.MarkupHolds'. -/
def markupHoldsUptoCard : Claim7 := { stood := { row := markupHoldsUptoRow, standIns := [], harness := (true, "4a4aac3a376588723f1746684a31433717a0a2275d063a93e8f0e4fe053a78d0"), looks := true }, kinds := [], alts := [], laidByText := true, laidKinds := [.data, .data, .data, .data, .widerDeep, .widerDeep, .sentinel, .sentinel, .pinned], laidTests := true, laidLooks := .later }
def MarkupHoldsUptoCardSaid : Prop := Claim7.holds Tryd.pinned (.plain (OpenSpec.upto markupHoldsSpec)) markupHoldsUptoCard
end Rows
end Go.Proofs.YtooiiefipdjbjaaDoor
