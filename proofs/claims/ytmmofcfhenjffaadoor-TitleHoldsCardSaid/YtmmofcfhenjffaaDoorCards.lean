/-
  DERIVED. GIVEN WITH THE SEED: THE CARDS: each row of YtmmofcfhenjffaaDoorRows.lean that lists a variable, with what it lists TIED to the program's text (the seventh form; the later family's looks); each row that meets fmt, with fmt's text TOLD by the authors' own Lean function (tested against real Go, not proved from fmt's source: count such statements apart). THE CARD IS WHAT COUNTS. Prove the row's statement (the work); the ties are given (YtmmofcfhenjffaaDoorTie.lean); close each card by the builder's one call (the guide's Derived/Test/ToyasCard.lean, 'card_holds'). Laid BY PROGRAM, IN A SANDBOX (cutbox-door.mjs). By AI agents, Wed Nov 11 2026. No macro, syntax, notation, axiom, sorry.
-/
import Derived.Test.YtmmofcfhenjffaaDoorRows
import GoSem.ClaimSeven
namespace Go.Proofs.YtmmofcfhenjffaaDoor
namespace Rows

/-- THE TIED CARD OF 'scrollbacklaw26.TitleCleans'. -/
def titleCleansCard : Claim7 := { stood := { row := titleCleansRow, standIns := [], harness := (true, "d45c14caa13aa05d27a71deca62517a23a39d435721be1f838490f01ab72f7fb"), looks := true }, kinds := [], alts := [], laidByText := true, laidKinds := [.data, .data, .data, .data, .sentinel, .sentinel, .pinned], laidTests := true, laidLooks := .later }
def TitleCleansCardSaid : Prop := Claim7.holds Tryd.pinned (.plain (OpenSpec.ofChange titleCleansSpec)) titleCleansCard

/-- THE TIED CARD OF 'scrollbacklaw26.TitleRunes'. -/
def titleRunesCard : Claim7 := { stood := { row := titleRunesRow, standIns := [], harness := (true, "d45c14caa13aa05d27a71deca62517a23a39d435721be1f838490f01ab72f7fb"), looks := true }, kinds := [], alts := [], laidByText := true, laidKinds := [.data, .data, .data, .data, .sentinel, .sentinel, .pinned], laidTests := true, laidLooks := .later }
def TitleRunesCardSaid : Prop := Claim7.holds Tryd.pinned (.plain (OpenSpec.ofChange titleRunesSpec)) titleRunesCard

/-- THE TIED CARD OF 'scrollbacklaw26.TitleParses'. -/
def titleParsesCard : Claim7 := { stood := { row := titleParsesRow, standIns := [], harness := (true, "d45c14caa13aa05d27a71deca62517a23a39d435721be1f838490f01ab72f7fb"), looks := true }, kinds := [], alts := [], laidByText := true, laidKinds := [.data, .data, .data, .data, .sentinel, .sentinel, .pinned], laidTests := true, laidLooks := .later }
def TitleParsesCardSaid : Prop := Claim7.holds Tryd.pinned (.plain (OpenSpec.ofChange titleParsesSpec)) titleParsesCard

/-- THE TIED CARD OF 'scrollbacklaw26.TitleTexts'. -/
def titleTextsCard : Claim7 := { stood := { row := titleTextsRow, standIns := [], harness := (true, "d45c14caa13aa05d27a71deca62517a23a39d435721be1f838490f01ab72f7fb"), looks := true }, kinds := [], alts := [], laidByText := true, laidKinds := [.data, .data, .data, .data, .sentinel, .sentinel, .pinned], laidTests := true, laidLooks := .later }
def TitleTextsCardSaid : Prop := Claim7.holds Tryd.pinned (.plain (OpenSpec.ofChange titleTextsSpec)) titleTextsCard

/-- THE TIED CARD OF 'scrollbacklaw26.TitleLinks'. -/
def titleLinksCard : Claim7 := { stood := { row := titleLinksRow, standIns := [], harness := (true, "d45c14caa13aa05d27a71deca62517a23a39d435721be1f838490f01ab72f7fb"), looks := true }, kinds := [], alts := [], laidByText := true, laidKinds := [.data, .data, .data, .data, .sentinel, .sentinel, .pinned], laidTests := true, laidLooks := .later }
def TitleLinksCardSaid : Prop := Claim7.holds Tryd.pinned (.plain (OpenSpec.ofChange titleLinksSpec)) titleLinksCard

/-- THE TIED CARD OF 'scrollbacklaw26.TitleHolds'. -/
def titleHoldsCard : Claim7 := { stood := { row := titleHoldsRow, standIns := [], harness := (true, "d45c14caa13aa05d27a71deca62517a23a39d435721be1f838490f01ab72f7fb"), looks := true }, kinds := [], alts := [], laidByText := true, laidKinds := [.data, .data, .data, .data, .sentinel, .sentinel, .pinned], laidTests := true, laidLooks := .later }
def TitleHoldsCardSaid : Prop := Claim7.holds Tryd.pinned (.plain (OpenSpec.ofChange titleHoldsSpec)) titleHoldsCard

/-- THE SECOND FORM's CARD OF 'scrollbacklaw26.TitleCleans'. -/
def titleCleansUptoCard : Claim7 := { stood := { row := titleCleansUptoRow, standIns := [], harness := (true, "d45c14caa13aa05d27a71deca62517a23a39d435721be1f838490f01ab72f7fb"), looks := true }, kinds := [], alts := [], laidByText := true, laidKinds := [.data, .data, .data, .data, .sentinel, .sentinel, .pinned], laidTests := true, laidLooks := .later }
def TitleCleansUptoCardSaid : Prop := Claim7.holds Tryd.pinned (.plain (OpenSpec.upto titleCleansSpec)) titleCleansUptoCard

/-- THE SECOND FORM's CARD OF 'scrollbacklaw26.TitleRunes'. -/
def titleRunesUptoCard : Claim7 := { stood := { row := titleRunesUptoRow, standIns := [], harness := (true, "d45c14caa13aa05d27a71deca62517a23a39d435721be1f838490f01ab72f7fb"), looks := true }, kinds := [], alts := [], laidByText := true, laidKinds := [.data, .data, .data, .data, .sentinel, .sentinel, .pinned], laidTests := true, laidLooks := .later }
def TitleRunesUptoCardSaid : Prop := Claim7.holds Tryd.pinned (.plain (OpenSpec.upto titleRunesSpec)) titleRunesUptoCard

/-- THE SECOND FORM's CARD OF 'scrollbacklaw26.TitleParses'. -/
def titleParsesUptoCard : Claim7 := { stood := { row := titleParsesUptoRow, standIns := [], harness := (true, "d45c14caa13aa05d27a71deca62517a23a39d435721be1f838490f01ab72f7fb"), looks := true }, kinds := [], alts := [], laidByText := true, laidKinds := [.data, .data, .data, .data, .sentinel, .sentinel, .pinned], laidTests := true, laidLooks := .later }
def TitleParsesUptoCardSaid : Prop := Claim7.holds Tryd.pinned (.plain (OpenSpec.upto titleParsesSpec)) titleParsesUptoCard

/-- THE SECOND FORM's CARD OF 'scrollbacklaw26.TitleTexts'. -/
def titleTextsUptoCard : Claim7 := { stood := { row := titleTextsUptoRow, standIns := [], harness := (true, "d45c14caa13aa05d27a71deca62517a23a39d435721be1f838490f01ab72f7fb"), looks := true }, kinds := [], alts := [], laidByText := true, laidKinds := [.data, .data, .data, .data, .sentinel, .sentinel, .pinned], laidTests := true, laidLooks := .later }
def TitleTextsUptoCardSaid : Prop := Claim7.holds Tryd.pinned (.plain (OpenSpec.upto titleTextsSpec)) titleTextsUptoCard

/-- THE SECOND FORM's CARD OF 'scrollbacklaw26.TitleLinks'. -/
def titleLinksUptoCard : Claim7 := { stood := { row := titleLinksUptoRow, standIns := [], harness := (true, "d45c14caa13aa05d27a71deca62517a23a39d435721be1f838490f01ab72f7fb"), looks := true }, kinds := [], alts := [], laidByText := true, laidKinds := [.data, .data, .data, .data, .sentinel, .sentinel, .pinned], laidTests := true, laidLooks := .later }
def TitleLinksUptoCardSaid : Prop := Claim7.holds Tryd.pinned (.plain (OpenSpec.upto titleLinksSpec)) titleLinksUptoCard

/-- THE SECOND FORM's CARD OF 'scrollbacklaw26.TitleHolds'. -/
def titleHoldsUptoCard : Claim7 := { stood := { row := titleHoldsUptoRow, standIns := [], harness := (true, "d45c14caa13aa05d27a71deca62517a23a39d435721be1f838490f01ab72f7fb"), looks := true }, kinds := [], alts := [], laidByText := true, laidKinds := [.data, .data, .data, .data, .sentinel, .sentinel, .pinned], laidTests := true, laidLooks := .later }
def TitleHoldsUptoCardSaid : Prop := Claim7.holds Tryd.pinned (.plain (OpenSpec.upto titleHoldsSpec)) titleHoldsUptoCard
end Rows
end Go.Proofs.YtmmofcfhenjffaaDoor
