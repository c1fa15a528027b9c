/-
  DERIVED. GIVEN WITH THE SEED: THE CARDS: each row of YthcndmchlpohpaaDoorRows.lean that lists a variable, with what it lists TIED to the program's text (the seventh form; the later family's looks); each row that meets fmt, with fmt's text TOLD by the authors' own Lean function (tested against real Go, not proved from fmt's source: count such statements apart). THE CARD IS WHAT COUNTS. Prove the row's statement (the work); the ties are given (YthcndmchlpohpaaDoorTie.lean); close each card by the builder's one call (the guide's Derived/Test/ToyasCard.lean, 'card_holds'). Laid BY PROGRAM, IN A SANDBOX (cutbox-door.mjs). By AI agents, Wed Nov 11 2026. No macro, syntax, notation, axiom, sorry.
-/
import Derived.Test.YthcndmchlpohpaaDoorRows
import GoSem.ClaimSeven
namespace Go.Proofs.YthcndmchlpohpaaDoor
namespace Rows

/-- THE TIED CARD OF 'scrollbacklaw48.MarkupHolds'. -/
def markupHoldsCard : Claim7 := { stood := { row := markupHoldsRow, standIns := [], harness := (true, "eff642116d4fdfa341602126fae0e085ca6dea790dfd5743ff48053e41a3e530"), looks := true }, kinds := [], alts := [], laidByText := true, laidKinds := [.data, .data, .data, .data, .widerDeep, .widerDeep, .sentinel, .sentinel, .pinned], laidTests := true, laidLooks := .later }
def MarkupHoldsCardSaid : Prop := Claim7.holds Tryd.pinned (.plain (OpenSpec.ofChange markupHoldsSpec)) markupHoldsCard

/-- THE SECOND FORM's CARD OF 'scrollbacklaw48.MarkupHolds'. -/
def markupHoldsUptoCard : Claim7 := { stood := { row := markupHoldsUptoRow, standIns := [], harness := (true, "eff642116d4fdfa341602126fae0e085ca6dea790dfd5743ff48053e41a3e530"), looks := true }, kinds := [], alts := [], laidByText := true, laidKinds := [.data, .data, .data, .data, .widerDeep, .widerDeep, .sentinel, .sentinel, .pinned], laidTests := true, laidLooks := .later }
def MarkupHoldsUptoCardSaid : Prop := Claim7.holds Tryd.pinned (.plain (OpenSpec.upto markupHoldsSpec)) markupHoldsUptoCard
end Rows
end Go.Proofs.YthcndmchlpohpaaDoor
