/-
  DERIVED. GIVEN WITH THE SEED: THE CARDS: each row of YtonlmlmjglaoiaaDoorRows.lean that lists a variable, with what it lists TIED to the program's text (the seventh form; the later family's looks); each row that meets fmt, with fmt's text TOLD by the authors' own Lean function (tested against real Go, not proved from fmt's source: count such statements apart). THE CARD IS WHAT COUNTS. Prove the row's statement (the work); the ties are given (YtonlmlmjglaoiaaDoorTie.lean); close each card by the builder's one call (the guide's Derived/Test/ToyasCard.lean, 'card_holds'). Laid BY PROGRAM, IN A SANDBOX (cutbox-door.mjs). By AI agents, Wed Nov 11 2026. No macro, syntax, notation, axiom, sorry.
-/
import Derived.Test.YtonlmlmjglaoiaaDoorRows
import GoSem.ClaimSeven
namespace Go.Proofs.YtonlmlmjglaoiaaDoor
namespace Rows

/-- THE TIED CARD OF 'scrollbacklaw45.DeltaOf'. -/
def deltaOfCard : Claim7 := { stood := { row := deltaOfRow, standIns := [], harness := (true, "8fb12a185615537c7e3bbab43914f9498208e9084b32f77da7a0b70157b5746b"), looks := false }, kinds := [], alts := [], laidByText := true, laidKinds := [.widerDeep, .widerDeep], laidTests := true, laidLooks := .later }
def DeltaOfCardSaid : Prop := Claim7.holds Tryd.pinned (.plain (OpenSpec.ofChange deltaOfSpec)) deltaOfCard

/-- THE TIED CARD OF 'scrollbacklaw45.DeltaApplies'. -/
def deltaAppliesCard : Claim7 := { stood := { row := deltaAppliesRow, standIns := [], harness := (true, "8fb12a185615537c7e3bbab43914f9498208e9084b32f77da7a0b70157b5746b"), looks := false }, kinds := [], alts := [], laidByText := true, laidKinds := [.widerDeep, .widerDeep], laidTests := true, laidLooks := .later }
def DeltaAppliesCardSaid : Prop := Claim7.holds Tryd.pinned (.plain (OpenSpec.ofChange deltaAppliesSpec)) deltaAppliesCard

/-- THE TIED CARD OF 'scrollbacklaw45.DeltaMany'. -/
def deltaManyCard : Claim7 := { stood := { row := deltaManyRow, standIns := [], harness := (true, "8fb12a185615537c7e3bbab43914f9498208e9084b32f77da7a0b70157b5746b"), looks := false }, kinds := [], alts := [], laidByText := true, laidKinds := [.widerDeep, .widerDeep], laidTests := true, laidLooks := .later }
def DeltaManyCardSaid : Prop := Claim7.holds Tryd.pinned (.plain (OpenSpec.ofChange deltaManySpec)) deltaManyCard

/-- THE TIED CARD OF 'scrollbacklaw45.DeltaHolds'. -/
def deltaHoldsCard : Claim7 := { stood := { row := deltaHoldsRow, standIns := [], harness := (true, "8fb12a185615537c7e3bbab43914f9498208e9084b32f77da7a0b70157b5746b"), looks := false }, kinds := [], alts := [], laidByText := true, laidKinds := [.widerDeep, .widerDeep], laidTests := true, laidLooks := .later }
def DeltaHoldsCardSaid : Prop := Claim7.holds Tryd.pinned (.plain (OpenSpec.ofChange deltaHoldsSpec)) deltaHoldsCard

/-- THE TIED CARD OF 'scrollbacklaw45.DeltaCounts'. -/
def deltaCountsCard : Claim7 := { stood := { row := deltaCountsRow, standIns := [], harness := (true, "8fb12a185615537c7e3bbab43914f9498208e9084b32f77da7a0b70157b5746b"), looks := false }, kinds := [], alts := [], laidByText := true, laidKinds := [.widerDeep, .widerDeep], laidTests := true, laidLooks := .later }
def DeltaCountsCardSaid : Prop := Claim7.holds Tryd.pinned (.plain (OpenSpec.ofChange deltaCountsSpec)) deltaCountsCard

/-- THE SECOND FORM's CARD OF 'scrollbacklaw45.DeltaOf'. -/
def deltaOfUptoCard : Claim7 := { stood := { row := deltaOfUptoRow, standIns := [], harness := (true, "8fb12a185615537c7e3bbab43914f9498208e9084b32f77da7a0b70157b5746b"), looks := false }, kinds := [], alts := [], laidByText := true, laidKinds := [.widerDeep, .widerDeep], laidTests := true, laidLooks := .later }
def DeltaOfUptoCardSaid : Prop := Claim7.holds Tryd.pinned (.plain (OpenSpec.upto deltaOfSpec)) deltaOfUptoCard

/-- THE SECOND FORM's CARD OF 'scrollbacklaw45.DeltaApplies'. -/
def deltaAppliesUptoCard : Claim7 := { stood := { row := deltaAppliesUptoRow, standIns := [], harness := (true, "8fb12a185615537c7e3bbab43914f9498208e9084b32f77da7a0b70157b5746b"), looks := false }, kinds := [], alts := [], laidByText := true, laidKinds := [.widerDeep, .widerDeep], laidTests := true, laidLooks := .later }
def DeltaAppliesUptoCardSaid : Prop := Claim7.holds Tryd.pinned (.plain (OpenSpec.upto deltaAppliesSpec)) deltaAppliesUptoCard

/-- THE SECOND FORM's CARD OF 'scrollbacklaw45.DeltaMany'. -/
def deltaManyUptoCard : Claim7 := { stood := { row := deltaManyUptoRow, standIns := [], harness := (true, "8fb12a185615537c7e3bbab43914f9498208e9084b32f77da7a0b70157b5746b"), looks := false }, kinds := [], alts := [], laidByText := true, laidKinds := [.widerDeep, .widerDeep], laidTests := true, laidLooks := .later }
def DeltaManyUptoCardSaid : Prop := Claim7.holds Tryd.pinned (.plain (OpenSpec.upto deltaManySpec)) deltaManyUptoCard

/-- THE SECOND FORM's CARD OF 'scrollbacklaw45.DeltaHolds'. -/
def deltaHoldsUptoCard : Claim7 := { stood := { row := deltaHoldsUptoRow, standIns := [], harness := (true, "8fb12a185615537c7e3bbab43914f9498208e9084b32f77da7a0b70157b5746b"), looks := false }, kinds := [], alts := [], laidByText := true, laidKinds := [.widerDeep, .widerDeep], laidTests := true, laidLooks := .later }
def DeltaHoldsUptoCardSaid : Prop := Claim7.holds Tryd.pinned (.plain (OpenSpec.upto deltaHoldsSpec)) deltaHoldsUptoCard

/-- THE SECOND FORM's CARD OF 'scrollbacklaw45.DeltaCounts'. -/
def deltaCountsUptoCard : Claim7 := { stood := { row := deltaCountsUptoRow, standIns := [], harness := (true, "8fb12a185615537c7e3bbab43914f9498208e9084b32f77da7a0b70157b5746b"), looks := false }, kinds := [], alts := [], laidByText := true, laidKinds := [.widerDeep, .widerDeep], laidTests := true, laidLooks := .later }
def DeltaCountsUptoCardSaid : Prop := Claim7.holds Tryd.pinned (.plain (OpenSpec.upto deltaCountsSpec)) deltaCountsUptoCard
end Rows
end Go.Proofs.YtonlmlmjglaoiaaDoor
