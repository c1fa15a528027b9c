/-
  DERIVED. GIVEN WITH THE SEED: THE CARDS: each row of YtfgifjdholdohaaDoorRows.lean that lists a variable, with what it lists TIED to the program's text (the seventh form; the later family's looks); each row that meets fmt, with fmt's text TOLD by the authors' own Lean function (tested against real Go, not proved from fmt's source: count such statements apart). THE CARD IS WHAT COUNTS. Prove the row's statement (the work); the ties are given (YtfgifjdholdohaaDoorTie.lean); close each card by the builder's one call (the guide's Derived/Test/ToyasCard.lean, 'card_holds'). Laid BY PROGRAM, IN A SANDBOX (cutbox-door.mjs). By AI agents, Wed Nov 11 2026. No macro, syntax, notation, axiom, sorry.
-/
import Derived.Test.YtfgifjdholdohaaDoorRows
import GoSem.ClaimSeven
namespace Go.Proofs.YtfgifjdholdohaaDoor
namespace Rows

/-- THE TIED CARD OF 'scrollbacklaw23.SavedRestores'. -/
def savedRestoresCard : Claim7 := { stood := { row := savedRestoresRow, standIns := [], harness := (true, "d0c5b4b04f6862fba637f92395f93f317c46238b1f652a164fdf3794c267021f"), looks := true }, kinds := [], alts := [], laidByText := true, laidKinds := [.data, .data, .data, .data, .sentinel, .sentinel, .pinned], laidTests := true, laidLooks := .later }
def SavedRestoresCardSaid : Prop := Claim7.holds Tryd.pinned (.plain (OpenSpec.ofChange savedRestoresSpec)) savedRestoresCard

/-- THE TIED CARD OF 'scrollbacklaw23.SavedSaves'. -/
def savedSavesCard : Claim7 := { stood := { row := savedSavesRow, standIns := [], harness := (true, "d0c5b4b04f6862fba637f92395f93f317c46238b1f652a164fdf3794c267021f"), looks := true }, kinds := [], alts := [], laidByText := true, laidKinds := [.data, .data, .data, .data, .sentinel, .sentinel, .pinned], laidTests := true, laidLooks := .later }
def SavedSavesCardSaid : Prop := Claim7.holds Tryd.pinned (.plain (OpenSpec.ofChange savedSavesSpec)) savedSavesCard

/-- THE TIED CARD OF 'scrollbacklaw23.SavedReads'. -/
def savedReadsCard : Claim7 := { stood := { row := savedReadsRow, standIns := [], harness := (true, "d0c5b4b04f6862fba637f92395f93f317c46238b1f652a164fdf3794c267021f"), looks := true }, kinds := [], alts := [], laidByText := true, laidKinds := [.data, .data, .data, .data, .sentinel, .sentinel, .pinned], laidTests := true, laidLooks := .later }
def SavedReadsCardSaid : Prop := Claim7.holds Tryd.pinned (.plain (OpenSpec.ofChange savedReadsSpec)) savedReadsCard

/-- THE TIED CARD OF 'scrollbacklaw23.SavedNumbers'. -/
def savedNumbersCard : Claim7 := { stood := { row := savedNumbersRow, standIns := [], harness := (true, "d0c5b4b04f6862fba637f92395f93f317c46238b1f652a164fdf3794c267021f"), looks := true }, kinds := [], alts := [], laidByText := true, laidKinds := [.data, .data, .data, .data, .sentinel, .sentinel, .pinned], laidTests := true, laidLooks := .later }
def SavedNumbersCardSaid : Prop := Claim7.holds Tryd.pinned (.plain (OpenSpec.ofChange savedNumbersSpec)) savedNumbersCard

/-- THE TIED CARD OF 'scrollbacklaw23.SavedHolds'. -/
def savedHoldsCard : Claim7 := { stood := { row := savedHoldsRow, standIns := [], harness := (true, "d0c5b4b04f6862fba637f92395f93f317c46238b1f652a164fdf3794c267021f"), looks := true }, kinds := [], alts := [], laidByText := true, laidKinds := [.data, .data, .data, .data, .sentinel, .sentinel, .pinned], laidTests := true, laidLooks := .later }
def SavedHoldsCardSaid : Prop := Claim7.holds Tryd.pinned (.plain (OpenSpec.ofChange savedHoldsSpec)) savedHoldsCard

/-- THE SECOND FORM's CARD OF 'scrollbacklaw23.SavedRestores'. -/
def savedRestoresUptoCard : Claim7 := { stood := { row := savedRestoresUptoRow, standIns := [], harness := (true, "d0c5b4b04f6862fba637f92395f93f317c46238b1f652a164fdf3794c267021f"), looks := true }, kinds := [], alts := [], laidByText := true, laidKinds := [.data, .data, .data, .data, .sentinel, .sentinel, .pinned], laidTests := true, laidLooks := .later }
def SavedRestoresUptoCardSaid : Prop := Claim7.holds Tryd.pinned (.plain (OpenSpec.upto savedRestoresSpec)) savedRestoresUptoCard

/-- THE SECOND FORM's CARD OF 'scrollbacklaw23.SavedSaves'. -/
def savedSavesUptoCard : Claim7 := { stood := { row := savedSavesUptoRow, standIns := [], harness := (true, "d0c5b4b04f6862fba637f92395f93f317c46238b1f652a164fdf3794c267021f"), looks := true }, kinds := [], alts := [], laidByText := true, laidKinds := [.data, .data, .data, .data, .sentinel, .sentinel, .pinned], laidTests := true, laidLooks := .later }
def SavedSavesUptoCardSaid : Prop := Claim7.holds Tryd.pinned (.plain (OpenSpec.upto savedSavesSpec)) savedSavesUptoCard

/-- THE SECOND FORM's CARD OF 'scrollbacklaw23.SavedReads'. -/
def savedReadsUptoCard : Claim7 := { stood := { row := savedReadsUptoRow, standIns := [], harness := (true, "d0c5b4b04f6862fba637f92395f93f317c46238b1f652a164fdf3794c267021f"), looks := true }, kinds := [], alts := [], laidByText := true, laidKinds := [.data, .data, .data, .data, .sentinel, .sentinel, .pinned], laidTests := true, laidLooks := .later }
def SavedReadsUptoCardSaid : Prop := Claim7.holds Tryd.pinned (.plain (OpenSpec.upto savedReadsSpec)) savedReadsUptoCard

/-- THE SECOND FORM's CARD OF 'scrollbacklaw23.SavedNumbers'. -/
def savedNumbersUptoCard : Claim7 := { stood := { row := savedNumbersUptoRow, standIns := [], harness := (true, "d0c5b4b04f6862fba637f92395f93f317c46238b1f652a164fdf3794c267021f"), looks := true }, kinds := [], alts := [], laidByText := true, laidKinds := [.data, .data, .data, .data, .sentinel, .sentinel, .pinned], laidTests := true, laidLooks := .later }
def SavedNumbersUptoCardSaid : Prop := Claim7.holds Tryd.pinned (.plain (OpenSpec.upto savedNumbersSpec)) savedNumbersUptoCard

/-- THE SECOND FORM's CARD OF 'scrollbacklaw23.SavedHolds'. -/
def savedHoldsUptoCard : Claim7 := { stood := { row := savedHoldsUptoRow, standIns := [], harness := (true, "d0c5b4b04f6862fba637f92395f93f317c46238b1f652a164fdf3794c267021f"), looks := true }, kinds := [], alts := [], laidByText := true, laidKinds := [.data, .data, .data, .data, .sentinel, .sentinel, .pinned], laidTests := true, laidLooks := .later }
def SavedHoldsUptoCardSaid : Prop := Claim7.holds Tryd.pinned (.plain (OpenSpec.upto savedHoldsSpec)) savedHoldsUptoCard
end Rows
end Go.Proofs.YtfgifjdholdohaaDoor
