/-
  DERIVED. GIVEN WITH THE SEED: THE CARDS: each row of YtohiigmlkhpneaaDoorRows.lean that lists a variable, with what it lists TIED to the program's text (the seventh form; the later family's looks); each row that meets fmt, with fmt's text TOLD by the authors' own Lean function (tested against real Go, not proved from fmt's source: count such statements apart). THE CARD IS WHAT COUNTS. Prove the row's statement (the work); the ties are given (YtohiigmlkhpneaaDoorTie.lean); close each card by the builder's one call (the guide's Derived/Test/ToyasCard.lean, 'card_holds'). Laid BY PROGRAM, IN A SANDBOX (cutbox-door.mjs). By AI agents, Wed Nov 11 2026. No macro, syntax, notation, axiom, sorry.
-/
import Derived.Test.YtohiigmlkhpneaaDoorRows
import GoSem.ClaimSeven
namespace Go.Proofs.YtohiigmlkhpneaaDoor
namespace Rows

/-- THE TIED CARD OF 'scrollbacklaw42.SearchAll'. -/
def searchAllCard : Claim7 := { stood := { row := searchAllRow, standIns := [], harness := (true, "cbe0a6f13003cac9dc69542b99bf4000d7717f110ff795d412ea26719dcfd6fe"), looks := false }, kinds := [], alts := [], laidByText := true, laidKinds := [.widerDeep, .widerDeep], laidTests := true, laidLooks := .later }
def SearchAllCardSaid : Prop := Claim7.holds Tryd.pinned (.plain (OpenSpec.ofChange searchAllSpec)) searchAllCard

/-- THE TIED CARD OF 'scrollbacklaw42.SearchSteps'. -/
def searchStepsCard : Claim7 := { stood := { row := searchStepsRow, standIns := [], harness := (true, "cbe0a6f13003cac9dc69542b99bf4000d7717f110ff795d412ea26719dcfd6fe"), looks := false }, kinds := [], alts := [], laidByText := true, laidKinds := [.widerDeep, .widerDeep], laidTests := true, laidLooks := .later }
def SearchStepsCardSaid : Prop := Claim7.holds Tryd.pinned (.plain (OpenSpec.ofChange searchStepsSpec)) searchStepsCard

/-- THE TIED CARD OF 'scrollbacklaw42.SearchMany'. -/
def searchManyCard : Claim7 := { stood := { row := searchManyRow, standIns := [], harness := (true, "cbe0a6f13003cac9dc69542b99bf4000d7717f110ff795d412ea26719dcfd6fe"), looks := false }, kinds := [], alts := [], laidByText := true, laidKinds := [.widerDeep, .widerDeep], laidTests := true, laidLooks := .later }
def SearchManyCardSaid : Prop := Claim7.holds Tryd.pinned (.plain (OpenSpec.ofChange searchManySpec)) searchManyCard

/-- THE TIED CARD OF 'scrollbacklaw42.SearchLongs'. -/
def searchLongsCard : Claim7 := { stood := { row := searchLongsRow, standIns := [], harness := (true, "cbe0a6f13003cac9dc69542b99bf4000d7717f110ff795d412ea26719dcfd6fe"), looks := false }, kinds := [], alts := [], laidByText := true, laidKinds := [.widerDeep, .widerDeep], laidTests := true, laidLooks := .later }
def SearchLongsCardSaid : Prop := Claim7.holds Tryd.pinned (.plain (OpenSpec.ofChange searchLongsSpec)) searchLongsCard

/-- THE TIED CARD OF 'scrollbacklaw42.SearchHolds'. -/
def searchHoldsCard : Claim7 := { stood := { row := searchHoldsRow, standIns := [], harness := (true, "cbe0a6f13003cac9dc69542b99bf4000d7717f110ff795d412ea26719dcfd6fe"), looks := false }, kinds := [], alts := [], laidByText := true, laidKinds := [.widerDeep, .widerDeep], laidTests := true, laidLooks := .later }
def SearchHoldsCardSaid : Prop := Claim7.holds Tryd.pinned (.plain (OpenSpec.ofChange searchHoldsSpec)) searchHoldsCard

/-- THE SECOND FORM's CARD OF 'scrollbacklaw42.SearchAll'. -/
def searchAllUptoCard : Claim7 := { stood := { row := searchAllUptoRow, standIns := [], harness := (true, "cbe0a6f13003cac9dc69542b99bf4000d7717f110ff795d412ea26719dcfd6fe"), looks := false }, kinds := [], alts := [], laidByText := true, laidKinds := [.widerDeep, .widerDeep], laidTests := true, laidLooks := .later }
def SearchAllUptoCardSaid : Prop := Claim7.holds Tryd.pinned (.plain (OpenSpec.upto searchAllSpec)) searchAllUptoCard

/-- THE SECOND FORM's CARD OF 'scrollbacklaw42.SearchSteps'. -/
def searchStepsUptoCard : Claim7 := { stood := { row := searchStepsUptoRow, standIns := [], harness := (true, "cbe0a6f13003cac9dc69542b99bf4000d7717f110ff795d412ea26719dcfd6fe"), looks := false }, kinds := [], alts := [], laidByText := true, laidKinds := [.widerDeep, .widerDeep], laidTests := true, laidLooks := .later }
def SearchStepsUptoCardSaid : Prop := Claim7.holds Tryd.pinned (.plain (OpenSpec.upto searchStepsSpec)) searchStepsUptoCard

/-- THE SECOND FORM's CARD OF 'scrollbacklaw42.SearchMany'. -/
def searchManyUptoCard : Claim7 := { stood := { row := searchManyUptoRow, standIns := [], harness := (true, "cbe0a6f13003cac9dc69542b99bf4000d7717f110ff795d412ea26719dcfd6fe"), looks := false }, kinds := [], alts := [], laidByText := true, laidKinds := [.widerDeep, .widerDeep], laidTests := true, laidLooks := .later }
def SearchManyUptoCardSaid : Prop := Claim7.holds Tryd.pinned (.plain (OpenSpec.upto searchManySpec)) searchManyUptoCard

/-- THE SECOND FORM's CARD OF 'scrollbacklaw42.SearchLongs'. -/
def searchLongsUptoCard : Claim7 := { stood := { row := searchLongsUptoRow, standIns := [], harness := (true, "cbe0a6f13003cac9dc69542b99bf4000d7717f110ff795d412ea26719dcfd6fe"), looks := false }, kinds := [], alts := [], laidByText := true, laidKinds := [.widerDeep, .widerDeep], laidTests := true, laidLooks := .later }
def SearchLongsUptoCardSaid : Prop := Claim7.holds Tryd.pinned (.plain (OpenSpec.upto searchLongsSpec)) searchLongsUptoCard

/-- THE SECOND FORM's CARD OF 'scrollbacklaw42.SearchHolds'. -/
def searchHoldsUptoCard : Claim7 := { stood := { row := searchHoldsUptoRow, standIns := [], harness := (true, "cbe0a6f13003cac9dc69542b99bf4000d7717f110ff795d412ea26719dcfd6fe"), looks := false }, kinds := [], alts := [], laidByText := true, laidKinds := [.widerDeep, .widerDeep], laidTests := true, laidLooks := .later }
def SearchHoldsUptoCardSaid : Prop := Claim7.holds Tryd.pinned (.plain (OpenSpec.upto searchHoldsSpec)) searchHoldsUptoCard
end Rows
end Go.Proofs.YtohiigmlkhpneaaDoor
