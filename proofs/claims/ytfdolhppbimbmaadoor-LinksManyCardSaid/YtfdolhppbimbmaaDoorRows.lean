/-
  NARROWER THAN 'FOR EVERY INPUT', by the rows' own cells (each row's printed sentence says how): SearchHolds: laid · LinksFind: laid · LinksRunes: laid · LinksRows: laid · LinksMany: laid · LinksHolds: laid · ChooseSpans: laid · ChooseWords: laid · ChooseMany: laid · ChooseHolds: laid · ChooseBytes: laid · TextHolds: laid.
  DERIVED. THE GIVEN ROWS OF THIS SEAT. 12 by the template 'for every input the law returns true; each argument reads behind the call as it read before'; 0 by the template 'total and deterministic' (their statements: YtfdolhppbimbmaaDoorTotals.lean).
  GIVEN WITH THE SEED: the statements are not yours to turn. If you find one false, say at which input.
  Laid BY PROGRAM, IN A SANDBOX (cutbox-rows.mjs): the forced cells as the released guide's own fill.sh prints them over the translation 0075bc805ad9e70b… (all of the seat's roots in one cut). By AI agents, Wed Nov 11 2026. No macro, syntax, notation, axiom, sorry.
-/
import Derived.Test.YtfdolhppbimbmaaDoorChecked
import GoSem.PinnedTables
import GoSem.Claim
import GoSem.ClaimJoined
import GoSem.ClaimMapViews
import Derived.JoinedTies
import Derived.KernelRfl
namespace Go.Proofs.YtfdolhppbimbmaaDoor
/- THE CELL 'sum', in the pinned program and in every row, IS THE sha256 OF THE DUMP (.gsa) THAT YtfdolhppbimbmaaDoorProg.lean LOADS. Nothing in Lean hashes anything: it is a label: what it is worth is what the hold of that sum in a sandbox is worth. -/
noncomputable def Tryd.pinned : Pinned := { name := "ytfdolhppbimbmaadoor", sum := "0075bc805ad9e70b9d6a12a125cb3c0544a3d4a670632147ee5021b6a8060c27", checked := Tryd.checked }
namespace Rows
def none {H : Type} : Left H := { results := [], args := [] }

/- WHAT THE LISTED PACKAGE-LEVEL VARIABLES READ AS WHEN THE CALL BEGINS. Each datum BY PROGRAM (the guide's laid-datum.mjs) off the statement by which the dump's own 'gosem.cut.vars' lays the variable. In a bare row this is a premise. The card (YtfdolhppbimbmaaDoorCards.lean) ties it to the program's text. -/
def laid_scrollback_width_marks {H : Type} : DataW H := .agg [.agg [.lit (.int .i32 768), .lit (.int .i32 879)], .agg [.lit (.int .i32 1155), .lit (.int .i32 1161)], .agg [.lit (.int .i32 1425), .lit (.int .i32 1469)], .agg [.lit (.int .i32 1552), .lit (.int .i32 1562)], .agg [.lit (.int .i32 1611), .lit (.int .i32 1631)], .agg [.lit (.int .i32 1750), .lit (.int .i32 1756)], .agg [.lit (.int .i32 3633), .lit (.int .i32 3633)], .agg [.lit (.int .i32 3636), .lit (.int .i32 3642)], .agg [.lit (.int .i32 3655), .lit (.int .i32 3662)], .agg [.lit (.int .i32 6832), .lit (.int .i32 6911)], .agg [.lit (.int .i32 7616), .lit (.int .i32 7679)], .agg [.lit (.int .i32 8203), .lit (.int .i32 8207)], .agg [.lit (.int .i32 8400), .lit (.int .i32 8447)], .agg [.lit (.int .i32 12330), .lit (.int .i32 12335)], .agg [.lit (.int .i32 12441), .lit (.int .i32 12442)], .agg [.lit (.int .i32 65024), .lit (.int .i32 65039)], .agg [.lit (.int .i32 65056), .lit (.int .i32 65071)], .agg [.lit (.int .i32 917760), .lit (.int .i32 917999)]]
def laid_scrollback_width_wide {H : Type} : DataW H := .agg [.agg [.lit (.int .i32 4352), .lit (.int .i32 4447)], .agg [.lit (.int .i32 9001), .lit (.int .i32 9002)], .agg [.lit (.int .i32 11904), .lit (.int .i32 12329)], .agg [.lit (.int .i32 12336), .lit (.int .i32 12350)], .agg [.lit (.int .i32 12353), .lit (.int .i32 12440)], .agg [.lit (.int .i32 12443), .lit (.int .i32 13311)], .agg [.lit (.int .i32 13312), .lit (.int .i32 19903)], .agg [.lit (.int .i32 19968), .lit (.int .i32 42191)], .agg [.lit (.int .i32 43360), .lit (.int .i32 43391)], .agg [.lit (.int .i32 44032), .lit (.int .i32 55203)], .agg [.lit (.int .i32 63744), .lit (.int .i32 64255)], .agg [.lit (.int .i32 65072), .lit (.int .i32 65135)], .agg [.lit (.int .i32 65280), .lit (.int .i32 65376)], .agg [.lit (.int .i32 65504), .lit (.int .i32 65510)], .agg [.lit (.int .i32 127744), .lit (.int .i32 128591)], .agg [.lit (.int .i32 128640), .lit (.int .i32 128767)], .agg [.lit (.int .i32 129280), .lit (.int .i32 129535)], .agg [.lit (.int .i32 131072), .lit (.int .i32 196605)], .agg [.lit (.int .i32 196608), .lit (.int .i32 262141)]]
def laid_unicode_utf8_acceptRanges {H : Type} : DataW H := .agg [.agg [.lit (.int .u8 128), .lit (.int .u8 191)], .agg [.lit (.int .u8 160), .lit (.int .u8 191)], .agg [.lit (.int .u8 128), .lit (.int .u8 159)], .agg [.lit (.int .u8 144), .lit (.int .u8 191)], .agg [.lit (.int .u8 128), .lit (.int .u8 143)], .agg [.lit (.int .u8 0), .lit (.int .u8 0)], .agg [.lit (.int .u8 0), .lit (.int .u8 0)], .agg [.lit (.int .u8 0), .lit (.int .u8 0)], .agg [.lit (.int .u8 0), .lit (.int .u8 0)], .agg [.lit (.int .u8 0), .lit (.int .u8 0)], .agg [.lit (.int .u8 0), .lit (.int .u8 0)], .agg [.lit (.int .u8 0), .lit (.int .u8 0)], .agg [.lit (.int .u8 0), .lit (.int .u8 0)], .agg [.lit (.int .u8 0), .lit (.int .u8 0)], .agg [.lit (.int .u8 0), .lit (.int .u8 0)], .agg [.lit (.int .u8 0), .lit (.int .u8 0)]]
/-- One of Go's own tables, pinned by name: the form's constant. -/
def laid_unicode_utf8_first : DataW Unit := Go.Pinned.utf8First

/-- 'scrollbacklaw42.SearchHolds': WHATEVER THE INPUT: true; the input reads as it did. -/
def searchHoldsSpec : ChangeSpec := { name := "searchHolds", fn := fun _ => fun
  | [d1, d2, d3, d4] => { results := [.lit (.bool true)], args := [d1, d2, d3, d4] }
  | _ => none }
def searchHoldsRow : OpenClaim := { program := "ytfdolhppbimbmaadoor", sum := "0075bc805ad9e70b9d6a12a125cb3c0544a3d4a670632147ee5021b6a8060c27", func := "scrollback/scrollbacklaw42.SearchHolds", spec := "searchHolds", inPlace := ["internal/abi.NoEscape", "internal/bytealg.IndexByteString", "internal/bytealg.IndexString"], unfollowed := true, recurses := true, named := ["scrollback/width.marks", "scrollback/width.wide", "internal/bytealg.MaxLen"], apart := false, laid := [("scrollback/width.marks", laid_scrollback_width_marks), ("scrollback/width.wide", laid_scrollback_width_wide)] }
def SearchHoldsSaid : Prop := searchHoldsRow.holds Tryd.pinned (OpenSpec.ofChange searchHoldsSpec)

/-- ITS FALSE NEIGHBOUR: 'it returns false'. Refute it at one input. -/
def searchHoldsWrong : ChangeSpec := { name := "searchHolds", fn := fun _ => fun
  | [d1, d2, d3, d4] => { results := [.lit (.bool false)], args := [d1, d2, d3, d4] }
  | _ => none }
def SearchHoldsWrongFalsely : Prop := searchHoldsRow.holds Tryd.pinned (OpenSpec.ofChange searchHoldsWrong)

/-- 'scrollbacklaw43.LinksFind': WHATEVER THE INPUT: true; the input reads as it did. -/
def linksFindSpec : ChangeSpec := { name := "linksFind", fn := fun _ => fun
  | [d] => { results := [.lit (.bool true)], args := [d] }
  | _ => none }
def linksFindRow : OpenClaim := { program := "ytfdolhppbimbmaadoor", sum := "0075bc805ad9e70b9d6a12a125cb3c0544a3d4a670632147ee5021b6a8060c27", func := "scrollback/scrollbacklaw43.LinksFind", spec := "linksFind", inPlace := ["internal/bytealg.IndexByteString", "internal/bytealg.IndexString", "internal/bytealg.CountString", "internal/abi.NoEscape"], unfollowed := true, recurses := true, named := ["internal/bytealg.MaxLen", "scrollback/width.marks", "scrollback/width.wide"], apart := false, laid := [("scrollback/width.marks", laid_scrollback_width_marks), ("scrollback/width.wide", laid_scrollback_width_wide)] }
def LinksFindSaid : Prop := linksFindRow.holds Tryd.pinned (OpenSpec.ofChange linksFindSpec)

/-- ITS FALSE NEIGHBOUR: 'it returns false'. Refute it at one input. -/
def linksFindWrong : ChangeSpec := { name := "linksFind", fn := fun _ => fun
  | [d] => { results := [.lit (.bool false)], args := [d] }
  | _ => none }
def LinksFindWrongFalsely : Prop := linksFindRow.holds Tryd.pinned (OpenSpec.ofChange linksFindWrong)

/-- 'scrollbacklaw43.LinksRunes': WHATEVER THE INPUT: true; the input reads as it did. -/
def linksRunesSpec : ChangeSpec := { name := "linksRunes", fn := fun _ => fun
  | [d] => { results := [.lit (.bool true)], args := [d] }
  | _ => none }
def linksRunesRow : OpenClaim := { program := "ytfdolhppbimbmaadoor", sum := "0075bc805ad9e70b9d6a12a125cb3c0544a3d4a670632147ee5021b6a8060c27", func := "scrollback/scrollbacklaw43.LinksRunes", spec := "linksRunes", inPlace := ["internal/bytealg.IndexByteString", "internal/bytealg.IndexString", "internal/bytealg.CountString", "internal/abi.NoEscape"], unfollowed := true, recurses := true, named := ["internal/bytealg.MaxLen", "scrollback/width.marks", "scrollback/width.wide"], apart := false, laid := [("scrollback/width.marks", laid_scrollback_width_marks), ("scrollback/width.wide", laid_scrollback_width_wide)] }
def LinksRunesSaid : Prop := linksRunesRow.holds Tryd.pinned (OpenSpec.ofChange linksRunesSpec)

/-- ITS FALSE NEIGHBOUR: 'it returns false'. Refute it at one input. -/
def linksRunesWrong : ChangeSpec := { name := "linksRunes", fn := fun _ => fun
  | [d] => { results := [.lit (.bool false)], args := [d] }
  | _ => none }
def LinksRunesWrongFalsely : Prop := linksRunesRow.holds Tryd.pinned (OpenSpec.ofChange linksRunesWrong)

/-- 'scrollbacklaw43.LinksRows': WHATEVER THE INPUT: true; the input reads as it did. -/
def linksRowsSpec : ChangeSpec := { name := "linksRows", fn := fun _ => fun
  | [d1, d2, d3] => { results := [.lit (.bool true)], args := [d1, d2, d3] }
  | _ => none }
def linksRowsRow : OpenClaim := { program := "ytfdolhppbimbmaadoor", sum := "0075bc805ad9e70b9d6a12a125cb3c0544a3d4a670632147ee5021b6a8060c27", func := "scrollback/scrollbacklaw43.LinksRows", spec := "linksRows", inPlace := ["internal/bytealg.IndexByteString", "internal/bytealg.IndexString", "internal/bytealg.CountString", "internal/abi.NoEscape"], unfollowed := true, recurses := true, named := ["internal/bytealg.MaxLen", "scrollback/width.marks", "scrollback/width.wide"], apart := false, laid := [("scrollback/width.marks", laid_scrollback_width_marks), ("scrollback/width.wide", laid_scrollback_width_wide)] }
def LinksRowsSaid : Prop := linksRowsRow.holds Tryd.pinned (OpenSpec.ofChange linksRowsSpec)

/-- ITS FALSE NEIGHBOUR: 'it returns false'. Refute it at one input. -/
def linksRowsWrong : ChangeSpec := { name := "linksRows", fn := fun _ => fun
  | [d1, d2, d3] => { results := [.lit (.bool false)], args := [d1, d2, d3] }
  | _ => none }
def LinksRowsWrongFalsely : Prop := linksRowsRow.holds Tryd.pinned (OpenSpec.ofChange linksRowsWrong)

/-- 'scrollbacklaw43.LinksMany': WHATEVER THE INPUT: true; the input reads as it did. -/
def linksManySpec : ChangeSpec := { name := "linksMany", fn := fun _ => fun
  | [d1, d2] => { results := [.lit (.bool true)], args := [d1, d2] }
  | _ => none }
def linksManyRow : OpenClaim := { program := "ytfdolhppbimbmaadoor", sum := "0075bc805ad9e70b9d6a12a125cb3c0544a3d4a670632147ee5021b6a8060c27", func := "scrollback/scrollbacklaw43.LinksMany", spec := "linksMany", inPlace := ["internal/bytealg.IndexByteString", "internal/bytealg.IndexString", "internal/bytealg.CountString", "internal/abi.NoEscape"], unfollowed := true, recurses := true, named := ["internal/bytealg.MaxLen", "scrollback/width.marks", "scrollback/width.wide"], apart := false, laid := [("scrollback/width.marks", laid_scrollback_width_marks), ("scrollback/width.wide", laid_scrollback_width_wide)] }
def LinksManySaid : Prop := linksManyRow.holds Tryd.pinned (OpenSpec.ofChange linksManySpec)

/-- ITS FALSE NEIGHBOUR: 'it returns false'. Refute it at one input. -/
def linksManyWrong : ChangeSpec := { name := "linksMany", fn := fun _ => fun
  | [d1, d2] => { results := [.lit (.bool false)], args := [d1, d2] }
  | _ => none }
def LinksManyWrongFalsely : Prop := linksManyRow.holds Tryd.pinned (OpenSpec.ofChange linksManyWrong)

/-- 'scrollbacklaw43.LinksHolds': WHATEVER THE INPUT: true; the input reads as it did. -/
def linksHoldsSpec : ChangeSpec := { name := "linksHolds", fn := fun _ => fun
  | [d1, d2, d3] => { results := [.lit (.bool true)], args := [d1, d2, d3] }
  | _ => none }
def linksHoldsRow : OpenClaim := { program := "ytfdolhppbimbmaadoor", sum := "0075bc805ad9e70b9d6a12a125cb3c0544a3d4a670632147ee5021b6a8060c27", func := "scrollback/scrollbacklaw43.LinksHolds", spec := "linksHolds", inPlace := ["internal/bytealg.IndexByteString", "internal/bytealg.IndexString", "internal/bytealg.CountString", "internal/abi.NoEscape"], unfollowed := true, recurses := true, named := ["internal/bytealg.MaxLen", "scrollback/width.marks", "scrollback/width.wide"], apart := false, laid := [("scrollback/width.marks", laid_scrollback_width_marks), ("scrollback/width.wide", laid_scrollback_width_wide)] }
def LinksHoldsSaid : Prop := linksHoldsRow.holds Tryd.pinned (OpenSpec.ofChange linksHoldsSpec)

/-- ITS FALSE NEIGHBOUR: 'it returns false'. Refute it at one input. -/
def linksHoldsWrong : ChangeSpec := { name := "linksHolds", fn := fun _ => fun
  | [d1, d2, d3] => { results := [.lit (.bool false)], args := [d1, d2, d3] }
  | _ => none }
def LinksHoldsWrongFalsely : Prop := linksHoldsRow.holds Tryd.pinned (OpenSpec.ofChange linksHoldsWrong)

/-- 'scrollbacklaw41.ChooseSpans': WHATEVER THE INPUT: true; the input reads as it did. -/
def chooseSpansSpec : ChangeSpec := { name := "chooseSpans", fn := fun _ => fun
  | [d1, d2, d3] => { results := [.lit (.bool true)], args := [d1, d2, d3] }
  | _ => none }
def chooseSpansRow : OpenClaim := { program := "ytfdolhppbimbmaadoor", sum := "0075bc805ad9e70b9d6a12a125cb3c0544a3d4a670632147ee5021b6a8060c27", func := "scrollback/scrollbacklaw41.ChooseSpans", spec := "chooseSpans", inPlace := ["internal/bytealg.IndexByteString", "internal/bytealg.IndexString", "internal/abi.NoEscape", "internal/bytealg.MakeNoZero"], unfollowed := true, recurses := true, named := ["scrollback/width.marks", "scrollback/width.wide", "unicode/utf8.first", "unicode/utf8.acceptRanges", "internal/bytealg.MaxLen"], apart := false, laid := [("unicode/utf8.acceptRanges", laid_unicode_utf8_acceptRanges), ("scrollback/width.marks", laid_scrollback_width_marks), ("scrollback/width.wide", laid_scrollback_width_wide), ("unicode/utf8.first", laid_unicode_utf8_first)] }
def ChooseSpansSaid : Prop := chooseSpansRow.holds Tryd.pinned (OpenSpec.ofChange chooseSpansSpec)

/-- ITS FALSE NEIGHBOUR: 'it returns false'. Refute it at one input. -/
def chooseSpansWrong : ChangeSpec := { name := "chooseSpans", fn := fun _ => fun
  | [d1, d2, d3] => { results := [.lit (.bool false)], args := [d1, d2, d3] }
  | _ => none }
def ChooseSpansWrongFalsely : Prop := chooseSpansRow.holds Tryd.pinned (OpenSpec.ofChange chooseSpansWrong)

/-- 'scrollbacklaw41.ChooseWords': WHATEVER THE INPUT: true; the input reads as it did. -/
def chooseWordsSpec : ChangeSpec := { name := "chooseWords", fn := fun _ => fun
  | [d1, d2, d3] => { results := [.lit (.bool true)], args := [d1, d2, d3] }
  | _ => none }
def chooseWordsRow : OpenClaim := { program := "ytfdolhppbimbmaadoor", sum := "0075bc805ad9e70b9d6a12a125cb3c0544a3d4a670632147ee5021b6a8060c27", func := "scrollback/scrollbacklaw41.ChooseWords", spec := "chooseWords", inPlace := ["internal/bytealg.IndexByteString", "internal/bytealg.IndexString", "internal/abi.NoEscape", "internal/bytealg.MakeNoZero"], unfollowed := true, recurses := true, named := ["scrollback/width.marks", "scrollback/width.wide", "unicode/utf8.first", "unicode/utf8.acceptRanges", "internal/bytealg.MaxLen"], apart := false, laid := [("unicode/utf8.acceptRanges", laid_unicode_utf8_acceptRanges), ("scrollback/width.marks", laid_scrollback_width_marks), ("scrollback/width.wide", laid_scrollback_width_wide), ("unicode/utf8.first", laid_unicode_utf8_first)] }
def ChooseWordsSaid : Prop := chooseWordsRow.holds Tryd.pinned (OpenSpec.ofChange chooseWordsSpec)

/-- ITS FALSE NEIGHBOUR: 'it returns false'. Refute it at one input. -/
def chooseWordsWrong : ChangeSpec := { name := "chooseWords", fn := fun _ => fun
  | [d1, d2, d3] => { results := [.lit (.bool false)], args := [d1, d2, d3] }
  | _ => none }
def ChooseWordsWrongFalsely : Prop := chooseWordsRow.holds Tryd.pinned (OpenSpec.ofChange chooseWordsWrong)

/-- 'scrollbacklaw41.ChooseMany': WHATEVER THE INPUT: true; the input reads as it did. -/
def chooseManySpec : ChangeSpec := { name := "chooseMany", fn := fun _ => fun
  | [d1, d2, d3] => { results := [.lit (.bool true)], args := [d1, d2, d3] }
  | _ => none }
def chooseManyRow : OpenClaim := { program := "ytfdolhppbimbmaadoor", sum := "0075bc805ad9e70b9d6a12a125cb3c0544a3d4a670632147ee5021b6a8060c27", func := "scrollback/scrollbacklaw41.ChooseMany", spec := "chooseMany", inPlace := ["internal/bytealg.IndexByteString", "internal/bytealg.IndexString", "internal/abi.NoEscape", "internal/bytealg.MakeNoZero"], unfollowed := true, recurses := true, named := ["scrollback/width.marks", "scrollback/width.wide", "unicode/utf8.first", "unicode/utf8.acceptRanges", "internal/bytealg.MaxLen"], apart := false, laid := [("unicode/utf8.acceptRanges", laid_unicode_utf8_acceptRanges), ("scrollback/width.marks", laid_scrollback_width_marks), ("scrollback/width.wide", laid_scrollback_width_wide), ("unicode/utf8.first", laid_unicode_utf8_first)] }
def ChooseManySaid : Prop := chooseManyRow.holds Tryd.pinned (OpenSpec.ofChange chooseManySpec)

/-- ITS FALSE NEIGHBOUR: 'it returns false'. Refute it at one input. -/
def chooseManyWrong : ChangeSpec := { name := "chooseMany", fn := fun _ => fun
  | [d1, d2, d3] => { results := [.lit (.bool false)], args := [d1, d2, d3] }
  | _ => none }
def ChooseManyWrongFalsely : Prop := chooseManyRow.holds Tryd.pinned (OpenSpec.ofChange chooseManyWrong)

/-- 'scrollbacklaw41.ChooseHolds': WHATEVER THE INPUT: true; the input reads as it did. -/
def chooseHoldsSpec : ChangeSpec := { name := "chooseHolds", fn := fun _ => fun
  | [d1, d2, d3, d4] => { results := [.lit (.bool true)], args := [d1, d2, d3, d4] }
  | _ => none }
def chooseHoldsRow : OpenClaim := { program := "ytfdolhppbimbmaadoor", sum := "0075bc805ad9e70b9d6a12a125cb3c0544a3d4a670632147ee5021b6a8060c27", func := "scrollback/scrollbacklaw41.ChooseHolds", spec := "chooseHolds", inPlace := ["internal/bytealg.IndexByteString", "internal/bytealg.IndexString", "internal/abi.NoEscape", "internal/bytealg.MakeNoZero"], unfollowed := true, recurses := true, named := ["scrollback/width.marks", "scrollback/width.wide", "unicode/utf8.first", "unicode/utf8.acceptRanges", "internal/bytealg.MaxLen"], apart := false, laid := [("unicode/utf8.acceptRanges", laid_unicode_utf8_acceptRanges), ("scrollback/width.marks", laid_scrollback_width_marks), ("scrollback/width.wide", laid_scrollback_width_wide), ("unicode/utf8.first", laid_unicode_utf8_first)] }
def ChooseHoldsSaid : Prop := chooseHoldsRow.holds Tryd.pinned (OpenSpec.ofChange chooseHoldsSpec)

/-- ITS FALSE NEIGHBOUR: 'it returns false'. Refute it at one input. -/
def chooseHoldsWrong : ChangeSpec := { name := "chooseHolds", fn := fun _ => fun
  | [d1, d2, d3, d4] => { results := [.lit (.bool false)], args := [d1, d2, d3, d4] }
  | _ => none }
def ChooseHoldsWrongFalsely : Prop := chooseHoldsRow.holds Tryd.pinned (OpenSpec.ofChange chooseHoldsWrong)

/-- 'scrollbacklaw41.ChooseBytes': WHATEVER THE INPUT: true; the input reads as it did. -/
def chooseBytesSpec : ChangeSpec := { name := "chooseBytes", fn := fun _ => fun
  | [d] => { results := [.lit (.bool true)], args := [d] }
  | _ => none }
def chooseBytesRow : OpenClaim := { program := "ytfdolhppbimbmaadoor", sum := "0075bc805ad9e70b9d6a12a125cb3c0544a3d4a670632147ee5021b6a8060c27", func := "scrollback/scrollbacklaw41.ChooseBytes", spec := "chooseBytes", inPlace := ["internal/bytealg.IndexByteString", "internal/bytealg.IndexString", "internal/abi.NoEscape", "internal/bytealg.MakeNoZero"], unfollowed := true, recurses := true, named := ["scrollback/width.marks", "scrollback/width.wide", "unicode/utf8.first", "unicode/utf8.acceptRanges", "internal/bytealg.MaxLen"], apart := false, laid := [("unicode/utf8.acceptRanges", laid_unicode_utf8_acceptRanges), ("scrollback/width.marks", laid_scrollback_width_marks), ("scrollback/width.wide", laid_scrollback_width_wide), ("unicode/utf8.first", laid_unicode_utf8_first)] }
def ChooseBytesSaid : Prop := chooseBytesRow.holds Tryd.pinned (OpenSpec.ofChange chooseBytesSpec)

/-- ITS FALSE NEIGHBOUR: 'it returns false'. Refute it at one input. -/
def chooseBytesWrong : ChangeSpec := { name := "chooseBytes", fn := fun _ => fun
  | [d] => { results := [.lit (.bool false)], args := [d] }
  | _ => none }
def ChooseBytesWrongFalsely : Prop := chooseBytesRow.holds Tryd.pinned (OpenSpec.ofChange chooseBytesWrong)

/-- 'scrollbacklaw40.TextHolds': WHATEVER THE INPUT: true; the input reads as it did. -/
def textHoldsSpec : ChangeSpec := { name := "textHolds", fn := fun _ => fun
  | [d1, d2, d3] => { results := [.lit (.bool true)], args := [d1, d2, d3] }
  | _ => none }
def textHoldsRow : OpenClaim := { program := "ytfdolhppbimbmaadoor", sum := "0075bc805ad9e70b9d6a12a125cb3c0544a3d4a670632147ee5021b6a8060c27", func := "scrollback/scrollbacklaw40.TextHolds", spec := "textHolds", inPlace := ["internal/abi.NoEscape", "internal/bytealg.IndexByteString", "internal/bytealg.IndexString", "internal/bytealg.MakeNoZero"], unfollowed := true, recurses := true, named := ["scrollback/width.marks", "scrollback/width.wide", "unicode/utf8.first", "unicode/utf8.acceptRanges", "internal/bytealg.MaxLen"], apart := false, laid := [("unicode/utf8.acceptRanges", laid_unicode_utf8_acceptRanges), ("scrollback/width.marks", laid_scrollback_width_marks), ("scrollback/width.wide", laid_scrollback_width_wide), ("unicode/utf8.first", laid_unicode_utf8_first)] }
def TextHoldsSaid : Prop := textHoldsRow.holds Tryd.pinned (OpenSpec.ofChange textHoldsSpec)

/-- ITS FALSE NEIGHBOUR: 'it returns false'. Refute it at one input. -/
def textHoldsWrong : ChangeSpec := { name := "textHolds", fn := fun _ => fun
  | [d1, d2, d3] => { results := [.lit (.bool false)], args := [d1, d2, d3] }
  | _ => none }
def TextHoldsWrongFalsely : Prop := textHoldsRow.holds Tryd.pinned (OpenSpec.ofChange textHoldsWrong)

/- THE SECOND FORM. 'bulk': how many values and letters a reading holds, each counted each time it is reached (what is shared counts as often as it is met; a slice's spare places count too). A statement '..UptoSaid' is the law's where the arguments, and the package variables that the reading takes, are together of bulk at most 1048576: NARROWER than '..Said'. Prove '..Said' where nothing that the law and all that it calls make is longer than what came in: it says more and counts as full. Else prove '..UptoSaid'. A law counts once. -/
mutual
def uptoBulk {H : Type} : DataW H → Nat
  | .lit (.string bytes) => bytes.length + 1
  | .lit _ => 1
  | .nil => 1
  | .ptr d => uptoBulk d + 1
  | .slice elems spare => uptoBulkAll elems + uptoBulkAll spare + 1
  | .agg parts => uptoBulkAll parts + 1
  | .iface _ d => uptoBulk d + 1
  | .map entries => uptoBulkEntries entries + 1
  | .held _ => 1
def uptoBulkAll {H : Type} : List (DataW H) → Nat
  | [] => 0
  | d :: r => uptoBulk d + uptoBulkAll r
def uptoBulkEntries {H : Type} : List (Lit × DataW H) → Nat
  | [] => 0
  | x :: r => uptoBulkEntry x + uptoBulkEntries r
def uptoBulkEntry {H : Type} : Lit × DataW H → Nat
  | (.string bytes, d) => bytes.length + uptoBulk d + 1
  | (_, d) => uptoBulk d + 1
 end
def uptoSmall : (H : Type) → List (DataW H) → Bool := fun _ ds => decide (uptoBulkAll ds ≤ 1048576)
def OpenSpec.upto (s : _root_.Go.ChangeSpec) : _root_.Go.OpenSpec := { _root_.Go.OpenSpec.ofChange s with cond := some uptoSmall }

/-- 'scrollbacklaw42.SearchHolds', WHERE WHAT IT READS IS OF BULK AT MOST 1048576: true; the input reads as it did. -/
def searchHoldsUptoRow : OpenClaim := { program := "ytfdolhppbimbmaadoor", sum := "0075bc805ad9e70b9d6a12a125cb3c0544a3d4a670632147ee5021b6a8060c27", func := "scrollback/scrollbacklaw42.SearchHolds", spec := "searchHolds", inPlace := ["internal/abi.NoEscape", "internal/bytealg.IndexByteString", "internal/bytealg.IndexString"], unfollowed := true, recurses := true, named := ["scrollback/width.marks", "scrollback/width.wide", "internal/bytealg.MaxLen"], apart := false, laid := [("scrollback/width.marks", laid_scrollback_width_marks), ("scrollback/width.wide", laid_scrollback_width_wide)], narrowed := true }
def SearchHoldsUptoSaid : Prop := searchHoldsUptoRow.holds Tryd.pinned (OpenSpec.upto searchHoldsSpec)

/-- 'scrollbacklaw43.LinksFind', WHERE WHAT IT READS IS OF BULK AT MOST 1048576: true; the input reads as it did. -/
def linksFindUptoRow : OpenClaim := { program := "ytfdolhppbimbmaadoor", sum := "0075bc805ad9e70b9d6a12a125cb3c0544a3d4a670632147ee5021b6a8060c27", func := "scrollback/scrollbacklaw43.LinksFind", spec := "linksFind", inPlace := ["internal/bytealg.IndexByteString", "internal/bytealg.IndexString", "internal/bytealg.CountString", "internal/abi.NoEscape"], unfollowed := true, recurses := true, named := ["internal/bytealg.MaxLen", "scrollback/width.marks", "scrollback/width.wide"], apart := false, laid := [("scrollback/width.marks", laid_scrollback_width_marks), ("scrollback/width.wide", laid_scrollback_width_wide)], narrowed := true }
def LinksFindUptoSaid : Prop := linksFindUptoRow.holds Tryd.pinned (OpenSpec.upto linksFindSpec)

/-- 'scrollbacklaw43.LinksRunes', WHERE WHAT IT READS IS OF BULK AT MOST 1048576: true; the input reads as it did. -/
def linksRunesUptoRow : OpenClaim := { program := "ytfdolhppbimbmaadoor", sum := "0075bc805ad9e70b9d6a12a125cb3c0544a3d4a670632147ee5021b6a8060c27", func := "scrollback/scrollbacklaw43.LinksRunes", spec := "linksRunes", inPlace := ["internal/bytealg.IndexByteString", "internal/bytealg.IndexString", "internal/bytealg.CountString", "internal/abi.NoEscape"], unfollowed := true, recurses := true, named := ["internal/bytealg.MaxLen", "scrollback/width.marks", "scrollback/width.wide"], apart := false, laid := [("scrollback/width.marks", laid_scrollback_width_marks), ("scrollback/width.wide", laid_scrollback_width_wide)], narrowed := true }
def LinksRunesUptoSaid : Prop := linksRunesUptoRow.holds Tryd.pinned (OpenSpec.upto linksRunesSpec)

/-- 'scrollbacklaw43.LinksRows', WHERE WHAT IT READS IS OF BULK AT MOST 1048576: true; the input reads as it did. -/
def linksRowsUptoRow : OpenClaim := { program := "ytfdolhppbimbmaadoor", sum := "0075bc805ad9e70b9d6a12a125cb3c0544a3d4a670632147ee5021b6a8060c27", func := "scrollback/scrollbacklaw43.LinksRows", spec := "linksRows", inPlace := ["internal/bytealg.IndexByteString", "internal/bytealg.IndexString", "internal/bytealg.CountString", "internal/abi.NoEscape"], unfollowed := true, recurses := true, named := ["internal/bytealg.MaxLen", "scrollback/width.marks", "scrollback/width.wide"], apart := false, laid := [("scrollback/width.marks", laid_scrollback_width_marks), ("scrollback/width.wide", laid_scrollback_width_wide)], narrowed := true }
def LinksRowsUptoSaid : Prop := linksRowsUptoRow.holds Tryd.pinned (OpenSpec.upto linksRowsSpec)

/-- 'scrollbacklaw43.LinksMany', WHERE WHAT IT READS IS OF BULK AT MOST 1048576: true; the input reads as it did. -/
def linksManyUptoRow : OpenClaim := { program := "ytfdolhppbimbmaadoor", sum := "0075bc805ad9e70b9d6a12a125cb3c0544a3d4a670632147ee5021b6a8060c27", func := "scrollback/scrollbacklaw43.LinksMany", spec := "linksMany", inPlace := ["internal/bytealg.IndexByteString", "internal/bytealg.IndexString", "internal/bytealg.CountString", "internal/abi.NoEscape"], unfollowed := true, recurses := true, named := ["internal/bytealg.MaxLen", "scrollback/width.marks", "scrollback/width.wide"], apart := false, laid := [("scrollback/width.marks", laid_scrollback_width_marks), ("scrollback/width.wide", laid_scrollback_width_wide)], narrowed := true }
def LinksManyUptoSaid : Prop := linksManyUptoRow.holds Tryd.pinned (OpenSpec.upto linksManySpec)

/-- 'scrollbacklaw43.LinksHolds', WHERE WHAT IT READS IS OF BULK AT MOST 1048576: true; the input reads as it did. -/
def linksHoldsUptoRow : OpenClaim := { program := "ytfdolhppbimbmaadoor", sum := "0075bc805ad9e70b9d6a12a125cb3c0544a3d4a670632147ee5021b6a8060c27", func := "scrollback/scrollbacklaw43.LinksHolds", spec := "linksHolds", inPlace := ["internal/bytealg.IndexByteString", "internal/bytealg.IndexString", "internal/bytealg.CountString", "internal/abi.NoEscape"], unfollowed := true, recurses := true, named := ["internal/bytealg.MaxLen", "scrollback/width.marks", "scrollback/width.wide"], apart := false, laid := [("scrollback/width.marks", laid_scrollback_width_marks), ("scrollback/width.wide", laid_scrollback_width_wide)], narrowed := true }
def LinksHoldsUptoSaid : Prop := linksHoldsUptoRow.holds Tryd.pinned (OpenSpec.upto linksHoldsSpec)

/-- 'scrollbacklaw41.ChooseSpans', WHERE WHAT IT READS IS OF BULK AT MOST 1048576: true; the input reads as it did. -/
def chooseSpansUptoRow : OpenClaim := { program := "ytfdolhppbimbmaadoor", sum := "0075bc805ad9e70b9d6a12a125cb3c0544a3d4a670632147ee5021b6a8060c27", func := "scrollback/scrollbacklaw41.ChooseSpans", spec := "chooseSpans", inPlace := ["internal/bytealg.IndexByteString", "internal/bytealg.IndexString", "internal/abi.NoEscape", "internal/bytealg.MakeNoZero"], unfollowed := true, recurses := true, named := ["scrollback/width.marks", "scrollback/width.wide", "unicode/utf8.first", "unicode/utf8.acceptRanges", "internal/bytealg.MaxLen"], apart := false, laid := [("unicode/utf8.acceptRanges", laid_unicode_utf8_acceptRanges), ("scrollback/width.marks", laid_scrollback_width_marks), ("scrollback/width.wide", laid_scrollback_width_wide), ("unicode/utf8.first", laid_unicode_utf8_first)], narrowed := true }
def ChooseSpansUptoSaid : Prop := chooseSpansUptoRow.holds Tryd.pinned (OpenSpec.upto chooseSpansSpec)

/-- 'scrollbacklaw41.ChooseWords', WHERE WHAT IT READS IS OF BULK AT MOST 1048576: true; the input reads as it did. -/
def chooseWordsUptoRow : OpenClaim := { program := "ytfdolhppbimbmaadoor", sum := "0075bc805ad9e70b9d6a12a125cb3c0544a3d4a670632147ee5021b6a8060c27", func := "scrollback/scrollbacklaw41.ChooseWords", spec := "chooseWords", inPlace := ["internal/bytealg.IndexByteString", "internal/bytealg.IndexString", "internal/abi.NoEscape", "internal/bytealg.MakeNoZero"], unfollowed := true, recurses := true, named := ["scrollback/width.marks", "scrollback/width.wide", "unicode/utf8.first", "unicode/utf8.acceptRanges", "internal/bytealg.MaxLen"], apart := false, laid := [("unicode/utf8.acceptRanges", laid_unicode_utf8_acceptRanges), ("scrollback/width.marks", laid_scrollback_width_marks), ("scrollback/width.wide", laid_scrollback_width_wide), ("unicode/utf8.first", laid_unicode_utf8_first)], narrowed := true }
def ChooseWordsUptoSaid : Prop := chooseWordsUptoRow.holds Tryd.pinned (OpenSpec.upto chooseWordsSpec)

/-- 'scrollbacklaw41.ChooseMany', WHERE WHAT IT READS IS OF BULK AT MOST 1048576: true; the input reads as it did. -/
def chooseManyUptoRow : OpenClaim := { program := "ytfdolhppbimbmaadoor", sum := "0075bc805ad9e70b9d6a12a125cb3c0544a3d4a670632147ee5021b6a8060c27", func := "scrollback/scrollbacklaw41.ChooseMany", spec := "chooseMany", inPlace := ["internal/bytealg.IndexByteString", "internal/bytealg.IndexString", "internal/abi.NoEscape", "internal/bytealg.MakeNoZero"], unfollowed := true, recurses := true, named := ["scrollback/width.marks", "scrollback/width.wide", "unicode/utf8.first", "unicode/utf8.acceptRanges", "internal/bytealg.MaxLen"], apart := false, laid := [("unicode/utf8.acceptRanges", laid_unicode_utf8_acceptRanges), ("scrollback/width.marks", laid_scrollback_width_marks), ("scrollback/width.wide", laid_scrollback_width_wide), ("unicode/utf8.first", laid_unicode_utf8_first)], narrowed := true }
def ChooseManyUptoSaid : Prop := chooseManyUptoRow.holds Tryd.pinned (OpenSpec.upto chooseManySpec)

/-- 'scrollbacklaw41.ChooseHolds', WHERE WHAT IT READS IS OF BULK AT MOST 1048576: true; the input reads as it did. -/
def chooseHoldsUptoRow : OpenClaim := { program := "ytfdolhppbimbmaadoor", sum := "0075bc805ad9e70b9d6a12a125cb3c0544a3d4a670632147ee5021b6a8060c27", func := "scrollback/scrollbacklaw41.ChooseHolds", spec := "chooseHolds", inPlace := ["internal/bytealg.IndexByteString", "internal/bytealg.IndexString", "internal/abi.NoEscape", "internal/bytealg.MakeNoZero"], unfollowed := true, recurses := true, named := ["scrollback/width.marks", "scrollback/width.wide", "unicode/utf8.first", "unicode/utf8.acceptRanges", "internal/bytealg.MaxLen"], apart := false, laid := [("unicode/utf8.acceptRanges", laid_unicode_utf8_acceptRanges), ("scrollback/width.marks", laid_scrollback_width_marks), ("scrollback/width.wide", laid_scrollback_width_wide), ("unicode/utf8.first", laid_unicode_utf8_first)], narrowed := true }
def ChooseHoldsUptoSaid : Prop := chooseHoldsUptoRow.holds Tryd.pinned (OpenSpec.upto chooseHoldsSpec)

/-- 'scrollbacklaw41.ChooseBytes', WHERE WHAT IT READS IS OF BULK AT MOST 1048576: true; the input reads as it did. -/
def chooseBytesUptoRow : OpenClaim := { program := "ytfdolhppbimbmaadoor", sum := "0075bc805ad9e70b9d6a12a125cb3c0544a3d4a670632147ee5021b6a8060c27", func := "scrollback/scrollbacklaw41.ChooseBytes", spec := "chooseBytes", inPlace := ["internal/bytealg.IndexByteString", "internal/bytealg.IndexString", "internal/abi.NoEscape", "internal/bytealg.MakeNoZero"], unfollowed := true, recurses := true, named := ["scrollback/width.marks", "scrollback/width.wide", "unicode/utf8.first", "unicode/utf8.acceptRanges", "internal/bytealg.MaxLen"], apart := false, laid := [("unicode/utf8.acceptRanges", laid_unicode_utf8_acceptRanges), ("scrollback/width.marks", laid_scrollback_width_marks), ("scrollback/width.wide", laid_scrollback_width_wide), ("unicode/utf8.first", laid_unicode_utf8_first)], narrowed := true }
def ChooseBytesUptoSaid : Prop := chooseBytesUptoRow.holds Tryd.pinned (OpenSpec.upto chooseBytesSpec)

/-- 'scrollbacklaw40.TextHolds', WHERE WHAT IT READS IS OF BULK AT MOST 1048576: true; the input reads as it did. -/
def textHoldsUptoRow : OpenClaim := { program := "ytfdolhppbimbmaadoor", sum := "0075bc805ad9e70b9d6a12a125cb3c0544a3d4a670632147ee5021b6a8060c27", func := "scrollback/scrollbacklaw40.TextHolds", spec := "textHolds", inPlace := ["internal/abi.NoEscape", "internal/bytealg.IndexByteString", "internal/bytealg.IndexString", "internal/bytealg.MakeNoZero"], unfollowed := true, recurses := true, named := ["scrollback/width.marks", "scrollback/width.wide", "unicode/utf8.first", "unicode/utf8.acceptRanges", "internal/bytealg.MaxLen"], apart := false, laid := [("unicode/utf8.acceptRanges", laid_unicode_utf8_acceptRanges), ("scrollback/width.marks", laid_scrollback_width_marks), ("scrollback/width.wide", laid_scrollback_width_wide), ("unicode/utf8.first", laid_unicode_utf8_first)], narrowed := true }
def TextHoldsUptoSaid : Prop := textHoldsUptoRow.holds Tryd.pinned (OpenSpec.upto textHoldsSpec)

end Rows
end Go.Proofs.YtfdolhppbimbmaaDoor
