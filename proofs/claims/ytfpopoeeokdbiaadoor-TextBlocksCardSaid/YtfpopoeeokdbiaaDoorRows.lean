/-
  NARROWER THAN 'FOR EVERY INPUT', by the rows' own cells (each row's printed sentence says how): TextBlocks: laid · TextFits: laid · TextRunes: laid · TextHolds: laid.
  DERIVED. THE GIVEN ROWS OF THIS SEAT. 4 by the template 'for every input the law returns true; each argument reads behind the call as it read before'; 0 by the template 'total and deterministic' (their statements: YtfpopoeeokdbiaaDoorTotals.lean).
  GIVEN WITH THE SEED: the statements are not yours to turn. If you find one false, say at which input.
  Laid BY PROGRAM, IN A SANDBOX (cutbox-rows.mjs): the forced cells as the released guide's own fill.sh prints them over the translation 431a6700264b4541… (all of the seat's roots in one cut). By AI agents, Wed Nov 11 2026. No macro, syntax, notation, axiom, sorry.
-/
import Derived.Test.YtfpopoeeokdbiaaDoorChecked
import GoSem.PinnedTables
import GoSem.Claim
import GoSem.ClaimJoined
import GoSem.ClaimMapViews
import Derived.JoinedTies
import Derived.KernelRfl
namespace Go.Proofs.YtfpopoeeokdbiaaDoor
/- THE CELL 'sum', in the pinned program and in every row, IS THE sha256 OF THE DUMP (.gsa) THAT YtfpopoeeokdbiaaDoorProg.lean LOADS. Nothing in Lean hashes anything: it is a label: what it is worth is what the hold of that sum in a sandbox is worth. -/
noncomputable def Tryd.pinned : Pinned := { name := "ytfpopoeeokdbiaadoor", sum := "431a6700264b4541dacca41327de445038a7485d484229867956b7e01958469d", checked := Tryd.checked }
namespace Rows
def none {H : Type} : Left H := { results := [], args := [] }

/- WHAT THE LISTED PACKAGE-LEVEL VARIABLES READ AS WHEN THE CALL BEGINS. Each datum BY PROGRAM (the guide's laid-datum.mjs) off the statement by which the dump's own 'gosem.cut.vars' lays the variable. In a bare row this is a premise. The card (YtfpopoeeokdbiaaDoorCards.lean) ties it to the program's text. -/
def laid_unicode_utf8_acceptRanges {H : Type} : DataW H := .agg [.agg [.lit (.int .u8 128), .lit (.int .u8 191)], .agg [.lit (.int .u8 160), .lit (.int .u8 191)], .agg [.lit (.int .u8 128), .lit (.int .u8 159)], .agg [.lit (.int .u8 144), .lit (.int .u8 191)], .agg [.lit (.int .u8 128), .lit (.int .u8 143)], .agg [.lit (.int .u8 0), .lit (.int .u8 0)], .agg [.lit (.int .u8 0), .lit (.int .u8 0)], .agg [.lit (.int .u8 0), .lit (.int .u8 0)], .agg [.lit (.int .u8 0), .lit (.int .u8 0)], .agg [.lit (.int .u8 0), .lit (.int .u8 0)], .agg [.lit (.int .u8 0), .lit (.int .u8 0)], .agg [.lit (.int .u8 0), .lit (.int .u8 0)], .agg [.lit (.int .u8 0), .lit (.int .u8 0)], .agg [.lit (.int .u8 0), .lit (.int .u8 0)], .agg [.lit (.int .u8 0), .lit (.int .u8 0)], .agg [.lit (.int .u8 0), .lit (.int .u8 0)]]
def laid_scrollback_width_marks {H : Type} : DataW H := .agg [.agg [.lit (.int .i32 768), .lit (.int .i32 879)], .agg [.lit (.int .i32 1155), .lit (.int .i32 1161)], .agg [.lit (.int .i32 1425), .lit (.int .i32 1469)], .agg [.lit (.int .i32 1552), .lit (.int .i32 1562)], .agg [.lit (.int .i32 1611), .lit (.int .i32 1631)], .agg [.lit (.int .i32 1750), .lit (.int .i32 1756)], .agg [.lit (.int .i32 3633), .lit (.int .i32 3633)], .agg [.lit (.int .i32 3636), .lit (.int .i32 3642)], .agg [.lit (.int .i32 3655), .lit (.int .i32 3662)], .agg [.lit (.int .i32 6832), .lit (.int .i32 6911)], .agg [.lit (.int .i32 7616), .lit (.int .i32 7679)], .agg [.lit (.int .i32 8203), .lit (.int .i32 8207)], .agg [.lit (.int .i32 8400), .lit (.int .i32 8447)], .agg [.lit (.int .i32 12330), .lit (.int .i32 12335)], .agg [.lit (.int .i32 12441), .lit (.int .i32 12442)], .agg [.lit (.int .i32 65024), .lit (.int .i32 65039)], .agg [.lit (.int .i32 65056), .lit (.int .i32 65071)], .agg [.lit (.int .i32 917760), .lit (.int .i32 917999)]]
def laid_scrollback_width_wide {H : Type} : DataW H := .agg [.agg [.lit (.int .i32 4352), .lit (.int .i32 4447)], .agg [.lit (.int .i32 9001), .lit (.int .i32 9002)], .agg [.lit (.int .i32 11904), .lit (.int .i32 12329)], .agg [.lit (.int .i32 12336), .lit (.int .i32 12350)], .agg [.lit (.int .i32 12353), .lit (.int .i32 12440)], .agg [.lit (.int .i32 12443), .lit (.int .i32 13311)], .agg [.lit (.int .i32 13312), .lit (.int .i32 19903)], .agg [.lit (.int .i32 19968), .lit (.int .i32 42191)], .agg [.lit (.int .i32 43360), .lit (.int .i32 43391)], .agg [.lit (.int .i32 44032), .lit (.int .i32 55203)], .agg [.lit (.int .i32 63744), .lit (.int .i32 64255)], .agg [.lit (.int .i32 65072), .lit (.int .i32 65135)], .agg [.lit (.int .i32 65280), .lit (.int .i32 65376)], .agg [.lit (.int .i32 65504), .lit (.int .i32 65510)], .agg [.lit (.int .i32 127744), .lit (.int .i32 128591)], .agg [.lit (.int .i32 128640), .lit (.int .i32 128767)], .agg [.lit (.int .i32 129280), .lit (.int .i32 129535)], .agg [.lit (.int .i32 131072), .lit (.int .i32 196605)], .agg [.lit (.int .i32 196608), .lit (.int .i32 262141)]]
/-- One of Go's own tables, pinned by name: the form's constant. -/
def laid_unicode_utf8_first : DataW Unit := Go.Pinned.utf8First

/-- 'scrollbacklaw40.TextBlocks': WHATEVER THE INPUT: true; the input reads as it did. -/
def textBlocksSpec : ChangeSpec := { name := "textBlocks", fn := fun _ => fun
  | [d1, d2, d3, d4, d5] => { results := [.lit (.bool true)], args := [d1, d2, d3, d4, d5] }
  | _ => none }
def textBlocksRow : OpenClaim := { program := "ytfpopoeeokdbiaadoor", sum := "431a6700264b4541dacca41327de445038a7485d484229867956b7e01958469d", func := "scrollback/scrollbacklaw40.TextBlocks", spec := "textBlocks", inPlace := ["internal/abi.NoEscape", "internal/bytealg.IndexByteString", "internal/bytealg.IndexString", "internal/bytealg.MakeNoZero"], unfollowed := true, recurses := true, named := ["scrollback/width.marks", "scrollback/width.wide", "unicode/utf8.first", "unicode/utf8.acceptRanges", "internal/bytealg.MaxLen"], apart := false, laid := [("unicode/utf8.acceptRanges", laid_unicode_utf8_acceptRanges), ("scrollback/width.marks", laid_scrollback_width_marks), ("scrollback/width.wide", laid_scrollback_width_wide), ("unicode/utf8.first", laid_unicode_utf8_first)] }
def TextBlocksSaid : Prop := textBlocksRow.holds Tryd.pinned (OpenSpec.ofChange textBlocksSpec)

/-- ITS FALSE NEIGHBOUR: 'it returns false'. Refute it at one input. -/
def textBlocksWrong : ChangeSpec := { name := "textBlocks", fn := fun _ => fun
  | [d1, d2, d3, d4, d5] => { results := [.lit (.bool false)], args := [d1, d2, d3, d4, d5] }
  | _ => none }
def TextBlocksWrongFalsely : Prop := textBlocksRow.holds Tryd.pinned (OpenSpec.ofChange textBlocksWrong)

/-- 'scrollbacklaw40.TextFits': WHATEVER THE INPUT: true; the input reads as it did. -/
def textFitsSpec : ChangeSpec := { name := "textFits", fn := fun _ => fun
  | [d1, d2] => { results := [.lit (.bool true)], args := [d1, d2] }
  | _ => none }
def textFitsRow : OpenClaim := { program := "ytfpopoeeokdbiaadoor", sum := "431a6700264b4541dacca41327de445038a7485d484229867956b7e01958469d", func := "scrollback/scrollbacklaw40.TextFits", spec := "textFits", inPlace := ["internal/abi.NoEscape", "internal/bytealg.IndexByteString", "internal/bytealg.IndexString", "internal/bytealg.MakeNoZero"], unfollowed := true, recurses := true, named := ["scrollback/width.marks", "scrollback/width.wide", "unicode/utf8.first", "unicode/utf8.acceptRanges", "internal/bytealg.MaxLen"], apart := false, laid := [("unicode/utf8.acceptRanges", laid_unicode_utf8_acceptRanges), ("scrollback/width.marks", laid_scrollback_width_marks), ("scrollback/width.wide", laid_scrollback_width_wide), ("unicode/utf8.first", laid_unicode_utf8_first)] }
def TextFitsSaid : Prop := textFitsRow.holds Tryd.pinned (OpenSpec.ofChange textFitsSpec)

/-- ITS FALSE NEIGHBOUR: 'it returns false'. Refute it at one input. -/
def textFitsWrong : ChangeSpec := { name := "textFits", fn := fun _ => fun
  | [d1, d2] => { results := [.lit (.bool false)], args := [d1, d2] }
  | _ => none }
def TextFitsWrongFalsely : Prop := textFitsRow.holds Tryd.pinned (OpenSpec.ofChange textFitsWrong)

/-- 'scrollbacklaw40.TextRunes': WHATEVER THE INPUT: true; the input reads as it did. -/
def textRunesSpec : ChangeSpec := { name := "textRunes", fn := fun _ => fun
  | [d] => { results := [.lit (.bool true)], args := [d] }
  | _ => none }
def textRunesRow : OpenClaim := { program := "ytfpopoeeokdbiaadoor", sum := "431a6700264b4541dacca41327de445038a7485d484229867956b7e01958469d", func := "scrollback/scrollbacklaw40.TextRunes", spec := "textRunes", inPlace := ["internal/abi.NoEscape", "internal/bytealg.IndexByteString", "internal/bytealg.IndexString", "internal/bytealg.MakeNoZero"], unfollowed := true, recurses := true, named := ["scrollback/width.marks", "scrollback/width.wide", "unicode/utf8.first", "unicode/utf8.acceptRanges", "internal/bytealg.MaxLen"], apart := false, laid := [("unicode/utf8.acceptRanges", laid_unicode_utf8_acceptRanges), ("scrollback/width.marks", laid_scrollback_width_marks), ("scrollback/width.wide", laid_scrollback_width_wide), ("unicode/utf8.first", laid_unicode_utf8_first)] }
def TextRunesSaid : Prop := textRunesRow.holds Tryd.pinned (OpenSpec.ofChange textRunesSpec)

/-- ITS FALSE NEIGHBOUR: 'it returns false'. Refute it at one input. -/
def textRunesWrong : ChangeSpec := { name := "textRunes", fn := fun _ => fun
  | [d] => { results := [.lit (.bool false)], args := [d] }
  | _ => none }
def TextRunesWrongFalsely : Prop := textRunesRow.holds Tryd.pinned (OpenSpec.ofChange textRunesWrong)

/-- 'scrollbacklaw40.TextHolds': WHATEVER THE INPUT: true; the input reads as it did. -/
def textHoldsSpec : ChangeSpec := { name := "textHolds", fn := fun _ => fun
  | [d1, d2, d3] => { results := [.lit (.bool true)], args := [d1, d2, d3] }
  | _ => none }
def textHoldsRow : OpenClaim := { program := "ytfpopoeeokdbiaadoor", sum := "431a6700264b4541dacca41327de445038a7485d484229867956b7e01958469d", func := "scrollback/scrollbacklaw40.TextHolds", spec := "textHolds", inPlace := ["internal/abi.NoEscape", "internal/bytealg.IndexByteString", "internal/bytealg.IndexString", "internal/bytealg.MakeNoZero"], unfollowed := true, recurses := true, named := ["scrollback/width.marks", "scrollback/width.wide", "unicode/utf8.first", "unicode/utf8.acceptRanges", "internal/bytealg.MaxLen"], apart := false, laid := [("unicode/utf8.acceptRanges", laid_unicode_utf8_acceptRanges), ("scrollback/width.marks", laid_scrollback_width_marks), ("scrollback/width.wide", laid_scrollback_width_wide), ("unicode/utf8.first", laid_unicode_utf8_first)] }
def TextHoldsSaid : Prop := textHoldsRow.holds Tryd.pinned (OpenSpec.ofChange textHoldsSpec)

/-- ITS FALSE NEIGHBOUR: 'it returns false'. Refute it at one input. -/
def textHoldsWrong : ChangeSpec := { name := "textHolds", fn := fun _ => fun
  | [d1, d2, d3] => { results := [.lit (.bool false)], args := [d1, d2, d3] }
  | _ => none }
def TextHoldsWrongFalsely : Prop := textHoldsRow.holds Tryd.pinned (OpenSpec.ofChange textHoldsWrong)

/- THE SECOND FORM. 'bulk': how many values and letters a reading holds, each counted each time it is reached (what is shared counts as often as it is met; a slice's spare places count too). A statement '..UptoSaid' is the law's where the arguments, and the package variables that the reading takes, are together of bulk at most 1048576: NARROWER than '..Said'. Prove '..Said' where nothing that the law and all that it calls make is longer than what came in: it says more and counts as full. Else prove '..UptoSaid'. A law counts once. -/
mutual
def uptoBulk {H : Type} : DataW H → Nat
  | .lit (.string bytes) => bytes.length + 1
  | .lit _ => 1
  | .nil => 1
  | .ptr d => uptoBulk d + 1
  | .slice elems spare => uptoBulkAll elems + uptoBulkAll spare + 1
  | .agg parts => uptoBulkAll parts + 1
  | .iface _ d => uptoBulk d + 1
  | .map entries => uptoBulkEntries entries + 1
  | .held _ => 1
def uptoBulkAll {H : Type} : List (DataW H) → Nat
  | [] => 0
  | d :: r => uptoBulk d + uptoBulkAll r
def uptoBulkEntries {H : Type} : List (Lit × DataW H) → Nat
  | [] => 0
  | x :: r => uptoBulkEntry x + uptoBulkEntries r
def uptoBulkEntry {H : Type} : Lit × DataW H → Nat
  | (.string bytes, d) => bytes.length + uptoBulk d + 1
  | (_, d) => uptoBulk d + 1
 end
def uptoSmall : (H : Type) → List (DataW H) → Bool := fun _ ds => decide (uptoBulkAll ds ≤ 1048576)
def OpenSpec.upto (s : _root_.Go.ChangeSpec) : _root_.Go.OpenSpec := { _root_.Go.OpenSpec.ofChange s with cond := some uptoSmall }

/-- 'scrollbacklaw40.TextBlocks', WHERE WHAT IT READS IS OF BULK AT MOST 1048576: true; the input reads as it did. -/
def textBlocksUptoRow : OpenClaim := { program := "ytfpopoeeokdbiaadoor", sum := "431a6700264b4541dacca41327de445038a7485d484229867956b7e01958469d", func := "scrollback/scrollbacklaw40.TextBlocks", spec := "textBlocks", inPlace := ["internal/abi.NoEscape", "internal/bytealg.IndexByteString", "internal/bytealg.IndexString", "internal/bytealg.MakeNoZero"], unfollowed := true, recurses := true, named := ["scrollback/width.marks", "scrollback/width.wide", "unicode/utf8.first", "unicode/utf8.acceptRanges", "internal/bytealg.MaxLen"], apart := false, laid := [("unicode/utf8.acceptRanges", laid_unicode_utf8_acceptRanges), ("scrollback/width.marks", laid_scrollback_width_marks), ("scrollback/width.wide", laid_scrollback_width_wide), ("unicode/utf8.first", laid_unicode_utf8_first)], narrowed := true }
def TextBlocksUptoSaid : Prop := textBlocksUptoRow.holds Tryd.pinned (OpenSpec.upto textBlocksSpec)

/-- 'scrollbacklaw40.TextFits', WHERE WHAT IT READS IS OF BULK AT MOST 1048576: true; the input reads as it did. -/
def textFitsUptoRow : OpenClaim := { program := "ytfpopoeeokdbiaadoor", sum := "431a6700264b4541dacca41327de445038a7485d484229867956b7e01958469d", func := "scrollback/scrollbacklaw40.TextFits", spec := "textFits", inPlace := ["internal/abi.NoEscape", "internal/bytealg.IndexByteString", "internal/bytealg.IndexString", "internal/bytealg.MakeNoZero"], unfollowed := true, recurses := true, named := ["scrollback/width.marks", "scrollback/width.wide", "unicode/utf8.first", "unicode/utf8.acceptRanges", "internal/bytealg.MaxLen"], apart := false, laid := [("unicode/utf8.acceptRanges", laid_unicode_utf8_acceptRanges), ("scrollback/width.marks", laid_scrollback_width_marks), ("scrollback/width.wide", laid_scrollback_width_wide), ("unicode/utf8.first", laid_unicode_utf8_first)], narrowed := true }
def TextFitsUptoSaid : Prop := textFitsUptoRow.holds Tryd.pinned (OpenSpec.upto textFitsSpec)

/-- 'scrollbacklaw40.TextRunes', WHERE WHAT IT READS IS OF BULK AT MOST 1048576: true; the input reads as it did. -/
def textRunesUptoRow : OpenClaim := { program := "ytfpopoeeokdbiaadoor", sum := "431a6700264b4541dacca41327de445038a7485d484229867956b7e01958469d", func := "scrollback/scrollbacklaw40.TextRunes", spec := "textRunes", inPlace := ["internal/abi.NoEscape", "internal/bytealg.IndexByteString", "internal/bytealg.IndexString", "internal/bytealg.MakeNoZero"], unfollowed := true, recurses := true, named := ["scrollback/width.marks", "scrollback/width.wide", "unicode/utf8.first", "unicode/utf8.acceptRanges", "internal/bytealg.MaxLen"], apart := false, laid := [("unicode/utf8.acceptRanges", laid_unicode_utf8_acceptRanges), ("scrollback/width.marks", laid_scrollback_width_marks), ("scrollback/width.wide", laid_scrollback_width_wide), ("unicode/utf8.first", laid_unicode_utf8_first)], narrowed := true }
def TextRunesUptoSaid : Prop := textRunesUptoRow.holds Tryd.pinned (OpenSpec.upto textRunesSpec)

/-- 'scrollbacklaw40.TextHolds', WHERE WHAT IT READS IS OF BULK AT MOST 1048576: true; the input reads as it did. -/
def textHoldsUptoRow : OpenClaim := { program := "ytfpopoeeokdbiaadoor", sum := "431a6700264b4541dacca41327de445038a7485d484229867956b7e01958469d", func := "scrollback/scrollbacklaw40.TextHolds", spec := "textHolds", inPlace := ["internal/abi.NoEscape", "internal/bytealg.IndexByteString", "internal/bytealg.IndexString", "internal/bytealg.MakeNoZero"], unfollowed := true, recurses := true, named := ["scrollback/width.marks", "scrollback/width.wide", "unicode/utf8.first", "unicode/utf8.acceptRanges", "internal/bytealg.MaxLen"], apart := false, laid := [("unicode/utf8.acceptRanges", laid_unicode_utf8_acceptRanges), ("scrollback/width.marks", laid_scrollback_width_marks), ("scrollback/width.wide", laid_scrollback_width_wide), ("unicode/utf8.first", laid_unicode_utf8_first)], narrowed := true }
def TextHoldsUptoSaid : Prop := textHoldsUptoRow.holds Tryd.pinned (OpenSpec.upto textHoldsSpec)

end Rows
end Go.Proofs.YtfpopoeeokdbiaaDoor
