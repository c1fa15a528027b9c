/-
  NARROWER THAN 'FOR EVERY INPUT', by the rows' own cells (each row's printed sentence says how): HistoryShares: laid · HistoryHolds: laid · ViewShares: laid · HistoryNew: laid · HistoryMany: laid · ViewNew: laid · ViewHolds: laid · ViewNone: laid · HistoryPlays: laid · HistoryNone: laid · ViewPlays: laid.
  DERIVED. THE GIVEN ROWS OF THIS SEAT. 11 by the template 'for every input the law returns true; each argument reads behind the call as it read before'; 0 by the template 'total and deterministic' (their statements: YtpicffaghoggdaaDoorTotals.lean).
  GIVEN WITH THE SEED: the statements are not yours to turn. If you find one false, say at which input.
  Laid BY PROGRAM, IN A SANDBOX (cutbox-rows.mjs): the forced cells as the released guide's own fill.sh prints them over the translation 4ff59222348b0752… (all of the seat's roots in one cut). By AI agents, Wed Nov 11 2026. No macro, syntax, notation, axiom, sorry.
-/
import Derived.Test.YtpicffaghoggdaaDoorChecked
import GoSem.Claim
import GoSem.ClaimJoined
import GoSem.ClaimMapViews
import Derived.JoinedTies
import Derived.KernelRfl
namespace Go.Proofs.YtpicffaghoggdaaDoor
/- THE CELL 'sum', in the pinned program and in every row, IS THE sha256 OF THE DUMP (.gsa) THAT YtpicffaghoggdaaDoorProg.lean LOADS. Nothing in Lean hashes anything: it is a label: what it is worth is what the hold of that sum in a sandbox is worth. -/
noncomputable def Tryd.pinned : Pinned := { name := "ytpicffaghoggdaadoor", sum := "4ff59222348b0752d54bdeae0a9ff1fecaeef6d649bbc47cfca7e4af4c412624", checked := Tryd.checked }
namespace Rows
def none {H : Type} : Left H := { results := [], args := [] }

/- WHAT THE LISTED PACKAGE-LEVEL VARIABLES READ AS WHEN THE CALL BEGINS. Each datum BY PROGRAM (the guide's laid-datum.mjs) off the statement by which the dump's own 'gosem.cut.vars' lays the variable. In a bare row this is a premise. The card (YtpicffaghoggdaaDoorCards.lean) ties it to the program's text. -/
def laid_scrollback_width_marks {H : Type} : DataW H := .agg [.agg [.lit (.int .i32 768), .lit (.int .i32 879)], .agg [.lit (.int .i32 1155), .lit (.int .i32 1161)], .agg [.lit (.int .i32 1425), .lit (.int .i32 1469)], .agg [.lit (.int .i32 1552), .lit (.int .i32 1562)], .agg [.lit (.int .i32 1611), .lit (.int .i32 1631)], .agg [.lit (.int .i32 1750), .lit (.int .i32 1756)], .agg [.lit (.int .i32 3633), .lit (.int .i32 3633)], .agg [.lit (.int .i32 3636), .lit (.int .i32 3642)], .agg [.lit (.int .i32 3655), .lit (.int .i32 3662)], .agg [.lit (.int .i32 6832), .lit (.int .i32 6911)], .agg [.lit (.int .i32 7616), .lit (.int .i32 7679)], .agg [.lit (.int .i32 8203), .lit (.int .i32 8207)], .agg [.lit (.int .i32 8400), .lit (.int .i32 8447)], .agg [.lit (.int .i32 12330), .lit (.int .i32 12335)], .agg [.lit (.int .i32 12441), .lit (.int .i32 12442)], .agg [.lit (.int .i32 65024), .lit (.int .i32 65039)], .agg [.lit (.int .i32 65056), .lit (.int .i32 65071)], .agg [.lit (.int .i32 917760), .lit (.int .i32 917999)]]
def laid_scrollback_width_wide {H : Type} : DataW H := .agg [.agg [.lit (.int .i32 4352), .lit (.int .i32 4447)], .agg [.lit (.int .i32 9001), .lit (.int .i32 9002)], .agg [.lit (.int .i32 11904), .lit (.int .i32 12329)], .agg [.lit (.int .i32 12336), .lit (.int .i32 12350)], .agg [.lit (.int .i32 12353), .lit (.int .i32 12440)], .agg [.lit (.int .i32 12443), .lit (.int .i32 13311)], .agg [.lit (.int .i32 13312), .lit (.int .i32 19903)], .agg [.lit (.int .i32 19968), .lit (.int .i32 42191)], .agg [.lit (.int .i32 43360), .lit (.int .i32 43391)], .agg [.lit (.int .i32 44032), .lit (.int .i32 55203)], .agg [.lit (.int .i32 63744), .lit (.int .i32 64255)], .agg [.lit (.int .i32 65072), .lit (.int .i32 65135)], .agg [.lit (.int .i32 65280), .lit (.int .i32 65376)], .agg [.lit (.int .i32 65504), .lit (.int .i32 65510)], .agg [.lit (.int .i32 127744), .lit (.int .i32 128591)], .agg [.lit (.int .i32 128640), .lit (.int .i32 128767)], .agg [.lit (.int .i32 129280), .lit (.int .i32 129535)], .agg [.lit (.int .i32 131072), .lit (.int .i32 196605)], .agg [.lit (.int .i32 196608), .lit (.int .i32 262141)]]

/-- 'scrollbacklaw31.HistoryShares': WHATEVER THE INPUT: true; the input reads as it did. -/
def historySharesSpec : ChangeSpec := { name := "historyShares", fn := fun _ => fun
  | [d] => { results := [.lit (.bool true)], args := [d] }
  | _ => none }
def historySharesRow : OpenClaim := { program := "ytpicffaghoggdaadoor", sum := "4ff59222348b0752d54bdeae0a9ff1fecaeef6d649bbc47cfca7e4af4c412624", func := "scrollback/scrollbacklaw31.HistoryShares", spec := "historyShares", unfollowed := true, recurses := true, named := ["scrollback/width.marks", "scrollback/width.wide"], apart := false, laid := [("scrollback/width.marks", laid_scrollback_width_marks), ("scrollback/width.wide", laid_scrollback_width_wide)] }
def HistorySharesSaid : Prop := historySharesRow.holds Tryd.pinned (OpenSpec.ofChange historySharesSpec)

/-- ITS FALSE NEIGHBOUR: 'it returns false'. Refute it at one input. -/
def historySharesWrong : ChangeSpec := { name := "historyShares", fn := fun _ => fun
  | [d] => { results := [.lit (.bool false)], args := [d] }
  | _ => none }
def HistorySharesWrongFalsely : Prop := historySharesRow.holds Tryd.pinned (OpenSpec.ofChange historySharesWrong)

/-- 'scrollbacklaw31.HistoryHolds': WHATEVER THE INPUT: true; the input reads as it did. -/
def historyHoldsSpec : ChangeSpec := { name := "historyHolds", fn := fun _ => fun
  | [d1, d2, d3] => { results := [.lit (.bool true)], args := [d1, d2, d3] }
  | _ => none }
def historyHoldsRow : OpenClaim := { program := "ytpicffaghoggdaadoor", sum := "4ff59222348b0752d54bdeae0a9ff1fecaeef6d649bbc47cfca7e4af4c412624", func := "scrollback/scrollbacklaw31.HistoryHolds", spec := "historyHolds", unfollowed := true, recurses := true, named := ["scrollback/width.marks", "scrollback/width.wide"], apart := false, laid := [("scrollback/width.marks", laid_scrollback_width_marks), ("scrollback/width.wide", laid_scrollback_width_wide)] }
def HistoryHoldsSaid : Prop := historyHoldsRow.holds Tryd.pinned (OpenSpec.ofChange historyHoldsSpec)

/-- ITS FALSE NEIGHBOUR: 'it returns false'. Refute it at one input. -/
def historyHoldsWrong : ChangeSpec := { name := "historyHolds", fn := fun _ => fun
  | [d1, d2, d3] => { results := [.lit (.bool false)], args := [d1, d2, d3] }
  | _ => none }
def HistoryHoldsWrongFalsely : Prop := historyHoldsRow.holds Tryd.pinned (OpenSpec.ofChange historyHoldsWrong)

/-- 'scrollbacklaw32.ViewShares': WHATEVER THE INPUT: true; the input reads as it did. -/
def viewSharesSpec : ChangeSpec := { name := "viewShares", fn := fun _ => fun
  | [d1, d2, d3] => { results := [.lit (.bool true)], args := [d1, d2, d3] }
  | _ => none }
def viewSharesRow : OpenClaim := { program := "ytpicffaghoggdaadoor", sum := "4ff59222348b0752d54bdeae0a9ff1fecaeef6d649bbc47cfca7e4af4c412624", func := "scrollback/scrollbacklaw32.ViewShares", spec := "viewShares", unfollowed := true, recurses := true, named := ["scrollback/width.marks", "scrollback/width.wide"], apart := false, laid := [("scrollback/width.marks", laid_scrollback_width_marks), ("scrollback/width.wide", laid_scrollback_width_wide)] }
def ViewSharesSaid : Prop := viewSharesRow.holds Tryd.pinned (OpenSpec.ofChange viewSharesSpec)

/-- ITS FALSE NEIGHBOUR: 'it returns false'. Refute it at one input. -/
def viewSharesWrong : ChangeSpec := { name := "viewShares", fn := fun _ => fun
  | [d1, d2, d3] => { results := [.lit (.bool false)], args := [d1, d2, d3] }
  | _ => none }
def ViewSharesWrongFalsely : Prop := viewSharesRow.holds Tryd.pinned (OpenSpec.ofChange viewSharesWrong)

/-- 'scrollbacklaw31.HistoryNew': WHATEVER THE INPUT: true; the input reads as it did. -/
def historyNewSpec : ChangeSpec := { name := "historyNew", fn := fun _ => fun
  | [d] => { results := [.lit (.bool true)], args := [d] }
  | _ => none }
def historyNewRow : OpenClaim := { program := "ytpicffaghoggdaadoor", sum := "4ff59222348b0752d54bdeae0a9ff1fecaeef6d649bbc47cfca7e4af4c412624", func := "scrollback/scrollbacklaw31.HistoryNew", spec := "historyNew", unfollowed := true, recurses := true, named := ["scrollback/width.marks", "scrollback/width.wide"], apart := false, laid := [("scrollback/width.marks", laid_scrollback_width_marks), ("scrollback/width.wide", laid_scrollback_width_wide)] }
def HistoryNewSaid : Prop := historyNewRow.holds Tryd.pinned (OpenSpec.ofChange historyNewSpec)

/-- ITS FALSE NEIGHBOUR: 'it returns false'. Refute it at one input. -/
def historyNewWrong : ChangeSpec := { name := "historyNew", fn := fun _ => fun
  | [d] => { results := [.lit (.bool false)], args := [d] }
  | _ => none }
def HistoryNewWrongFalsely : Prop := historyNewRow.holds Tryd.pinned (OpenSpec.ofChange historyNewWrong)

/-- 'scrollbacklaw31.HistoryMany': WHATEVER THE INPUT: true; the input reads as it did. -/
def historyManySpec : ChangeSpec := { name := "historyMany", fn := fun _ => fun
  | [d1, d2, d3] => { results := [.lit (.bool true)], args := [d1, d2, d3] }
  | _ => none }
def historyManyRow : OpenClaim := { program := "ytpicffaghoggdaadoor", sum := "4ff59222348b0752d54bdeae0a9ff1fecaeef6d649bbc47cfca7e4af4c412624", func := "scrollback/scrollbacklaw31.HistoryMany", spec := "historyMany", unfollowed := true, recurses := true, named := ["scrollback/width.marks", "scrollback/width.wide"], apart := false, laid := [("scrollback/width.marks", laid_scrollback_width_marks), ("scrollback/width.wide", laid_scrollback_width_wide)] }
def HistoryManySaid : Prop := historyManyRow.holds Tryd.pinned (OpenSpec.ofChange historyManySpec)

/-- ITS FALSE NEIGHBOUR: 'it returns false'. Refute it at one input. -/
def historyManyWrong : ChangeSpec := { name := "historyMany", fn := fun _ => fun
  | [d1, d2, d3] => { results := [.lit (.bool false)], args := [d1, d2, d3] }
  | _ => none }
def HistoryManyWrongFalsely : Prop := historyManyRow.holds Tryd.pinned (OpenSpec.ofChange historyManyWrong)

/-- 'scrollbacklaw32.ViewNew': WHATEVER THE INPUT: true; the input reads as it did. -/
def viewNewSpec : ChangeSpec := { name := "viewNew", fn := fun _ => fun
  | [d] => { results := [.lit (.bool true)], args := [d] }
  | _ => none }
def viewNewRow : OpenClaim := { program := "ytpicffaghoggdaadoor", sum := "4ff59222348b0752d54bdeae0a9ff1fecaeef6d649bbc47cfca7e4af4c412624", func := "scrollback/scrollbacklaw32.ViewNew", spec := "viewNew", unfollowed := true, recurses := true, named := ["scrollback/width.marks", "scrollback/width.wide"], apart := false, laid := [("scrollback/width.marks", laid_scrollback_width_marks), ("scrollback/width.wide", laid_scrollback_width_wide)] }
def ViewNewSaid : Prop := viewNewRow.holds Tryd.pinned (OpenSpec.ofChange viewNewSpec)

/-- ITS FALSE NEIGHBOUR: 'it returns false'. Refute it at one input. -/
def viewNewWrong : ChangeSpec := { name := "viewNew", fn := fun _ => fun
  | [d] => { results := [.lit (.bool false)], args := [d] }
  | _ => none }
def ViewNewWrongFalsely : Prop := viewNewRow.holds Tryd.pinned (OpenSpec.ofChange viewNewWrong)

/-- 'scrollbacklaw32.ViewHolds': WHATEVER THE INPUT: true; the input reads as it did. -/
def viewHoldsSpec : ChangeSpec := { name := "viewHolds", fn := fun _ => fun
  | [d1, d2, d3, d4] => { results := [.lit (.bool true)], args := [d1, d2, d3, d4] }
  | _ => none }
def viewHoldsRow : OpenClaim := { program := "ytpicffaghoggdaadoor", sum := "4ff59222348b0752d54bdeae0a9ff1fecaeef6d649bbc47cfca7e4af4c412624", func := "scrollback/scrollbacklaw32.ViewHolds", spec := "viewHolds", unfollowed := true, recurses := true, named := ["scrollback/width.marks", "scrollback/width.wide"], apart := false, laid := [("scrollback/width.marks", laid_scrollback_width_marks), ("scrollback/width.wide", laid_scrollback_width_wide)] }
def ViewHoldsSaid : Prop := viewHoldsRow.holds Tryd.pinned (OpenSpec.ofChange viewHoldsSpec)

/-- ITS FALSE NEIGHBOUR: 'it returns false'. Refute it at one input. -/
def viewHoldsWrong : ChangeSpec := { name := "viewHolds", fn := fun _ => fun
  | [d1, d2, d3, d4] => { results := [.lit (.bool false)], args := [d1, d2, d3, d4] }
  | _ => none }
def ViewHoldsWrongFalsely : Prop := viewHoldsRow.holds Tryd.pinned (OpenSpec.ofChange viewHoldsWrong)

/-- 'scrollbacklaw32.ViewNone': WHATEVER THE INPUT: true; the input reads as it did. -/
def viewNoneSpec : ChangeSpec := { name := "viewNone", fn := fun _ => fun
  | [d] => { results := [.lit (.bool true)], args := [d] }
  | _ => none }
def viewNoneRow : OpenClaim := { program := "ytpicffaghoggdaadoor", sum := "4ff59222348b0752d54bdeae0a9ff1fecaeef6d649bbc47cfca7e4af4c412624", func := "scrollback/scrollbacklaw32.ViewNone", spec := "viewNone", unfollowed := true, recurses := true, named := ["scrollback/width.marks", "scrollback/width.wide"], apart := false, laid := [("scrollback/width.marks", laid_scrollback_width_marks), ("scrollback/width.wide", laid_scrollback_width_wide)] }
def ViewNoneSaid : Prop := viewNoneRow.holds Tryd.pinned (OpenSpec.ofChange viewNoneSpec)

/-- ITS FALSE NEIGHBOUR: 'it returns false'. Refute it at one input. -/
def viewNoneWrong : ChangeSpec := { name := "viewNone", fn := fun _ => fun
  | [d] => { results := [.lit (.bool false)], args := [d] }
  | _ => none }
def ViewNoneWrongFalsely : Prop := viewNoneRow.holds Tryd.pinned (OpenSpec.ofChange viewNoneWrong)

/-- 'scrollbacklaw31.HistoryPlays': WHATEVER THE INPUT: true; the input reads as it did. -/
def historyPlaysSpec : ChangeSpec := { name := "historyPlays", fn := fun _ => fun
  | [d1, d2] => { results := [.lit (.bool true)], args := [d1, d2] }
  | _ => none }
def historyPlaysRow : OpenClaim := { program := "ytpicffaghoggdaadoor", sum := "4ff59222348b0752d54bdeae0a9ff1fecaeef6d649bbc47cfca7e4af4c412624", func := "scrollback/scrollbacklaw31.HistoryPlays", spec := "historyPlays", unfollowed := true, recurses := true, named := ["scrollback/width.marks", "scrollback/width.wide"], apart := false, laid := [("scrollback/width.marks", laid_scrollback_width_marks), ("scrollback/width.wide", laid_scrollback_width_wide)] }
def HistoryPlaysSaid : Prop := historyPlaysRow.holds Tryd.pinned (OpenSpec.ofChange historyPlaysSpec)

/-- ITS FALSE NEIGHBOUR: 'it returns false'. Refute it at one input. -/
def historyPlaysWrong : ChangeSpec := { name := "historyPlays", fn := fun _ => fun
  | [d1, d2] => { results := [.lit (.bool false)], args := [d1, d2] }
  | _ => none }
def HistoryPlaysWrongFalsely : Prop := historyPlaysRow.holds Tryd.pinned (OpenSpec.ofChange historyPlaysWrong)

/-- 'scrollbacklaw31.HistoryNone': WHATEVER THE INPUT: true; the input reads as it did. -/
def historyNoneSpec : ChangeSpec := { name := "historyNone", fn := fun _ => fun
  | [d] => { results := [.lit (.bool true)], args := [d] }
  | _ => none }
def historyNoneRow : OpenClaim := { program := "ytpicffaghoggdaadoor", sum := "4ff59222348b0752d54bdeae0a9ff1fecaeef6d649bbc47cfca7e4af4c412624", func := "scrollback/scrollbacklaw31.HistoryNone", spec := "historyNone", unfollowed := true, recurses := true, named := ["scrollback/width.marks", "scrollback/width.wide"], apart := false, laid := [("scrollback/width.marks", laid_scrollback_width_marks), ("scrollback/width.wide", laid_scrollback_width_wide)] }
def HistoryNoneSaid : Prop := historyNoneRow.holds Tryd.pinned (OpenSpec.ofChange historyNoneSpec)

/-- ITS FALSE NEIGHBOUR: 'it returns false'. Refute it at one input. -/
def historyNoneWrong : ChangeSpec := { name := "historyNone", fn := fun _ => fun
  | [d] => { results := [.lit (.bool false)], args := [d] }
  | _ => none }
def HistoryNoneWrongFalsely : Prop := historyNoneRow.holds Tryd.pinned (OpenSpec.ofChange historyNoneWrong)

/-- 'scrollbacklaw32.ViewPlays': WHATEVER THE INPUT: true; the input reads as it did. -/
def viewPlaysSpec : ChangeSpec := { name := "viewPlays", fn := fun _ => fun
  | [d1, d2, d3] => { results := [.lit (.bool true)], args := [d1, d2, d3] }
  | _ => none }
def viewPlaysRow : OpenClaim := { program := "ytpicffaghoggdaadoor", sum := "4ff59222348b0752d54bdeae0a9ff1fecaeef6d649bbc47cfca7e4af4c412624", func := "scrollback/scrollbacklaw32.ViewPlays", spec := "viewPlays", unfollowed := true, recurses := true, named := ["scrollback/width.marks", "scrollback/width.wide"], apart := false, laid := [("scrollback/width.marks", laid_scrollback_width_marks), ("scrollback/width.wide", laid_scrollback_width_wide)] }
def ViewPlaysSaid : Prop := viewPlaysRow.holds Tryd.pinned (OpenSpec.ofChange viewPlaysSpec)

/-- ITS FALSE NEIGHBOUR: 'it returns false'. Refute it at one input. -/
def viewPlaysWrong : ChangeSpec := { name := "viewPlays", fn := fun _ => fun
  | [d1, d2, d3] => { results := [.lit (.bool false)], args := [d1, d2, d3] }
  | _ => none }
def ViewPlaysWrongFalsely : Prop := viewPlaysRow.holds Tryd.pinned (OpenSpec.ofChange viewPlaysWrong)

/- THE SECOND FORM. 'bulk': how many values and letters a reading holds, each counted each time it is reached (what is shared counts as often as it is met; a slice's spare places count too). A statement '..UptoSaid' is the law's where the arguments, and the package variables that the reading takes, are together of bulk at most 1048576: NARROWER than '..Said'. Prove '..Said' where nothing that the law and all that it calls make is longer than what came in: it says more and counts as full. Else prove '..UptoSaid'. A law counts once. -/
mutual
def uptoBulk {H : Type} : DataW H → Nat
  | .lit (.string bytes) => bytes.length + 1
  | .lit _ => 1
  | .nil => 1
  | .ptr d => uptoBulk d + 1
  | .slice elems spare => uptoBulkAll elems + uptoBulkAll spare + 1
  | .agg parts => uptoBulkAll parts + 1
  | .iface _ d => uptoBulk d + 1
  | .map entries => uptoBulkEntries entries + 1
  | .held _ => 1
def uptoBulkAll {H : Type} : List (DataW H) → Nat
  | [] => 0
  | d :: r => uptoBulk d + uptoBulkAll r
def uptoBulkEntries {H : Type} : List (Lit × DataW H) → Nat
  | [] => 0
  | x :: r => uptoBulkEntry x + uptoBulkEntries r
def uptoBulkEntry {H : Type} : Lit × DataW H → Nat
  | (.string bytes, d) => bytes.length + uptoBulk d + 1
  | (_, d) => uptoBulk d + 1
 end
def uptoSmall : (H : Type) → List (DataW H) → Bool := fun _ ds => decide (uptoBulkAll ds ≤ 1048576)
def OpenSpec.upto (s : _root_.Go.ChangeSpec) : _root_.Go.OpenSpec := { _root_.Go.OpenSpec.ofChange s with cond := some uptoSmall }

/-- 'scrollbacklaw31.HistoryShares', WHERE WHAT IT READS IS OF BULK AT MOST 1048576: true; the input reads as it did. -/
def historySharesUptoRow : OpenClaim := { program := "ytpicffaghoggdaadoor", sum := "4ff59222348b0752d54bdeae0a9ff1fecaeef6d649bbc47cfca7e4af4c412624", func := "scrollback/scrollbacklaw31.HistoryShares", spec := "historyShares", unfollowed := true, recurses := true, named := ["scrollback/width.marks", "scrollback/width.wide"], apart := false, laid := [("scrollback/width.marks", laid_scrollback_width_marks), ("scrollback/width.wide", laid_scrollback_width_wide)], narrowed := true }
def HistorySharesUptoSaid : Prop := historySharesUptoRow.holds Tryd.pinned (OpenSpec.upto historySharesSpec)

/-- 'scrollbacklaw31.HistoryHolds', WHERE WHAT IT READS IS OF BULK AT MOST 1048576: true; the input reads as it did. -/
def historyHoldsUptoRow : OpenClaim := { program := "ytpicffaghoggdaadoor", sum := "4ff59222348b0752d54bdeae0a9ff1fecaeef6d649bbc47cfca7e4af4c412624", func := "scrollback/scrollbacklaw31.HistoryHolds", spec := "historyHolds", unfollowed := true, recurses := true, named := ["scrollback/width.marks", "scrollback/width.wide"], apart := false, laid := [("scrollback/width.marks", laid_scrollback_width_marks), ("scrollback/width.wide", laid_scrollback_width_wide)], narrowed := true }
def HistoryHoldsUptoSaid : Prop := historyHoldsUptoRow.holds Tryd.pinned (OpenSpec.upto historyHoldsSpec)

/-- 'scrollbacklaw32.ViewShares', WHERE WHAT IT READS IS OF BULK AT MOST 1048576: true; the input reads as it did. -/
def viewSharesUptoRow : OpenClaim := { program := "ytpicffaghoggdaadoor", sum := "4ff59222348b0752d54bdeae0a9ff1fecaeef6d649bbc47cfca7e4af4c412624", func := "scrollback/scrollbacklaw32.ViewShares", spec := "viewShares", unfollowed := true, recurses := true, named := ["scrollback/width.marks", "scrollback/width.wide"], apart := false, laid := [("scrollback/width.marks", laid_scrollback_width_marks), ("scrollback/width.wide", laid_scrollback_width_wide)], narrowed := true }
def ViewSharesUptoSaid : Prop := viewSharesUptoRow.holds Tryd.pinned (OpenSpec.upto viewSharesSpec)

/-- 'scrollbacklaw31.HistoryNew', WHERE WHAT IT READS IS OF BULK AT MOST 1048576: true; the input reads as it did. -/
def historyNewUptoRow : OpenClaim := { program := "ytpicffaghoggdaadoor", sum := "4ff59222348b0752d54bdeae0a9ff1fecaeef6d649bbc47cfca7e4af4c412624", func := "scrollback/scrollbacklaw31.HistoryNew", spec := "historyNew", unfollowed := true, recurses := true, named := ["scrollback/width.marks", "scrollback/width.wide"], apart := false, laid := [("scrollback/width.marks", laid_scrollback_width_marks), ("scrollback/width.wide", laid_scrollback_width_wide)], narrowed := true }
def HistoryNewUptoSaid : Prop := historyNewUptoRow.holds Tryd.pinned (OpenSpec.upto historyNewSpec)

/-- 'scrollbacklaw31.HistoryMany', WHERE WHAT IT READS IS OF BULK AT MOST 1048576: true; the input reads as it did. -/
def historyManyUptoRow : OpenClaim := { program := "ytpicffaghoggdaadoor", sum := "4ff59222348b0752d54bdeae0a9ff1fecaeef6d649bbc47cfca7e4af4c412624", func := "scrollback/scrollbacklaw31.HistoryMany", spec := "historyMany", unfollowed := true, recurses := true, named := ["scrollback/width.marks", "scrollback/width.wide"], apart := false, laid := [("scrollback/width.marks", laid_scrollback_width_marks), ("scrollback/width.wide", laid_scrollback_width_wide)], narrowed := true }
def HistoryManyUptoSaid : Prop := historyManyUptoRow.holds Tryd.pinned (OpenSpec.upto historyManySpec)

/-- 'scrollbacklaw32.ViewNew', WHERE WHAT IT READS IS OF BULK AT MOST 1048576: true; the input reads as it did. -/
def viewNewUptoRow : OpenClaim := { program := "ytpicffaghoggdaadoor", sum := "4ff59222348b0752d54bdeae0a9ff1fecaeef6d649bbc47cfca7e4af4c412624", func := "scrollback/scrollbacklaw32.ViewNew", spec := "viewNew", unfollowed := true, recurses := true, named := ["scrollback/width.marks", "scrollback/width.wide"], apart := false, laid := [("scrollback/width.marks", laid_scrollback_width_marks), ("scrollback/width.wide", laid_scrollback_width_wide)], narrowed := true }
def ViewNewUptoSaid : Prop := viewNewUptoRow.holds Tryd.pinned (OpenSpec.upto viewNewSpec)

/-- 'scrollbacklaw32.ViewHolds', WHERE WHAT IT READS IS OF BULK AT MOST 1048576: true; the input reads as it did. -/
def viewHoldsUptoRow : OpenClaim := { program := "ytpicffaghoggdaadoor", sum := "4ff59222348b0752d54bdeae0a9ff1fecaeef6d649bbc47cfca7e4af4c412624", func := "scrollback/scrollbacklaw32.ViewHolds", spec := "viewHolds", unfollowed := true, recurses := true, named := ["scrollback/width.marks", "scrollback/width.wide"], apart := false, laid := [("scrollback/width.marks", laid_scrollback_width_marks), ("scrollback/width.wide", laid_scrollback_width_wide)], narrowed := true }
def ViewHoldsUptoSaid : Prop := viewHoldsUptoRow.holds Tryd.pinned (OpenSpec.upto viewHoldsSpec)

/-- 'scrollbacklaw32.ViewNone', WHERE WHAT IT READS IS OF BULK AT MOST 1048576: true; the input reads as it did. -/
def viewNoneUptoRow : OpenClaim := { program := "ytpicffaghoggdaadoor", sum := "4ff59222348b0752d54bdeae0a9ff1fecaeef6d649bbc47cfca7e4af4c412624", func := "scrollback/scrollbacklaw32.ViewNone", spec := "viewNone", unfollowed := true, recurses := true, named := ["scrollback/width.marks", "scrollback/width.wide"], apart := false, laid := [("scrollback/width.marks", laid_scrollback_width_marks), ("scrollback/width.wide", laid_scrollback_width_wide)], narrowed := true }
def ViewNoneUptoSaid : Prop := viewNoneUptoRow.holds Tryd.pinned (OpenSpec.upto viewNoneSpec)

/-- 'scrollbacklaw31.HistoryPlays', WHERE WHAT IT READS IS OF BULK AT MOST 1048576: true; the input reads as it did. -/
def historyPlaysUptoRow : OpenClaim := { program := "ytpicffaghoggdaadoor", sum := "4ff59222348b0752d54bdeae0a9ff1fecaeef6d649bbc47cfca7e4af4c412624", func := "scrollback/scrollbacklaw31.HistoryPlays", spec := "historyPlays", unfollowed := true, recurses := true, named := ["scrollback/width.marks", "scrollback/width.wide"], apart := false, laid := [("scrollback/width.marks", laid_scrollback_width_marks), ("scrollback/width.wide", laid_scrollback_width_wide)], narrowed := true }
def HistoryPlaysUptoSaid : Prop := historyPlaysUptoRow.holds Tryd.pinned (OpenSpec.upto historyPlaysSpec)

/-- 'scrollbacklaw31.HistoryNone', WHERE WHAT IT READS IS OF BULK AT MOST 1048576: true; the input reads as it did. -/
def historyNoneUptoRow : OpenClaim := { program := "ytpicffaghoggdaadoor", sum := "4ff59222348b0752d54bdeae0a9ff1fecaeef6d649bbc47cfca7e4af4c412624", func := "scrollback/scrollbacklaw31.HistoryNone", spec := "historyNone", unfollowed := true, recurses := true, named := ["scrollback/width.marks", "scrollback/width.wide"], apart := false, laid := [("scrollback/width.marks", laid_scrollback_width_marks), ("scrollback/width.wide", laid_scrollback_width_wide)], narrowed := true }
def HistoryNoneUptoSaid : Prop := historyNoneUptoRow.holds Tryd.pinned (OpenSpec.upto historyNoneSpec)

/-- 'scrollbacklaw32.ViewPlays', WHERE WHAT IT READS IS OF BULK AT MOST 1048576: true; the input reads as it did. -/
def viewPlaysUptoRow : OpenClaim := { program := "ytpicffaghoggdaadoor", sum := "4ff59222348b0752d54bdeae0a9ff1fecaeef6d649bbc47cfca7e4af4c412624", func := "scrollback/scrollbacklaw32.ViewPlays", spec := "viewPlays", unfollowed := true, recurses := true, named := ["scrollback/width.marks", "scrollback/width.wide"], apart := false, laid := [("scrollback/width.marks", laid_scrollback_width_marks), ("scrollback/width.wide", laid_scrollback_width_wide)], narrowed := true }
def ViewPlaysUptoSaid : Prop := viewPlaysUptoRow.holds Tryd.pinned (OpenSpec.upto viewPlaysSpec)

end Rows
end Go.Proofs.YtpicffaghoggdaaDoor
