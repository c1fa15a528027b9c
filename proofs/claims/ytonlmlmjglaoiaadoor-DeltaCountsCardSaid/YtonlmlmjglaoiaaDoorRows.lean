/-
  NARROWER THAN 'FOR EVERY INPUT', by the rows' own cells (each row's printed sentence says how): DeltaOf: laid · DeltaApplies: laid · DeltaMany: laid · DeltaHolds: laid · DeltaCounts: laid.
  DERIVED. THE GIVEN ROWS OF THIS SEAT. 5 by the template 'for every input the law returns true; each argument reads behind the call as it read before'; 0 by the template 'total and deterministic' (their statements: YtonlmlmjglaoiaaDoorTotals.lean).
  GIVEN WITH THE SEED: the statements are not yours to turn. If you find one false, say at which input.
  Laid BY PROGRAM, IN A SANDBOX (cutbox-rows.mjs): the forced cells as the released guide's own fill.sh prints them over the translation 451e46c7717e2221… (all of the seat's roots in one cut). By AI agents, Wed Nov 11 2026. No macro, syntax, notation, axiom, sorry.
-/
import Derived.Test.YtonlmlmjglaoiaaDoorChecked
import GoSem.Claim
import GoSem.ClaimJoined
import GoSem.ClaimMapViews
import Derived.JoinedTies
import Derived.KernelRfl
namespace Go.Proofs.YtonlmlmjglaoiaaDoor
/- THE CELL 'sum', in the pinned program and in every row, IS THE sha256 OF THE DUMP (.gsa) THAT YtonlmlmjglaoiaaDoorProg.lean LOADS. Nothing in Lean hashes anything: it is a label: what it is worth is what the hold of that sum in a sandbox is worth. -/
noncomputable def Tryd.pinned : Pinned := { name := "ytonlmlmjglaoiaadoor", sum := "451e46c7717e2221a451771d6600dc408f80bcd544e71395ebad74b350c111b8", checked := Tryd.checked }
namespace Rows
def none {H : Type} : Left H := { results := [], args := [] }

/- WHAT THE LISTED PACKAGE-LEVEL VARIABLES READ AS WHEN THE CALL BEGINS. Each datum BY PROGRAM (the guide's laid-datum.mjs) off the statement by which the dump's own 'gosem.cut.vars' lays the variable. In a bare row this is a premise. The card (YtonlmlmjglaoiaaDoorCards.lean) ties it to the program's text. -/
def laid_scrollback_width_marks {H : Type} : DataW H := .agg [.agg [.lit (.int .i32 768), .lit (.int .i32 879)], .agg [.lit (.int .i32 1155), .lit (.int .i32 1161)], .agg [.lit (.int .i32 1425), .lit (.int .i32 1469)], .agg [.lit (.int .i32 1552), .lit (.int .i32 1562)], .agg [.lit (.int .i32 1611), .lit (.int .i32 1631)], .agg [.lit (.int .i32 1750), .lit (.int .i32 1756)], .agg [.lit (.int .i32 3633), .lit (.int .i32 3633)], .agg [.lit (.int .i32 3636), .lit (.int .i32 3642)], .agg [.lit (.int .i32 3655), .lit (.int .i32 3662)], .agg [.lit (.int .i32 6832), .lit (.int .i32 6911)], .agg [.lit (.int .i32 7616), .lit (.int .i32 7679)], .agg [.lit (.int .i32 8203), .lit (.int .i32 8207)], .agg [.lit (.int .i32 8400), .lit (.int .i32 8447)], .agg [.lit (.int .i32 12330), .lit (.int .i32 12335)], .agg [.lit (.int .i32 12441), .lit (.int .i32 12442)], .agg [.lit (.int .i32 65024), .lit (.int .i32 65039)], .agg [.lit (.int .i32 65056), .lit (.int .i32 65071)], .agg [.lit (.int .i32 917760), .lit (.int .i32 917999)]]
def laid_scrollback_width_wide {H : Type} : DataW H := .agg [.agg [.lit (.int .i32 4352), .lit (.int .i32 4447)], .agg [.lit (.int .i32 9001), .lit (.int .i32 9002)], .agg [.lit (.int .i32 11904), .lit (.int .i32 12329)], .agg [.lit (.int .i32 12336), .lit (.int .i32 12350)], .agg [.lit (.int .i32 12353), .lit (.int .i32 12440)], .agg [.lit (.int .i32 12443), .lit (.int .i32 13311)], .agg [.lit (.int .i32 13312), .lit (.int .i32 19903)], .agg [.lit (.int .i32 19968), .lit (.int .i32 42191)], .agg [.lit (.int .i32 43360), .lit (.int .i32 43391)], .agg [.lit (.int .i32 44032), .lit (.int .i32 55203)], .agg [.lit (.int .i32 63744), .lit (.int .i32 64255)], .agg [.lit (.int .i32 65072), .lit (.int .i32 65135)], .agg [.lit (.int .i32 65280), .lit (.int .i32 65376)], .agg [.lit (.int .i32 65504), .lit (.int .i32 65510)], .agg [.lit (.int .i32 127744), .lit (.int .i32 128591)], .agg [.lit (.int .i32 128640), .lit (.int .i32 128767)], .agg [.lit (.int .i32 129280), .lit (.int .i32 129535)], .agg [.lit (.int .i32 131072), .lit (.int .i32 196605)], .agg [.lit (.int .i32 196608), .lit (.int .i32 262141)]]

/-- 'scrollbacklaw45.DeltaOf': WHATEVER THE INPUT: true; the input reads as it did. -/
def deltaOfSpec : ChangeSpec := { name := "deltaOf", fn := fun _ => fun
  | [d1, d2] => { results := [.lit (.bool true)], args := [d1, d2] }
  | _ => none }
def deltaOfRow : OpenClaim := { program := "ytonlmlmjglaoiaadoor", sum := "451e46c7717e2221a451771d6600dc408f80bcd544e71395ebad74b350c111b8", func := "scrollback/scrollbacklaw45.DeltaOf", spec := "deltaOf", unfollowed := true, recurses := true, named := ["scrollback/width.marks", "scrollback/width.wide"], apart := false, laid := [("scrollback/width.marks", laid_scrollback_width_marks), ("scrollback/width.wide", laid_scrollback_width_wide)] }
def DeltaOfSaid : Prop := deltaOfRow.holds Tryd.pinned (OpenSpec.ofChange deltaOfSpec)

/-- ITS FALSE NEIGHBOUR: 'it returns false'. Refute it at one input. -/
def deltaOfWrong : ChangeSpec := { name := "deltaOf", fn := fun _ => fun
  | [d1, d2] => { results := [.lit (.bool false)], args := [d1, d2] }
  | _ => none }
def DeltaOfWrongFalsely : Prop := deltaOfRow.holds Tryd.pinned (OpenSpec.ofChange deltaOfWrong)

/-- 'scrollbacklaw45.DeltaApplies': WHATEVER THE INPUT: true; the input reads as it did. -/
def deltaAppliesSpec : ChangeSpec := { name := "deltaApplies", fn := fun _ => fun
  | [d1, d2] => { results := [.lit (.bool true)], args := [d1, d2] }
  | _ => none }
def deltaAppliesRow : OpenClaim := { program := "ytonlmlmjglaoiaadoor", sum := "451e46c7717e2221a451771d6600dc408f80bcd544e71395ebad74b350c111b8", func := "scrollback/scrollbacklaw45.DeltaApplies", spec := "deltaApplies", unfollowed := true, recurses := true, named := ["scrollback/width.marks", "scrollback/width.wide"], apart := false, laid := [("scrollback/width.marks", laid_scrollback_width_marks), ("scrollback/width.wide", laid_scrollback_width_wide)] }
def DeltaAppliesSaid : Prop := deltaAppliesRow.holds Tryd.pinned (OpenSpec.ofChange deltaAppliesSpec)

/-- ITS FALSE NEIGHBOUR: 'it returns false'. Refute it at one input. -/
def deltaAppliesWrong : ChangeSpec := { name := "deltaApplies", fn := fun _ => fun
  | [d1, d2] => { results := [.lit (.bool false)], args := [d1, d2] }
  | _ => none }
def DeltaAppliesWrongFalsely : Prop := deltaAppliesRow.holds Tryd.pinned (OpenSpec.ofChange deltaAppliesWrong)

/-- 'scrollbacklaw45.DeltaMany': WHATEVER THE INPUT: true; the input reads as it did. -/
def deltaManySpec : ChangeSpec := { name := "deltaMany", fn := fun _ => fun
  | [d1, d2] => { results := [.lit (.bool true)], args := [d1, d2] }
  | _ => none }
def deltaManyRow : OpenClaim := { program := "ytonlmlmjglaoiaadoor", sum := "451e46c7717e2221a451771d6600dc408f80bcd544e71395ebad74b350c111b8", func := "scrollback/scrollbacklaw45.DeltaMany", spec := "deltaMany", unfollowed := true, recurses := true, named := ["scrollback/width.marks", "scrollback/width.wide"], apart := false, laid := [("scrollback/width.marks", laid_scrollback_width_marks), ("scrollback/width.wide", laid_scrollback_width_wide)] }
def DeltaManySaid : Prop := deltaManyRow.holds Tryd.pinned (OpenSpec.ofChange deltaManySpec)

/-- ITS FALSE NEIGHBOUR: 'it returns false'. Refute it at one input. -/
def deltaManyWrong : ChangeSpec := { name := "deltaMany", fn := fun _ => fun
  | [d1, d2] => { results := [.lit (.bool false)], args := [d1, d2] }
  | _ => none }
def DeltaManyWrongFalsely : Prop := deltaManyRow.holds Tryd.pinned (OpenSpec.ofChange deltaManyWrong)

/-- 'scrollbacklaw45.DeltaHolds': WHATEVER THE INPUT: true; the input reads as it did. -/
def deltaHoldsSpec : ChangeSpec := { name := "deltaHolds", fn := fun _ => fun
  | [d1, d2] => { results := [.lit (.bool true)], args := [d1, d2] }
  | _ => none }
def deltaHoldsRow : OpenClaim := { program := "ytonlmlmjglaoiaadoor", sum := "451e46c7717e2221a451771d6600dc408f80bcd544e71395ebad74b350c111b8", func := "scrollback/scrollbacklaw45.DeltaHolds", spec := "deltaHolds", unfollowed := true, recurses := true, named := ["scrollback/width.marks", "scrollback/width.wide"], apart := false, laid := [("scrollback/width.marks", laid_scrollback_width_marks), ("scrollback/width.wide", laid_scrollback_width_wide)] }
def DeltaHoldsSaid : Prop := deltaHoldsRow.holds Tryd.pinned (OpenSpec.ofChange deltaHoldsSpec)

/-- ITS FALSE NEIGHBOUR: 'it returns false'. Refute it at one input. -/
def deltaHoldsWrong : ChangeSpec := { name := "deltaHolds", fn := fun _ => fun
  | [d1, d2] => { results := [.lit (.bool false)], args := [d1, d2] }
  | _ => none }
def DeltaHoldsWrongFalsely : Prop := deltaHoldsRow.holds Tryd.pinned (OpenSpec.ofChange deltaHoldsWrong)

/-- 'scrollbacklaw45.DeltaCounts': WHATEVER THE INPUT: true; the input reads as it did. -/
def deltaCountsSpec : ChangeSpec := { name := "deltaCounts", fn := fun _ => fun
  | [d] => { results := [.lit (.bool true)], args := [d] }
  | _ => none }
def deltaCountsRow : OpenClaim := { program := "ytonlmlmjglaoiaadoor", sum := "451e46c7717e2221a451771d6600dc408f80bcd544e71395ebad74b350c111b8", func := "scrollback/scrollbacklaw45.DeltaCounts", spec := "deltaCounts", unfollowed := true, recurses := true, named := ["scrollback/width.marks", "scrollback/width.wide"], apart := false, laid := [("scrollback/width.marks", laid_scrollback_width_marks), ("scrollback/width.wide", laid_scrollback_width_wide)] }
def DeltaCountsSaid : Prop := deltaCountsRow.holds Tryd.pinned (OpenSpec.ofChange deltaCountsSpec)

/-- ITS FALSE NEIGHBOUR: 'it returns false'. Refute it at one input. -/
def deltaCountsWrong : ChangeSpec := { name := "deltaCounts", fn := fun _ => fun
  | [d] => { results := [.lit (.bool false)], args := [d] }
  | _ => none }
def DeltaCountsWrongFalsely : Prop := deltaCountsRow.holds Tryd.pinned (OpenSpec.ofChange deltaCountsWrong)

/- THE SECOND FORM. 'bulk': how many values and letters a reading holds, each counted each time it is reached (what is shared counts as often as it is met; a slice's spare places count too). A statement '..UptoSaid' is the law's where the arguments, and the package variables that the reading takes, are together of bulk at most 1048576: NARROWER than '..Said'. Prove '..Said' where nothing that the law and all that it calls make is longer than what came in: it says more and counts as full. Else prove '..UptoSaid'. A law counts once. -/
mutual
def uptoBulk {H : Type} : DataW H → Nat
  | .lit (.string bytes) => bytes.length + 1
  | .lit _ => 1
  | .nil => 1
  | .ptr d => uptoBulk d + 1
  | .slice elems spare => uptoBulkAll elems + uptoBulkAll spare + 1
  | .agg parts => uptoBulkAll parts + 1
  | .iface _ d => uptoBulk d + 1
  | .map entries => uptoBulkEntries entries + 1
  | .held _ => 1
def uptoBulkAll {H : Type} : List (DataW H) → Nat
  | [] => 0
  | d :: r => uptoBulk d + uptoBulkAll r
def uptoBulkEntries {H : Type} : List (Lit × DataW H) → Nat
  | [] => 0
  | x :: r => uptoBulkEntry x + uptoBulkEntries r
def uptoBulkEntry {H : Type} : Lit × DataW H → Nat
  | (.string bytes, d) => bytes.length + uptoBulk d + 1
  | (_, d) => uptoBulk d + 1
 end
def uptoSmall : (H : Type) → List (DataW H) → Bool := fun _ ds => decide (uptoBulkAll ds ≤ 1048576)
def OpenSpec.upto (s : _root_.Go.ChangeSpec) : _root_.Go.OpenSpec := { _root_.Go.OpenSpec.ofChange s with cond := some uptoSmall }

/-- 'scrollbacklaw45.DeltaOf', WHERE WHAT IT READS IS OF BULK AT MOST 1048576: true; the input reads as it did. -/
def deltaOfUptoRow : OpenClaim := { program := "ytonlmlmjglaoiaadoor", sum := "451e46c7717e2221a451771d6600dc408f80bcd544e71395ebad74b350c111b8", func := "scrollback/scrollbacklaw45.DeltaOf", spec := "deltaOf", unfollowed := true, recurses := true, named := ["scrollback/width.marks", "scrollback/width.wide"], apart := false, laid := [("scrollback/width.marks", laid_scrollback_width_marks), ("scrollback/width.wide", laid_scrollback_width_wide)], narrowed := true }
def DeltaOfUptoSaid : Prop := deltaOfUptoRow.holds Tryd.pinned (OpenSpec.upto deltaOfSpec)

/-- 'scrollbacklaw45.DeltaApplies', WHERE WHAT IT READS IS OF BULK AT MOST 1048576: true; the input reads as it did. -/
def deltaAppliesUptoRow : OpenClaim := { program := "ytonlmlmjglaoiaadoor", sum := "451e46c7717e2221a451771d6600dc408f80bcd544e71395ebad74b350c111b8", func := "scrollback/scrollbacklaw45.DeltaApplies", spec := "deltaApplies", unfollowed := true, recurses := true, named := ["scrollback/width.marks", "scrollback/width.wide"], apart := false, laid := [("scrollback/width.marks", laid_scrollback_width_marks), ("scrollback/width.wide", laid_scrollback_width_wide)], narrowed := true }
def DeltaAppliesUptoSaid : Prop := deltaAppliesUptoRow.holds Tryd.pinned (OpenSpec.upto deltaAppliesSpec)

/-- 'scrollbacklaw45.DeltaMany', WHERE WHAT IT READS IS OF BULK AT MOST 1048576: true; the input reads as it did. -/
def deltaManyUptoRow : OpenClaim := { program := "ytonlmlmjglaoiaadoor", sum := "451e46c7717e2221a451771d6600dc408f80bcd544e71395ebad74b350c111b8", func := "scrollback/scrollbacklaw45.DeltaMany", spec := "deltaMany", unfollowed := true, recurses := true, named := ["scrollback/width.marks", "scrollback/width.wide"], apart := false, laid := [("scrollback/width.marks", laid_scrollback_width_marks), ("scrollback/width.wide", laid_scrollback_width_wide)], narrowed := true }
def DeltaManyUptoSaid : Prop := deltaManyUptoRow.holds Tryd.pinned (OpenSpec.upto deltaManySpec)

/-- 'scrollbacklaw45.DeltaHolds', WHERE WHAT IT READS IS OF BULK AT MOST 1048576: true; the input reads as it did. -/
def deltaHoldsUptoRow : OpenClaim := { program := "ytonlmlmjglaoiaadoor", sum := "451e46c7717e2221a451771d6600dc408f80bcd544e71395ebad74b350c111b8", func := "scrollback/scrollbacklaw45.DeltaHolds", spec := "deltaHolds", unfollowed := true, recurses := true, named := ["scrollback/width.marks", "scrollback/width.wide"], apart := false, laid := [("scrollback/width.marks", laid_scrollback_width_marks), ("scrollback/width.wide", laid_scrollback_width_wide)], narrowed := true }
def DeltaHoldsUptoSaid : Prop := deltaHoldsUptoRow.holds Tryd.pinned (OpenSpec.upto deltaHoldsSpec)

/-- 'scrollbacklaw45.DeltaCounts', WHERE WHAT IT READS IS OF BULK AT MOST 1048576: true; the input reads as it did. -/
def deltaCountsUptoRow : OpenClaim := { program := "ytonlmlmjglaoiaadoor", sum := "451e46c7717e2221a451771d6600dc408f80bcd544e71395ebad74b350c111b8", func := "scrollback/scrollbacklaw45.DeltaCounts", spec := "deltaCounts", unfollowed := true, recurses := true, named := ["scrollback/width.marks", "scrollback/width.wide"], apart := false, laid := [("scrollback/width.marks", laid_scrollback_width_marks), ("scrollback/width.wide", laid_scrollback_width_wide)], narrowed := true }
def DeltaCountsUptoSaid : Prop := deltaCountsUptoRow.holds Tryd.pinned (OpenSpec.upto deltaCountsSpec)

end Rows
end Go.Proofs.YtonlmlmjglaoiaaDoor
