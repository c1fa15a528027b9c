/-
  NARROWER THAN 'FOR EVERY INPUT', by the rows' own cells (each row's printed sentence says how): SearchAll: laid · SearchSteps: laid · SearchMany: laid · SearchLongs: laid · SearchHolds: laid.
  DERIVED. THE GIVEN ROWS OF THIS SEAT. 5 by the template 'for every input the law returns true; each argument reads behind the call as it read before'; 0 by the template 'total and deterministic' (their statements: YtohiigmlkhpneaaDoorTotals.lean).
  GIVEN WITH THE SEED: the statements are not yours to turn. If you find one false, say at which input.
  Laid BY PROGRAM, IN A SANDBOX (cutbox-rows.mjs): the forced cells as the released guide's own fill.sh prints them over the translation 23721aa5f41bd6b5… (all of the seat's roots in one cut). By AI agents, Wed Nov 11 2026. No macro, syntax, notation, axiom, sorry.
-/
import Derived.Test.YtohiigmlkhpneaaDoorChecked
import GoSem.Claim
import GoSem.ClaimJoined
import GoSem.ClaimMapViews
import Derived.JoinedTies
import Derived.KernelRfl
namespace Go.Proofs.YtohiigmlkhpneaaDoor
/- THE CELL 'sum', in the pinned program and in every row, IS THE sha256 OF THE DUMP (.gsa) THAT YtohiigmlkhpneaaDoorProg.lean LOADS. Nothing in Lean hashes anything: it is a label: what it is worth is what the hold of that sum in a sandbox is worth. -/
noncomputable def Tryd.pinned : Pinned := { name := "ytohiigmlkhpneaadoor", sum := "23721aa5f41bd6b5b6e12e6d00dcd442292c0ed4078e6708109aa34bff5bcc84", checked := Tryd.checked }
namespace Rows
def none {H : Type} : Left H := { results := [], args := [] }

/- WHAT THE LISTED PACKAGE-LEVEL VARIABLES READ AS WHEN THE CALL BEGINS. Each datum BY PROGRAM (the guide's laid-datum.mjs) off the statement by which the dump's own 'gosem.cut.vars' lays the variable. In a bare row this is a premise. The card (YtohiigmlkhpneaaDoorCards.lean) ties it to the program's text. -/
def laid_scrollback_width_marks {H : Type} : DataW H := .agg [.agg [.lit (.int .i32 768), .lit (.int .i32 879)], .agg [.lit (.int .i32 1155), .lit (.int .i32 1161)], .agg [.lit (.int .i32 1425), .lit (.int .i32 1469)], .agg [.lit (.int .i32 1552), .lit (.int .i32 1562)], .agg [.lit (.int .i32 1611), .lit (.int .i32 1631)], .agg [.lit (.int .i32 1750), .lit (.int .i32 1756)], .agg [.lit (.int .i32 3633), .lit (.int .i32 3633)], .agg [.lit (.int .i32 3636), .lit (.int .i32 3642)], .agg [.lit (.int .i32 3655), .lit (.int .i32 3662)], .agg [.lit (.int .i32 6832), .lit (.int .i32 6911)], .agg [.lit (.int .i32 7616), .lit (.int .i32 7679)], .agg [.lit (.int .i32 8203), .lit (.int .i32 8207)], .agg [.lit (.int .i32 8400), .lit (.int .i32 8447)], .agg [.lit (.int .i32 12330), .lit (.int .i32 12335)], .agg [.lit (.int .i32 12441), .lit (.int .i32 12442)], .agg [.lit (.int .i32 65024), .lit (.int .i32 65039)], .agg [.lit (.int .i32 65056), .lit (.int .i32 65071)], .agg [.lit (.int .i32 917760), .lit (.int .i32 917999)]]
def laid_scrollback_width_wide {H : Type} : DataW H := .agg [.agg [.lit (.int .i32 4352), .lit (.int .i32 4447)], .agg [.lit (.int .i32 9001), .lit (.int .i32 9002)], .agg [.lit (.int .i32 11904), .lit (.int .i32 12329)], .agg [.lit (.int .i32 12336), .lit (.int .i32 12350)], .agg [.lit (.int .i32 12353), .lit (.int .i32 12440)], .agg [.lit (.int .i32 12443), .lit (.int .i32 13311)], .agg [.lit (.int .i32 13312), .lit (.int .i32 19903)], .agg [.lit (.int .i32 19968), .lit (.int .i32 42191)], .agg [.lit (.int .i32 43360), .lit (.int .i32 43391)], .agg [.lit (.int .i32 44032), .lit (.int .i32 55203)], .agg [.lit (.int .i32 63744), .lit (.int .i32 64255)], .agg [.lit (.int .i32 65072), .lit (.int .i32 65135)], .agg [.lit (.int .i32 65280), .lit (.int .i32 65376)], .agg [.lit (.int .i32 65504), .lit (.int .i32 65510)], .agg [.lit (.int .i32 127744), .lit (.int .i32 128591)], .agg [.lit (.int .i32 128640), .lit (.int .i32 128767)], .agg [.lit (.int .i32 129280), .lit (.int .i32 129535)], .agg [.lit (.int .i32 131072), .lit (.int .i32 196605)], .agg [.lit (.int .i32 196608), .lit (.int .i32 262141)]]

/-- 'scrollbacklaw42.SearchAll': WHATEVER THE INPUT: true; the input reads as it did. -/
def searchAllSpec : ChangeSpec := { name := "searchAll", fn := fun _ => fun
  | [d1, d2, d3, d4] => { results := [.lit (.bool true)], args := [d1, d2, d3, d4] }
  | _ => none }
def searchAllRow : OpenClaim := { program := "ytohiigmlkhpneaadoor", sum := "23721aa5f41bd6b5b6e12e6d00dcd442292c0ed4078e6708109aa34bff5bcc84", func := "scrollback/scrollbacklaw42.SearchAll", spec := "searchAll", inPlace := ["internal/abi.NoEscape", "internal/bytealg.IndexByteString", "internal/bytealg.IndexString"], unfollowed := true, recurses := true, named := ["scrollback/width.marks", "scrollback/width.wide", "internal/bytealg.MaxLen"], apart := false, laid := [("scrollback/width.marks", laid_scrollback_width_marks), ("scrollback/width.wide", laid_scrollback_width_wide)] }
def SearchAllSaid : Prop := searchAllRow.holds Tryd.pinned (OpenSpec.ofChange searchAllSpec)

/-- ITS FALSE NEIGHBOUR: 'it returns false'. Refute it at one input. -/
def searchAllWrong : ChangeSpec := { name := "searchAll", fn := fun _ => fun
  | [d1, d2, d3, d4] => { results := [.lit (.bool false)], args := [d1, d2, d3, d4] }
  | _ => none }
def SearchAllWrongFalsely : Prop := searchAllRow.holds Tryd.pinned (OpenSpec.ofChange searchAllWrong)

/-- 'scrollbacklaw42.SearchSteps': WHATEVER THE INPUT: true; the input reads as it did. -/
def searchStepsSpec : ChangeSpec := { name := "searchSteps", fn := fun _ => fun
  | [d1, d2, d3, d4, d5] => { results := [.lit (.bool true)], args := [d1, d2, d3, d4, d5] }
  | _ => none }
def searchStepsRow : OpenClaim := { program := "ytohiigmlkhpneaadoor", sum := "23721aa5f41bd6b5b6e12e6d00dcd442292c0ed4078e6708109aa34bff5bcc84", func := "scrollback/scrollbacklaw42.SearchSteps", spec := "searchSteps", inPlace := ["internal/abi.NoEscape", "internal/bytealg.IndexByteString", "internal/bytealg.IndexString"], unfollowed := true, recurses := true, named := ["scrollback/width.marks", "scrollback/width.wide", "internal/bytealg.MaxLen"], apart := false, laid := [("scrollback/width.marks", laid_scrollback_width_marks), ("scrollback/width.wide", laid_scrollback_width_wide)] }
def SearchStepsSaid : Prop := searchStepsRow.holds Tryd.pinned (OpenSpec.ofChange searchStepsSpec)

/-- ITS FALSE NEIGHBOUR: 'it returns false'. Refute it at one input. -/
def searchStepsWrong : ChangeSpec := { name := "searchSteps", fn := fun _ => fun
  | [d1, d2, d3, d4, d5] => { results := [.lit (.bool false)], args := [d1, d2, d3, d4, d5] }
  | _ => none }
def SearchStepsWrongFalsely : Prop := searchStepsRow.holds Tryd.pinned (OpenSpec.ofChange searchStepsWrong)

/-- 'scrollbacklaw42.SearchMany': WHATEVER THE INPUT: true; the input reads as it did. -/
def searchManySpec : ChangeSpec := { name := "searchMany", fn := fun _ => fun
  | [d1, d2, d3] => { results := [.lit (.bool true)], args := [d1, d2, d3] }
  | _ => none }
def searchManyRow : OpenClaim := { program := "ytohiigmlkhpneaadoor", sum := "23721aa5f41bd6b5b6e12e6d00dcd442292c0ed4078e6708109aa34bff5bcc84", func := "scrollback/scrollbacklaw42.SearchMany", spec := "searchMany", inPlace := ["internal/abi.NoEscape", "internal/bytealg.IndexByteString", "internal/bytealg.IndexString"], unfollowed := true, recurses := true, named := ["scrollback/width.marks", "scrollback/width.wide", "internal/bytealg.MaxLen"], apart := false, laid := [("scrollback/width.marks", laid_scrollback_width_marks), ("scrollback/width.wide", laid_scrollback_width_wide)] }
def SearchManySaid : Prop := searchManyRow.holds Tryd.pinned (OpenSpec.ofChange searchManySpec)

/-- ITS FALSE NEIGHBOUR: 'it returns false'. Refute it at one input. -/
def searchManyWrong : ChangeSpec := { name := "searchMany", fn := fun _ => fun
  | [d1, d2, d3] => { results := [.lit (.bool false)], args := [d1, d2, d3] }
  | _ => none }
def SearchManyWrongFalsely : Prop := searchManyRow.holds Tryd.pinned (OpenSpec.ofChange searchManyWrong)

/-- 'scrollbacklaw42.SearchLongs': WHATEVER THE INPUT: true; the input reads as it did. -/
def searchLongsSpec : ChangeSpec := { name := "searchLongs", fn := fun _ => fun
  | [d1, d2] => { results := [.lit (.bool true)], args := [d1, d2] }
  | _ => none }
def searchLongsRow : OpenClaim := { program := "ytohiigmlkhpneaadoor", sum := "23721aa5f41bd6b5b6e12e6d00dcd442292c0ed4078e6708109aa34bff5bcc84", func := "scrollback/scrollbacklaw42.SearchLongs", spec := "searchLongs", inPlace := ["internal/abi.NoEscape", "internal/bytealg.IndexByteString", "internal/bytealg.IndexString"], unfollowed := true, recurses := true, named := ["scrollback/width.marks", "scrollback/width.wide", "internal/bytealg.MaxLen"], apart := false, laid := [("scrollback/width.marks", laid_scrollback_width_marks), ("scrollback/width.wide", laid_scrollback_width_wide)] }
def SearchLongsSaid : Prop := searchLongsRow.holds Tryd.pinned (OpenSpec.ofChange searchLongsSpec)

/-- ITS FALSE NEIGHBOUR: 'it returns false'. Refute it at one input. -/
def searchLongsWrong : ChangeSpec := { name := "searchLongs", fn := fun _ => fun
  | [d1, d2] => { results := [.lit (.bool false)], args := [d1, d2] }
  | _ => none }
def SearchLongsWrongFalsely : Prop := searchLongsRow.holds Tryd.pinned (OpenSpec.ofChange searchLongsWrong)

/-- 'scrollbacklaw42.SearchHolds': WHATEVER THE INPUT: true; the input reads as it did. -/
def searchHoldsSpec : ChangeSpec := { name := "searchHolds", fn := fun _ => fun
  | [d1, d2, d3, d4] => { results := [.lit (.bool true)], args := [d1, d2, d3, d4] }
  | _ => none }
def searchHoldsRow : OpenClaim := { program := "ytohiigmlkhpneaadoor", sum := "23721aa5f41bd6b5b6e12e6d00dcd442292c0ed4078e6708109aa34bff5bcc84", func := "scrollback/scrollbacklaw42.SearchHolds", spec := "searchHolds", inPlace := ["internal/abi.NoEscape", "internal/bytealg.IndexByteString", "internal/bytealg.IndexString"], unfollowed := true, recurses := true, named := ["scrollback/width.marks", "scrollback/width.wide", "internal/bytealg.MaxLen"], apart := false, laid := [("scrollback/width.marks", laid_scrollback_width_marks), ("scrollback/width.wide", laid_scrollback_width_wide)] }
def SearchHoldsSaid : Prop := searchHoldsRow.holds Tryd.pinned (OpenSpec.ofChange searchHoldsSpec)

/-- ITS FALSE NEIGHBOUR: 'it returns false'. Refute it at one input. -/
def searchHoldsWrong : ChangeSpec := { name := "searchHolds", fn := fun _ => fun
  | [d1, d2, d3, d4] => { results := [.lit (.bool false)], args := [d1, d2, d3, d4] }
  | _ => none }
def SearchHoldsWrongFalsely : Prop := searchHoldsRow.holds Tryd.pinned (OpenSpec.ofChange searchHoldsWrong)

/- THE SECOND FORM. 'bulk': how many values and letters a reading holds, each counted each time it is reached (what is shared counts as often as it is met; a slice's spare places count too). A statement '..UptoSaid' is the law's where the arguments, and the package variables that the reading takes, are together of bulk at most 1048576: NARROWER than '..Said'. Prove '..Said' where nothing that the law and all that it calls make is longer than what came in: it says more and counts as full. Else prove '..UptoSaid'. A law counts once. -/
mutual
def uptoBulk {H : Type} : DataW H → Nat
  | .lit (.string bytes) => bytes.length + 1
  | .lit _ => 1
  | .nil => 1
  | .ptr d => uptoBulk d + 1
  | .slice elems spare => uptoBulkAll elems + uptoBulkAll spare + 1
  | .agg parts => uptoBulkAll parts + 1
  | .iface _ d => uptoBulk d + 1
  | .map entries => uptoBulkEntries entries + 1
  | .held _ => 1
def uptoBulkAll {H : Type} : List (DataW H) → Nat
  | [] => 0
  | d :: r => uptoBulk d + uptoBulkAll r
def uptoBulkEntries {H : Type} : List (Lit × DataW H) → Nat
  | [] => 0
  | x :: r => uptoBulkEntry x + uptoBulkEntries r
def uptoBulkEntry {H : Type} : Lit × DataW H → Nat
  | (.string bytes, d) => bytes.length + uptoBulk d + 1
  | (_, d) => uptoBulk d + 1
 end
def uptoSmall : (H : Type) → List (DataW H) → Bool := fun _ ds => decide (uptoBulkAll ds ≤ 1048576)
def OpenSpec.upto (s : _root_.Go.ChangeSpec) : _root_.Go.OpenSpec := { _root_.Go.OpenSpec.ofChange s with cond := some uptoSmall }

/-- 'scrollbacklaw42.SearchAll', WHERE WHAT IT READS IS OF BULK AT MOST 1048576: true; the input reads as it did. -/
def searchAllUptoRow : OpenClaim := { program := "ytohiigmlkhpneaadoor", sum := "23721aa5f41bd6b5b6e12e6d00dcd442292c0ed4078e6708109aa34bff5bcc84", func := "scrollback/scrollbacklaw42.SearchAll", spec := "searchAll", inPlace := ["internal/abi.NoEscape", "internal/bytealg.IndexByteString", "internal/bytealg.IndexString"], unfollowed := true, recurses := true, named := ["scrollback/width.marks", "scrollback/width.wide", "internal/bytealg.MaxLen"], apart := false, laid := [("scrollback/width.marks", laid_scrollback_width_marks), ("scrollback/width.wide", laid_scrollback_width_wide)], narrowed := true }
def SearchAllUptoSaid : Prop := searchAllUptoRow.holds Tryd.pinned (OpenSpec.upto searchAllSpec)

/-- 'scrollbacklaw42.SearchSteps', WHERE WHAT IT READS IS OF BULK AT MOST 1048576: true; the input reads as it did. -/
def searchStepsUptoRow : OpenClaim := { program := "ytohiigmlkhpneaadoor", sum := "23721aa5f41bd6b5b6e12e6d00dcd442292c0ed4078e6708109aa34bff5bcc84", func := "scrollback/scrollbacklaw42.SearchSteps", spec := "searchSteps", inPlace := ["internal/abi.NoEscape", "internal/bytealg.IndexByteString", "internal/bytealg.IndexString"], unfollowed := true, recurses := true, named := ["scrollback/width.marks", "scrollback/width.wide", "internal/bytealg.MaxLen"], apart := false, laid := [("scrollback/width.marks", laid_scrollback_width_marks), ("scrollback/width.wide", laid_scrollback_width_wide)], narrowed := true }
def SearchStepsUptoSaid : Prop := searchStepsUptoRow.holds Tryd.pinned (OpenSpec.upto searchStepsSpec)

/-- 'scrollbacklaw42.SearchMany', WHERE WHAT IT READS IS OF BULK AT MOST 1048576: true; the input reads as it did. -/
def searchManyUptoRow : OpenClaim := { program := "ytohiigmlkhpneaadoor", sum := "23721aa5f41bd6b5b6e12e6d00dcd442292c0ed4078e6708109aa34bff5bcc84", func := "scrollback/scrollbacklaw42.SearchMany", spec := "searchMany", inPlace := ["internal/abi.NoEscape", "internal/bytealg.IndexByteString", "internal/bytealg.IndexString"], unfollowed := true, recurses := true, named := ["scrollback/width.marks", "scrollback/width.wide", "internal/bytealg.MaxLen"], apart := false, laid := [("scrollback/width.marks", laid_scrollback_width_marks), ("scrollback/width.wide", laid_scrollback_width_wide)], narrowed := true }
def SearchManyUptoSaid : Prop := searchManyUptoRow.holds Tryd.pinned (OpenSpec.upto searchManySpec)

/-- 'scrollbacklaw42.SearchLongs', WHERE WHAT IT READS IS OF BULK AT MOST 1048576: true; the input reads as it did. -/
def searchLongsUptoRow : OpenClaim := { program := "ytohiigmlkhpneaadoor", sum := "23721aa5f41bd6b5b6e12e6d00dcd442292c0ed4078e6708109aa34bff5bcc84", func := "scrollback/scrollbacklaw42.SearchLongs", spec := "searchLongs", inPlace := ["internal/abi.NoEscape", "internal/bytealg.IndexByteString", "internal/bytealg.IndexString"], unfollowed := true, recurses := true, named := ["scrollback/width.marks", "scrollback/width.wide", "internal/bytealg.MaxLen"], apart := false, laid := [("scrollback/width.marks", laid_scrollback_width_marks), ("scrollback/width.wide", laid_scrollback_width_wide)], narrowed := true }
def SearchLongsUptoSaid : Prop := searchLongsUptoRow.holds Tryd.pinned (OpenSpec.upto searchLongsSpec)

/-- 'scrollbacklaw42.SearchHolds', WHERE WHAT IT READS IS OF BULK AT MOST 1048576: true; the input reads as it did. -/
def searchHoldsUptoRow : OpenClaim := { program := "ytohiigmlkhpneaadoor", sum := "23721aa5f41bd6b5b6e12e6d00dcd442292c0ed4078e6708109aa34bff5bcc84", func := "scrollback/scrollbacklaw42.SearchHolds", spec := "searchHolds", inPlace := ["internal/abi.NoEscape", "internal/bytealg.IndexByteString", "internal/bytealg.IndexString"], unfollowed := true, recurses := true, named := ["scrollback/width.marks", "scrollback/width.wide", "internal/bytealg.MaxLen"], apart := false, laid := [("scrollback/width.marks", laid_scrollback_width_marks), ("scrollback/width.wide", laid_scrollback_width_wide)], narrowed := true }
def SearchHoldsUptoSaid : Prop := searchHoldsUptoRow.holds Tryd.pinned (OpenSpec.upto searchHoldsSpec)

end Rows
end Go.Proofs.YtohiigmlkhpneaaDoor
