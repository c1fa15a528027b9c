/-
  No cell of these rows narrows 'for every input' (looked for: loops, veiled, ifaces, maps, wideKeys, modest, calm, conditions, laid).
  DERIVED. THE GIVEN ROWS OF THIS SEAT. 5 by the template 'for every input the law returns true; each argument reads behind the call as it read before'; 0 by the template 'total and deterministic' (their statements: YtdblmoaimghplaaTotals.lean).
  GIVEN WITH THE SEED: the statements are not yours to turn. If you find one false, say at which input.
  Laid BY PROGRAM, IN A SANDBOX (cutbox-rows.mjs): the forced cells as the released guide's own fill.sh prints them over the translation d70104f718b71ed4… (all of the seat's roots in one cut). By AI agents, Wed Nov 11 2026. No macro, syntax, notation, axiom, sorry.
-/
import Derived.Test.YtdblmoaimghplaaChecked
import GoSem.Claim
import GoSem.ClaimJoined
import GoSem.ClaimMapViews
import Derived.JoinedTies
import Derived.KernelRfl
namespace Go.Proofs.Ytdblmoaimghplaa
/- THE CELL 'sum', in the pinned program and in every row, IS THE sha256 OF THE DUMP (.gsa) THAT YtdblmoaimghplaaProg.lean LOADS. Nothing in Lean hashes anything: it is a label: what it is worth is what the hold of that sum in a sandbox is worth. -/
noncomputable def Try.pinned : Pinned := { name := "ytdblmoaimghplaa", sum := "d70104f718b71ed4ee3e523480bc9798d2c13e6e38cbe609e90abfb57682286d", checked := Try.checked }
namespace Rows
def none {H : Type} : Left H := { results := [], args := [] }

/-- 'scrollbacklaw20.TabsWalks': WHATEVER THE INPUT: true; the input reads as it did. -/
def tabsWalksSpec : ChangeSpec := { name := "tabsWalks", fn := fun _ => fun
  | [d1, d2, d3] => { results := [.lit (.bool true)], args := [d1, d2, d3] }
  | _ => none }
def tabsWalksRow : OpenClaim := { program := "ytdblmoaimghplaa", sum := "d70104f718b71ed4ee3e523480bc9798d2c13e6e38cbe609e90abfb57682286d", func := "scrollback/scrollbacklaw20.TabsWalks", spec := "tabsWalks", unfollowed := true, recurses := true, apart := false }
def TabsWalksSaid : Prop := tabsWalksRow.holds Try.pinned (OpenSpec.ofChange tabsWalksSpec)

/-- ITS FALSE NEIGHBOUR: 'it returns false'. Refute it at one input. -/
def tabsWalksWrong : ChangeSpec := { name := "tabsWalks", fn := fun _ => fun
  | [d1, d2, d3] => { results := [.lit (.bool false)], args := [d1, d2, d3] }
  | _ => none }
def TabsWalksWrongFalsely : Prop := tabsWalksRow.holds Try.pinned (OpenSpec.ofChange tabsWalksWrong)

/-- 'scrollbacklaw20.TabsSizes': WHATEVER THE INPUT: true; the input reads as it did. -/
def tabsSizesSpec : ChangeSpec := { name := "tabsSizes", fn := fun _ => fun
  | [d] => { results := [.lit (.bool true)], args := [d] }
  | _ => none }
def tabsSizesRow : OpenClaim := { program := "ytdblmoaimghplaa", sum := "d70104f718b71ed4ee3e523480bc9798d2c13e6e38cbe609e90abfb57682286d", func := "scrollback/scrollbacklaw20.TabsSizes", spec := "tabsSizes", unfollowed := true, recurses := true, apart := false }
def TabsSizesSaid : Prop := tabsSizesRow.holds Try.pinned (OpenSpec.ofChange tabsSizesSpec)

/-- ITS FALSE NEIGHBOUR: 'it returns false'. Refute it at one input. -/
def tabsSizesWrong : ChangeSpec := { name := "tabsSizes", fn := fun _ => fun
  | [d] => { results := [.lit (.bool false)], args := [d] }
  | _ => none }
def TabsSizesWrongFalsely : Prop := tabsSizesRow.holds Try.pinned (OpenSpec.ofChange tabsSizesWrong)

/-- 'scrollbacklaw20.TabsHolds': WHATEVER THE INPUT: true; the input reads as it did. -/
def tabsHoldsSpec : ChangeSpec := { name := "tabsHolds", fn := fun _ => fun
  | [d1, d2, d3, d4, d5, d6] => { results := [.lit (.bool true)], args := [d1, d2, d3, d4, d5, d6] }
  | _ => none }
def tabsHoldsRow : OpenClaim := { program := "ytdblmoaimghplaa", sum := "d70104f718b71ed4ee3e523480bc9798d2c13e6e38cbe609e90abfb57682286d", func := "scrollback/scrollbacklaw20.TabsHolds", spec := "tabsHolds", unfollowed := true, recurses := true, apart := false }
def TabsHoldsSaid : Prop := tabsHoldsRow.holds Try.pinned (OpenSpec.ofChange tabsHoldsSpec)

/-- ITS FALSE NEIGHBOUR: 'it returns false'. Refute it at one input. -/
def tabsHoldsWrong : ChangeSpec := { name := "tabsHolds", fn := fun _ => fun
  | [d1, d2, d3, d4, d5, d6] => { results := [.lit (.bool false)], args := [d1, d2, d3, d4, d5, d6] }
  | _ => none }
def TabsHoldsWrongFalsely : Prop := tabsHoldsRow.holds Try.pinned (OpenSpec.ofChange tabsHoldsWrong)

/-- 'scrollbacklaw20.TabsPlays': WHATEVER THE INPUT: true; the input reads as it did. -/
def tabsPlaysSpec : ChangeSpec := { name := "tabsPlays", fn := fun _ => fun
  | [d1, d2] => { results := [.lit (.bool true)], args := [d1, d2] }
  | _ => none }
def tabsPlaysRow : OpenClaim := { program := "ytdblmoaimghplaa", sum := "d70104f718b71ed4ee3e523480bc9798d2c13e6e38cbe609e90abfb57682286d", func := "scrollback/scrollbacklaw20.TabsPlays", spec := "tabsPlays", inPlace := ["maps.clone"], unfollowed := true, recurses := true, apart := false }
def TabsPlaysSaid : Prop := tabsPlaysRow.holds Try.pinned (OpenSpec.ofChange tabsPlaysSpec)

/-- ITS FALSE NEIGHBOUR: 'it returns false'. Refute it at one input. -/
def tabsPlaysWrong : ChangeSpec := { name := "tabsPlays", fn := fun _ => fun
  | [d1, d2] => { results := [.lit (.bool false)], args := [d1, d2] }
  | _ => none }
def TabsPlaysWrongFalsely : Prop := tabsPlaysRow.holds Try.pinned (OpenSpec.ofChange tabsPlaysWrong)

/-- 'scrollbacklaw20.TabsNil': WHATEVER THE INPUT: true; the input reads as it did. -/
def tabsNilSpec : ChangeSpec := { name := "tabsNil", fn := fun _ => fun
  | [d1, d2] => { results := [.lit (.bool true)], args := [d1, d2] }
  | _ => none }
def tabsNilRow : OpenClaim := { program := "ytdblmoaimghplaa", sum := "d70104f718b71ed4ee3e523480bc9798d2c13e6e38cbe609e90abfb57682286d", func := "scrollback/scrollbacklaw20.TabsNil", spec := "tabsNil", inPlace := ["maps.clone"], unfollowed := true, recurses := true, apart := false }
def TabsNilSaid : Prop := tabsNilRow.holds Try.pinned (OpenSpec.ofChange tabsNilSpec)

/-- ITS FALSE NEIGHBOUR: 'it returns false'. Refute it at one input. -/
def tabsNilWrong : ChangeSpec := { name := "tabsNil", fn := fun _ => fun
  | [d1, d2] => { results := [.lit (.bool false)], args := [d1, d2] }
  | _ => none }
def TabsNilWrongFalsely : Prop := tabsNilRow.holds Try.pinned (OpenSpec.ofChange tabsNilWrong)

/- THE SECOND FORM. 'bulk': how many values and letters a reading holds, each counted each time it is reached (what is shared counts as often as it is met; a slice's spare places count too). A statement '..UptoSaid' is the law's where the arguments, and the package variables that the reading takes, are together of bulk at most 1048576: NARROWER than '..Said'. Prove '..Said' where nothing that the law and all that it calls make is longer than what came in: it says more and counts as full. Else prove '..UptoSaid'. A law counts once. -/
mutual
def uptoBulk {H : Type} : DataW H → Nat
  | .lit (.string bytes) => bytes.length + 1
  | .lit _ => 1
  | .nil => 1
  | .ptr d => uptoBulk d + 1
  | .slice elems spare => uptoBulkAll elems + uptoBulkAll spare + 1
  | .agg parts => uptoBulkAll parts + 1
  | .iface _ d => uptoBulk d + 1
  | .map entries => uptoBulkEntries entries + 1
  | .held _ => 1
def uptoBulkAll {H : Type} : List (DataW H) → Nat
  | [] => 0
  | d :: r => uptoBulk d + uptoBulkAll r
def uptoBulkEntries {H : Type} : List (Lit × DataW H) → Nat
  | [] => 0
  | x :: r => uptoBulkEntry x + uptoBulkEntries r
def uptoBulkEntry {H : Type} : Lit × DataW H → Nat
  | (.string bytes, d) => bytes.length + uptoBulk d + 1
  | (_, d) => uptoBulk d + 1
 end
def uptoSmall : (H : Type) → List (DataW H) → Bool := fun _ ds => decide (uptoBulkAll ds ≤ 1048576)
def OpenSpec.upto (s : _root_.Go.ChangeSpec) : _root_.Go.OpenSpec := { _root_.Go.OpenSpec.ofChange s with cond := some uptoSmall }

/-- 'scrollbacklaw20.TabsWalks', WHERE WHAT IT READS IS OF BULK AT MOST 1048576: true; the input reads as it did. -/
def tabsWalksUptoRow : OpenClaim := { program := "ytdblmoaimghplaa", sum := "d70104f718b71ed4ee3e523480bc9798d2c13e6e38cbe609e90abfb57682286d", func := "scrollback/scrollbacklaw20.TabsWalks", spec := "tabsWalks", unfollowed := true, recurses := true, apart := false, narrowed := true }
def TabsWalksUptoSaid : Prop := tabsWalksUptoRow.holds Try.pinned (OpenSpec.upto tabsWalksSpec)

/-- 'scrollbacklaw20.TabsSizes', WHERE WHAT IT READS IS OF BULK AT MOST 1048576: true; the input reads as it did. -/
def tabsSizesUptoRow : OpenClaim := { program := "ytdblmoaimghplaa", sum := "d70104f718b71ed4ee3e523480bc9798d2c13e6e38cbe609e90abfb57682286d", func := "scrollback/scrollbacklaw20.TabsSizes", spec := "tabsSizes", unfollowed := true, recurses := true, apart := false, narrowed := true }
def TabsSizesUptoSaid : Prop := tabsSizesUptoRow.holds Try.pinned (OpenSpec.upto tabsSizesSpec)

/-- 'scrollbacklaw20.TabsHolds', WHERE WHAT IT READS IS OF BULK AT MOST 1048576: true; the input reads as it did. -/
def tabsHoldsUptoRow : OpenClaim := { program := "ytdblmoaimghplaa", sum := "d70104f718b71ed4ee3e523480bc9798d2c13e6e38cbe609e90abfb57682286d", func := "scrollback/scrollbacklaw20.TabsHolds", spec := "tabsHolds", unfollowed := true, recurses := true, apart := false, narrowed := true }
def TabsHoldsUptoSaid : Prop := tabsHoldsUptoRow.holds Try.pinned (OpenSpec.upto tabsHoldsSpec)

/-- 'scrollbacklaw20.TabsPlays', WHERE WHAT IT READS IS OF BULK AT MOST 1048576: true; the input reads as it did. -/
def tabsPlaysUptoRow : OpenClaim := { program := "ytdblmoaimghplaa", sum := "d70104f718b71ed4ee3e523480bc9798d2c13e6e38cbe609e90abfb57682286d", func := "scrollback/scrollbacklaw20.TabsPlays", spec := "tabsPlays", inPlace := ["maps.clone"], unfollowed := true, recurses := true, apart := false, narrowed := true }
def TabsPlaysUptoSaid : Prop := tabsPlaysUptoRow.holds Try.pinned (OpenSpec.upto tabsPlaysSpec)

/-- 'scrollbacklaw20.TabsNil', WHERE WHAT IT READS IS OF BULK AT MOST 1048576: true; the input reads as it did. -/
def tabsNilUptoRow : OpenClaim := { program := "ytdblmoaimghplaa", sum := "d70104f718b71ed4ee3e523480bc9798d2c13e6e38cbe609e90abfb57682286d", func := "scrollback/scrollbacklaw20.TabsNil", spec := "tabsNil", inPlace := ["maps.clone"], unfollowed := true, recurses := true, apart := false, narrowed := true }
def TabsNilUptoSaid : Prop := tabsNilUptoRow.holds Try.pinned (OpenSpec.upto tabsNilSpec)

end Rows
end Go.Proofs.Ytdblmoaimghplaa
