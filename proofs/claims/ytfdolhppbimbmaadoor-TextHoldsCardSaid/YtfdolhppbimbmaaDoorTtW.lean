/- scrollbacklaw40.part (40). The tables hold what the program's text lays. -/
import Derived.Test.YtfdolhppbimbmaaDoorTtV
namespace Go.Proofs.YtfdolhppbimbmaaDoor
set_option linter.unusedVariables false
set_option linter.unusedSimpArgs false
open Go.RowKit
attribute [local go_sem] Oper.semAt_some

def halfC (cs : List Cell) (l r i : Nat) (c : Cell) : Bool := (c.width == 0 && i == l) || (c.width == 2 && (i == r || i + 1 == cs.length))
def partTo (cs : List Cell) (l r : Nat) : Nat → List UInt8
  | 0 => []
  | j + 1 => partTo cs l r j ++ (match cs[l + j]? with | some c => if halfC cs l r (l + j) c then [32] else c.txt | none => [])
/-- The text of a part of a row's cells. -/
def partB (cs : List Cell) (l r : Nat) : List UInt8 := partTo cs l r (min (r + 1) cs.length - l)
theorem partTo_step {cs : List Cell} {l r j : Nat} {c : Cell} (h : cs[l + j]? = some c) : partTo cs l r (j + 1) = partTo cs l r j ++ (if halfC cs l r (l + j) c then [32] else c.txt) := by rw [partTo, h]
theorem partTo_len (cs : List Cell) (l r : Nat) : ∀ j, (partTo cs l r j).length ≤ j * 16
  | 0 => by simp [partTo]
  | j + 1 => by
    have h := partTo_len cs l r j
    rw [partTo, List.length_append, Nat.succ_mul]
    split
    · rename_i c _
      have := c.txt_len
      split <;> simp <;> omega
    · simp; omega
end Go.Proofs.YtfdolhppbimbmaaDoor
