/- scrollbacklaw40.TextBlocks (40): its walk. The tables hold what the program's text lays. -/
import Derived.Test.YtfdolhppbimbmaaDoorTtY
namespace Go.Proofs.YtfdolhppbimbmaaDoor
set_option linter.unusedVariables false
set_option linter.unusedSimpArgs false
open Go.RowKit
attribute [local go_sem] Oper.semAt_some

theorem join_snoc : ∀ (xs : List (List UInt8)) (y : List UInt8), xs ≠ [] → Lib.join (xs ++ [y]) [10] = Lib.join xs [10] ++ ([10] ++ y)
  | [], _, h => absurd rfl h
  | [x], y, _ => by simp [Lib.join, List.intercalate]
  | x :: z :: r, y, _ => by
    have h := join_snoc (z :: r) y (by simp)
    have e : ∀ (a b : List UInt8) (q : List (List UInt8)), Lib.join (a :: b :: q) [10] = a ++ [10] ++ Lib.join (b :: q) [10] := fun a b q => by simp [Lib.join, List.intercalate]
    rw [List.cons_append, List.cons_append, e, e, ← List.cons_append, h]
    simp [List.append_assoc]
end Go.Proofs.YtfdolhppbimbmaaDoor
