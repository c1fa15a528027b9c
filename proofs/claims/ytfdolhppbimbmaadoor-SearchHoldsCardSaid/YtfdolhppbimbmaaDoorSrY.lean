/- SearchAll (42). The tables hold what the program's text lays. -/
import Derived.Test.YtfdolhppbimbmaaDoorSrX
import Derived.Test.YtfdolhppbimbmaaDoorSrV
namespace Go.Proofs.YtfdolhppbimbmaaDoor
set_option linter.unusedVariables false
set_option linter.unusedSimpArgs false
open Go.RowKit Go.Shelf
attribute [local go_sem] Oper.semAt_some

theorem small_ck {ls : List Ln} {first : Int} {p : ByteArray} (h : smallB ls = true) : ls.length ≤ 10 ∧ ∀ x ∈ ls, x.cells.length ≤ 20 := smallB_ok h
theorem patOk_pos {p : ByteArray} (h : patOk p = true) : 1 ≤ p.size ∧ p.size ≤ 200 := patOk_ok h
theorem ne_of_pat {p : ByteArray} (h : patOk p = true) : p.data.toList ≠ [] := fun e => by
  have := (patOk_ok h).1
  rw [Lib.size_eq, e] at this
  simp at this
end Go.Proofs.YtfdolhppbimbmaaDoor
