/- From what the row's list and the world's shape give to what the walks ask (42). Places that came in, opened. No condition. -/
import Derived.Test.YtfdolhppbimbmaaDoorLaw
import Derived.Test.YtfdolhppbimbmaaDoorOpenL
import Derived.Test.YtfdolhppbimbmaaDoorSrI
namespace Go.Proofs.YtfdolhppbimbmaaDoor
set_option linter.unusedVariables false
set_option linter.unusedSimpArgs false
open Go.RowKit
theorem std_of_shaped {W : World} (hsh : W.ShapedOpen Tryd.prog) : Std W := by
  have h := Tryd.laysM143.s1_3 W hsh
  exact h
end Go.Proofs.YtfdolhppbimbmaaDoor

namespace Go.Proofs.YtfdolhppbimbmaaDoor
set_option linter.unusedVariables false
set_option linter.unusedSimpArgs false
open Go.ChangeShapes Go.WideShapes Go.ChangeAt Go.RowKit

section
variable {H : Type} {enc : TypeId × Value → H} {w : World} {base : Nat} {spare : Nat → Bool} {held : Bool}
set_option maxRecDepth 100000 in
theorem open_place {r : Reach} {b0 : Nat} {v : Value} {d : DataW H} {ps : List MemPlace} (hv : Value.okWide Tryd.prog w r b0 31 v) (h : DataW.Trod enc Tryd.prog w base spare held 31 v d ps) :
    ∃ l c : Int, v = .agg #[.int .i64 l, .int .i64 c] ∧ (-9223372036854775808 ≤ l ∧ l ≤ 9223372036854775807) ∧ (-9223372036854775808 ≤ c ∧ c ≤ 9223372036854775807) := by
  obtain ⟨fuel, h⟩ := h
  have hft : flatT Tryd.prog 8 31 = some [3, 3] := by kernel_rfl
  obtain ⟨hl, hg⟩ := leaves 8 _ _ hft fuel _ _ h
  obtain ⟨l, e0, w0⟩ := leaf_int (hg 0 _ rfl) Tryd.underlying3
  obtain ⟨c, e1, w1⟩ := leaf_int (hg 1 _ rfl) Tryd.underlying3
  obtain ⟨xs, rfl, _⟩ := okWide_struct Tryd.underlying31 hv
  refine ⟨l, c, ?_, by simpa [Lit.wf, IntKind.min, IntKind.max, IntKind.signed, IntKind.bits] using w0, by simpa [Lit.wf, IntKind.min, IntKind.max, IntKind.signed, IntKind.bits] using w1⟩
  obtain ⟨xs⟩ := xs
  simp only [Value.cells] at hl e0 e1
  obtain ⟨a, b, rfl⟩ : ∃ a b, xs = [a, b] := by
    have hl2 : xs.length = 2 := hl
    clear hl e0 e1
    match xs, hl2 with
    | [a, b], _ => exact ⟨a, b, rfl⟩
  simp at e0 e1
  subst e0 e1
  rfl
end
end Go.Proofs.YtfdolhppbimbmaaDoor
