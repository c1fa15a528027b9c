/- A place, a choice that came in, opened. No condition. -/
import Derived.Test.YtooiiefipdjbjaaDoorLawT
import Derived.Test.YtooiiefipdjbjaaDoorOpenL
namespace Go.Proofs.YtooiiefipdjbjaaDoor
set_option linter.unusedVariables false
set_option linter.unusedSimpArgs false
open Go.ChangeShapes Go.WideShapes Go.ChangeAt Go.RowKit

section
variable {H : Type} {enc : TypeId × Value → H} {w : World} {base : Nat} {spare : Nat → Bool} {held : Bool}
set_option maxRecDepth 100000 in
theorem open_place {r : Reach} {b0 : Nat} {v : Value} {d : DataW H} {ps : List MemPlace} (hv : Value.okWide Tryd.prog w r b0 25 v) (h : DataW.Trod enc Tryd.prog w base spare held 25 v d ps) :
    ∃ l c : Int, v = .agg #[.int .i64 l, .int .i64 c] ∧ (-9223372036854775808 ≤ l ∧ l ≤ 9223372036854775807) ∧ (-9223372036854775808 ≤ c ∧ c ≤ 9223372036854775807) := by
  obtain ⟨fuel, h⟩ := h
  have hft : flatT Tryd.prog 8 25 = some [3, 3] := by kernel_rfl
  obtain ⟨hl, hg⟩ := leaves 8 _ _ hft fuel _ _ h
  obtain ⟨l, e0, w0⟩ := leaf_int (hg 0 _ rfl) Tryd.underlying3
  obtain ⟨c, e1, w1⟩ := leaf_int (hg 1 _ rfl) Tryd.underlying3
  obtain ⟨xs, rfl, _⟩ := okWide_struct Tryd.underlying25 hv
  refine ⟨l, c, ?_, by simpa [Lit.wf, IntKind.min, IntKind.max, IntKind.signed, IntKind.bits] using w0, by simpa [Lit.wf, IntKind.min, IntKind.max, IntKind.signed, IntKind.bits] using w1⟩
  obtain ⟨xs⟩ := xs
  simp only [Value.cells] at hl e0 e1
  obtain ⟨a, b, rfl⟩ : ∃ a b, xs = [a, b] := by
    have hl2 : xs.length = 2 := hl
    clear hl e0 e1
    match xs, hl2 with
    | [a, b], _ => exact ⟨a, b, rfl⟩
  simp at e0 e1
  subst e0 e1
  rfl
set_option maxRecDepth 100000 in
theorem open_choice {r : Reach} {b0 : Nat} {v : Value} {d : DataW H} {ps : List MemPlace} (hv : Value.okWide Tryd.prog w r b0 27 v) (h : DataW.Trod enc Tryd.prog w base spare held 27 v d ps) :
    ∃ k a b c e : Int, v = .agg #[.int .i64 k, .int .i64 a, .int .i64 b, .int .i64 c, .int .i64 e] ∧ (-9223372036854775808 ≤ k ∧ k ≤ 9223372036854775807) ∧ (-9223372036854775808 ≤ a ∧ a ≤ 9223372036854775807) ∧ (-9223372036854775808 ≤ b ∧ b ≤ 9223372036854775807) ∧ (-9223372036854775808 ≤ c ∧ c ≤ 9223372036854775807) ∧ (-9223372036854775808 ≤ e ∧ e ≤ 9223372036854775807) := by
  obtain ⟨fuel, h⟩ := h
  have hft : flatT Tryd.prog 8 27 = some [23, 3, 3, 3, 3] := by kernel_rfl
  obtain ⟨hl, hg⟩ := leaves 8 _ _ hft fuel _ _ h
  obtain ⟨k, e0, w0⟩ := leaf_int (hg 0 _ rfl) Tryd.underlying23
  obtain ⟨a, e1, w1⟩ := leaf_int (hg 1 _ rfl) Tryd.underlying3
  obtain ⟨b, e2, w2⟩ := leaf_int (hg 2 _ rfl) Tryd.underlying3
  obtain ⟨c, e3, w3⟩ := leaf_int (hg 3 _ rfl) Tryd.underlying3
  obtain ⟨e, e4, w4⟩ := leaf_int (hg 4 _ rfl) Tryd.underlying3
  obtain ⟨xs, rfl, _⟩ := okWide_struct Tryd.underlying27 hv
  refine ⟨k, a, b, c, e, ?_, by simpa [Lit.wf, IntKind.min, IntKind.max, IntKind.signed, IntKind.bits] using w0, by simpa [Lit.wf, IntKind.min, IntKind.max, IntKind.signed, IntKind.bits] using w1, by simpa [Lit.wf, IntKind.min, IntKind.max, IntKind.signed, IntKind.bits] using w2, by simpa [Lit.wf, IntKind.min, IntKind.max, IntKind.signed, IntKind.bits] using w3, by simpa [Lit.wf, IntKind.min, IntKind.max, IntKind.signed, IntKind.bits] using w4⟩
  obtain ⟨xs⟩ := xs
  simp only [Value.cells] at hl e0 e1 e2 e3 e4
  obtain ⟨a0, a1, a2, a3, a4, rfl⟩ : ∃ a0 a1 a2 a3 a4, xs = [a0, a1, a2, a3, a4] := by
    have hl2 : xs.length = 5 := hl
    clear hl e0 e1 e2 e3 e4
    match xs, hl2 with
    | [a0, a1, a2, a3, a4], _ => exact ⟨a0, a1, a2, a3, a4, rfl⟩
  simp at e0 e1 e2 e3 e4
  subst e0 e1 e2 e3 e4
  rfl
end
end Go.Proofs.YtooiiefipdjbjaaDoor
