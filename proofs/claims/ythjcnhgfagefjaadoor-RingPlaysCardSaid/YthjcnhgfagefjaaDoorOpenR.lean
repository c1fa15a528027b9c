/- Calls of a ring that came in. No condition. -/
import Derived.Test.YthjcnhgfagefjaaDoorOpenE
import Derived.Test.YthjcnhgfagefjaaDoorRpI
namespace Go.Proofs.YthjcnhgfagefjaaDoor
set_option linter.unusedVariables false
set_option linter.unusedSimpArgs false
open Go.ChangeShapes Go.WideShapes Go.RowKit

section
variable {H : Type} {enc : TypeId × Value → H} {w : World} {base : Nat} {spare : Nat → Bool} {held : Bool}
instance : Inhabited Act8 := ⟨⟨0, 0, 0, [], false⟩⟩
def Act8.fits (p : Act8) : Prop := (-9223372036854775808 ≤ p.what ∧ p.what ≤ 9223372036854775807) ∧ -9223372036854775808 ≤ p.num ∧ p.num ≤ 9223372036854775807
theorem act8_words {fuel : Nat} {cs : List Value} {x : DataW H × List MemPlace} (h : DataW.trod enc Tryd.prog w base spare held fuel 38 cs = some x) : ∃ d, act8El.rel (fun b => b < w.heap.size) w cs d ∧ d.fits := by
  have hft : flatT Tryd.prog 8 38 = some [3, 3, 3, 34, 4] := by kernel_rfl
  obtain ⟨hl, hg⟩ := leaves 8 _ _ hft fuel _ _ h
  obtain ⟨r, e0, w0⟩ := leaf_int (hg 0 _ rfl) Tryd.underlying3
  obtain ⟨c, e1, w1⟩ := leaf_int (hg 1 _ rfl) Tryd.underlying3
  obtain ⟨c3, e4, w4⟩ := leaf_int (hg 2 _ rfl) Tryd.underlying3
  obtain ⟨u, n, y, e2, h2⟩ := hg 3 _ rfl
  obtain ⟨soft, e3⟩ := leaf_bool (hg 4 _ rfl) Tryd.underlying4
  obtain ⟨xs, hxs⟩ := open_cellsE h2
  have f0 : -9223372036854775808 ≤ r ∧ r ≤ 9223372036854775807 := by simpa [Lit.wf, IntKind.min, IntKind.max, IntKind.signed, IntKind.bits] using w0
  have f1 : -9223372036854775808 ≤ c ∧ c ≤ 9223372036854775807 := by simpa [Lit.wf, IntKind.min, IntKind.max, IntKind.signed, IntKind.bits] using w1
  match cs, hl with
  | [a, b, b2, d, e], _ =>
    simp only [List.getElem?_cons_zero, List.getElem?_cons_succ, Option.some.injEq] at e0 e1 e2 e3 e4
    subst e0 e1 e2 e3 e4
    exact ⟨⟨r, c, c3, xs, soft⟩, ⟨d, rfl, hxs⟩, f0, f1⟩
set_option maxRecDepth 100000 in
theorem open_acts8 {r : Reach} {b0 : Nat} {v : Value} {d : DataW H} {ps : List MemPlace} (hv : Value.okWide Tryd.prog w r b0 22 v) (h : DataW.Trod enc Tryd.prog w base spare held 22 v d ps) :
    ∃ ls, act8El.Rd (fun b => b < w.heap.size) w v ls ∧ ∀ p ∈ ls, p.fits := by
  obtain ⟨a, len, cap, rfl⟩ := okWide_slice Tryd.underlying22 hv
  obtain ⟨fuel, h⟩ := h
  exact open_el_all act8El Act8.fits _ Tryd.underlying22 (by kernel_rfl) (fun fuel cs x h => act8_words h) h
end
end Go.Proofs.YthjcnhgfagefjaaDoor
