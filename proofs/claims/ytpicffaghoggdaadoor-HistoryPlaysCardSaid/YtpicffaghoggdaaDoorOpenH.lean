/- Calls of a history that came in. No condition. -/
import Derived.Test.YtpicffaghoggdaaDoorOpenE
import Derived.Test.YtpicffaghoggdaaDoorHlA
namespace Go.Proofs.YtpicffaghoggdaaDoor
set_option linter.unusedVariables false
set_option linter.unusedSimpArgs false
open Go.ChangeShapes Go.WideShapes Go.RowKit

section
variable {H : Type} {enc : TypeId × Value → H} {w : World} {base : Nat} {spare : Nat → Bool} {held : Bool}
instance : Inhabited Act31 := ⟨⟨0, 0, []⟩⟩
def Act31.fits (p : Act31) : Prop := (-9223372036854775808 ≤ p.what ∧ p.what ≤ 9223372036854775807) ∧ -9223372036854775808 ≤ p.num ∧ p.num ≤ 9223372036854775807
theorem act31_words {fuel : Nat} {cs : List Value} {x : DataW H × List MemPlace} (h : DataW.trod enc Tryd.prog w base spare held fuel 25 cs = some x) : ∃ d, act31El.rel (fun b => b < w.heap.size) w cs d ∧ d.fits := by
  have hft : flatT Tryd.prog 8 25 = some [3, 3, 22] := by kernel_rfl
  obtain ⟨hl, hg⟩ := leaves 8 _ _ hft fuel _ _ h
  obtain ⟨r, e0, w0⟩ := leaf_int (hg 0 _ rfl) Tryd.underlying3
  obtain ⟨c, e1, w1⟩ := leaf_int (hg 1 _ rfl) Tryd.underlying3
  obtain ⟨u, n, y, e2, h2⟩ := hg 2 _ rfl
  obtain ⟨xs, hxs⟩ := open_el lnEl _ Tryd.underlying22 (by kernel_rfl) (fun fuel cs x h => line_words h) h2
  have f0 : -9223372036854775808 ≤ r ∧ r ≤ 9223372036854775807 := by simpa [Lit.wf, IntKind.min, IntKind.max, IntKind.signed, IntKind.bits] using w0
  have f1 : -9223372036854775808 ≤ c ∧ c ≤ 9223372036854775807 := by simpa [Lit.wf, IntKind.min, IntKind.max, IntKind.signed, IntKind.bits] using w1
  match cs, hl with
  | [a, b, d], _ =>
    simp only [List.getElem?_cons_zero, List.getElem?_cons_succ, Option.some.injEq] at e0 e1 e2
    subst e0 e1 e2
    exact ⟨⟨r, c, xs⟩, ⟨d, rfl, hxs⟩, f0, f1⟩
set_option maxRecDepth 100000 in
theorem open_acts31 {r : Reach} {b0 : Nat} {v : Value} {d : DataW H} {ps : List MemPlace} (hv : Value.okWide Tryd.prog w r b0 26 v) (h : DataW.Trod enc Tryd.prog w base spare held 26 v d ps) :
    ∃ ls, act31El.Rd (fun b => b < w.heap.size) w v ls ∧ ∀ p ∈ ls, p.fits := by
  obtain ⟨a, len, cap, rfl⟩ := okWide_slice Tryd.underlying26 hv
  obtain ⟨fuel, h⟩ := h
  exact open_el_all act31El Act31.fits _ Tryd.underlying26 (by kernel_rfl) (fun fuel cs x h => act31_words h) h
end
end Go.Proofs.YtpicffaghoggdaaDoor
