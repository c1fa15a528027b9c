/- Patches as data in memory. No condition. -/
import Derived.Test.YtonlmlmjglaoiaaDoorElT
import Derived.Test.YtonlmlmjglaoiaaDoorDlM
namespace Go.Proofs.YtonlmlmjglaoiaaDoor
set_option linter.unusedVariables false
set_option linter.unusedSimpArgs false
open Go.RowKit

def ptEl : El Pt := sliceAnd cellEl 37 4 (·.cells) (fun p => [.int .i64 p.row, .int .i64 p.col]) (fun p => [.bool p.soft]) (by decide) (fun _ => rfl) (by intro x v hv; simp at hv; rcases hv with rfl | rfl | rfl <;> rfl)
theorem typedPt : El.Typed Tryd.prog ptEl 31 := El.typed_of (z := .agg #[.int .i64 0, .int .i64 0, .slice none 0 0, .bool false]) (bytes := 48) Tryd.underlying31 (by kernel_rfl) rfl (by decide)
section
variable {F G : Nat → Prop} {w W : World} {v : Value}
/-- A patch at a place. -/
theorem El.Rd.patch {ao : Option Addr} {n c k : Nat} {ls : List Pt} (h : ptEl.Rd F w (.slice ao n c) ls) (hk : k < n) : ∃ b o l a m, ao = some ⟨b, o, none⟩ ∧ F b ∧ ls[k]? = some l ∧ l.cells.length ≤ m ∧
    (w.cell? ⟨b, o + k * 4, none⟩ = some (.int .i64 l.row) ∧ w.cell? ⟨b, o + k * 4 + 1, none⟩ = some (.int .i64 l.col) ∧ w.cell? ⟨b, o + k * 4 + 2, none⟩ = some (.slice a l.cells.length m) ∧ w.cell? ⟨b, o + k * 4 + 3, none⟩ = some (.bool l.soft)) ∧ cellEl.Rd F w (.slice a l.cells.length m) l.cells := by
  obtain ⟨b, o, l, vs, e, hb, hl, ⟨sv, rfl, hr⟩, h6⟩ := h.at_ hk
  obtain ⟨a, m, rfl, hm⟩ := hr.slice'
  exact ⟨b, o, l, a, m, e, hb, hl, hm, ⟨h6 0 _ rfl, h6 1 _ rfl, h6 2 _ rfl, h6 3 _ rfl⟩, hr⟩
end
end Go.Proofs.YtonlmlmjglaoiaaDoor
