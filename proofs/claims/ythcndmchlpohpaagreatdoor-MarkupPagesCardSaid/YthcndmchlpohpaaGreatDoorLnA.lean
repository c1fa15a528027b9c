/- Variables that hold a line. No condition. -/
import Derived.Test.YthcndmchlpohpaaGreatDoorCopy6
namespace Go.Proofs.YthcndmchlpohpaaGreatDoor
set_option linter.unusedVariables false
set_option linter.unusedSimpArgs false
open Go.RowKit

/-- A variable that holds a line. -/
def LnAt (W : World) (b : Nat) (v : Value) (soft : Bool) : Prop := W.heap[b]? = some (.cells #[v, .bool soft] 27 (0, 0))
namespace LnAt
variable {W W' : World} {b : Nat} {v : Value} {soft : Bool}
theorem sees (h : LnAt W b v soft) (hs : Sees W W') : LnAt W' b v soft := by
  unfold LnAt; rw [hs.block _ (Array.getElem?_eq_some_iff.1 h).1]; exact h
theorem keeps {F : Nat → Prop} (h : LnAt W b v soft) (hk : Keeps F W W') (hF : ¬ F b) : LnAt W' b v soft := by
  unfold LnAt; rw [hk.block _ (Array.getElem?_eq_some_iff.1 h).1 hF]; exact h
theorem new {n : Nat} (hn : n = W.heap.size) : LnAt (W.alloc (.cells #[v, .bool soft] 27)) n v soft := by subst hn; exact heap_alloc_new W _
theorem alloc (h : LnAt W b v soft) (o : Obj) : LnAt (W.alloc o) b v soft := h.sees ((Sees.refl W).alloc o)
theorem lt (h : LnAt W b v soft) : b < W.heap.size := (Array.getElem?_eq_some_iff.1 h).1
theorem c (h : LnAt W b v soft) : W.cell? ⟨b, 0, none⟩ = some v ∧ W.cell? ⟨b, 1, none⟩ = some (.bool soft) := cell_row2 h
end LnAt

end Go.Proofs.YthcndmchlpohpaaGreatDoor
