/- The reference's copy of a line. No condition. -/
import Derived.Test.YthcndmchlpohpaaGreatDoorRg2
namespace Go.Proofs.YthcndmchlpohpaaGreatDoor
set_option linter.unusedVariables false
set_option linter.unusedSimpArgs false
open Go.RowKit

theorem cell_row2 {w : World} {g : Nat} {x y : Value} {t : TypeId} {fr : Nat × Nat} (h : w.heap[g]? = some (.cells #[x, y] t fr)) : w.cell? ⟨g, 0, none⟩ = some x ∧ w.cell? ⟨g, 1, none⟩ = some y := by
  rw [cell_of_row _ _ _ _ _ _ h, cell_of_row _ _ _ _ _ _ h]; exact ⟨rfl, rfl⟩
theorem set_row2 {w : World} {g : Nat} {x y u v : Value} {t : TypeId} (h : w.heap[g]? = some (.cells #[x, y] t (0, 0))) : ((w.setCell ⟨g, 0, none⟩ u).setCell ⟨g, 1, none⟩ v).heap[g]? = some (.cells #[u, v] t (0, 0)) := by
  rw [heap_setCell_same _ _ _ _ _ _ (heap_setCell_same _ _ _ _ _ _ h)]; rfl
theorem size_setCell (w : World) (p : Addr) (v : Value) : (w.setCell p v).heap.size = w.heap.size := by simp [World.setCell]

/-- What the region of 'Copy' leans on: the box; the result's place. -/
def CopyInv (w0 : World) (B : Nat) (sl : Value) (soft : Bool) (W : World) : Prop :=
  W.heap[B]? = some (.cells #[sl, .bool soft] 27 (0, 0)) ∧ (∃ x y, W.heap[B + 1]? = some (.cells #[x, y] 27 (0, 0))) ∧ Keeps (fun b => b = B + 1) w0 W
theorem CopyInv.sees {w0 W W' : World} {B : Nat} {sl : Value} {soft : Bool} (h : CopyInv w0 B sl soft W) (hs : Sees W W') : CopyInv w0 B sl soft W' := by
  obtain ⟨h1, ⟨x, y, h2⟩, h3⟩ := h
  exact ⟨by rw [hs.block _ (Array.getElem?_eq_some_iff.1 h1).1]; exact h1, ⟨x, y, by rw [hs.block _ (Array.getElem?_eq_some_iff.1 h2).1]; exact h2⟩, h3.trans (Keeps.of_sees hs)⟩

theorem RdCells.keeps' {w W : World} {B : Nat} {v : Value} {cs : List Cell} (h : RdCells w v cs) (hk : Keeps (fun b => b = B) w W) (hB : ∀ a n c, v = .slice (some a) n c → cs ≠ [] → a.block ≠ B) : RdCells W v cs := by
  obtain ⟨ao, cap, h1, h2⟩ := h
  refine ⟨ao, cap, h1, fun hne => ?_⟩
  obtain ⟨b, o, h3, h4⟩ := h2 hne
  exact ⟨b, o, h3, fun i c hc j x hx => hk.cell (fun e => hB ⟨b, o, none⟩ _ _ (by rw [h1, h3]) hne e) (h4 i c hc j x hx)⟩

end Go.Proofs.YthcndmchlpohpaaGreatDoor
