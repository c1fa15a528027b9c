/- The reference's tests of runes, pens and cells answer as the program's do. No condition. -/
import Derived.Test.YtonlmlmjglaoiaaDoorCell
namespace Go.Proofs.YtonlmlmjglaoiaaDoor
set_option linter.unusedVariables false
set_option linter.unusedSimpArgs false
open Go.RowKit

theorem inTab_take {n : Nat} {T : Nat → Int × Int} {r : Int} (h : ∀ k, k < n → ((T k).1 ≤ r && r ≤ (T k).2) = false) : inTab n T r = false := by
  unfold inTab; rw [List.any_eq_false]; intro k hk; rw [h k (List.mem_range.1 hk)]; simp
theorem inTab_hit {n k : Nat} {T : Nat → Int × Int} {r : Int} (hk : k < n) (h1 : (T k).1 ≤ r) (h2 : r ≤ (T k).2) : inTab n T r = true := by
  unfold inTab; rw [List.any_eq_true]; exact ⟨k, List.mem_range.2 hk, by simp [h1, h2]⟩

/-- Pairs of numbers, laid one behind the other. -/
def pairV : List (Int × Int) → List Value
  | [] => []
  | p :: r => .int .i32 p.1 :: .int .i32 p.2 :: pairV r
theorem pairV_get : ∀ (L : List (Int × Int)) (i : Nat), i < L.length → (pairV L)[i * 2]? = some (.int .i32 (L.getD i (0, 0)).1) ∧ (pairV L)[i * 2 + 1]? = some (.int .i32 (L.getD i (0, 0)).2)
  | [], _, h => by cases h
  | p :: r, 0, _ => by simp [pairV]
  | p :: r, i + 1, h => by
    have := pairV_get r i (by simpa using h)
    rw [show (i + 1) * 2 = i * 2 + 2 by omega, show i * 2 + 2 + 1 = i * 2 + 1 + 2 by omega]
    simpa [pairV] using this
theorem alloc_pairs (w : World) (L : List (Int × Int)) (t : TypeId) (i : Nat) (hi : i < L.length) :
    (w.alloc (.cells (pairV L).toArray t)).cell? ⟨w.heap.size, i * 2, none⟩ = some (.int .i32 (L.getD i (0, 0)).1) ∧ (w.alloc (.cells (pairV L).toArray t)).cell? ⟨w.heap.size, i * 2 + 1, none⟩ = some (.int .i32 (L.getD i (0, 0)).2) := by
  have h := pairV_get L i hi
  rw [cell_of_row _ _ _ _ _ _ (heap_alloc_new w _), cell_of_row _ _ _ _ _ _ (heap_alloc_new w _)]
  simpa using h

end Go.Proofs.YtonlmlmjglaoiaaDoor
