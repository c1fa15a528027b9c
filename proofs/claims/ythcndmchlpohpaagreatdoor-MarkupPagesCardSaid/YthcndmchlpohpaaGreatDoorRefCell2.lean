/- The reference's tests of runes, pens and cells answer as the program's do. The reference's test of a cell answers as the program's does. No condition. -/
import Derived.Test.YthcndmchlpohpaaGreatDoorCell
namespace Go.Proofs.YthcndmchlpohpaaGreatDoor
set_option linter.unusedVariables false
set_option linter.unusedSimpArgs false
open Go.RowKit

theorem inTab_take {n : Nat} {T : Nat → Int × Int} {r : Int} (h : ∀ k, k < n → ((T k).1 ≤ r && r ≤ (T k).2) = false) : inTab n T r = false := by
  unfold inTab; rw [List.any_eq_false]; intro k hk; rw [h k (List.mem_range.1 hk)]; simp
theorem inTab_hit {n k : Nat} {T : Nat → Int × Int} {r : Int} (hk : k < n) (h1 : (T k).1 ≤ r) (h2 : r ≤ (T k).2) : inTab n T r = true := by
  unfold inTab; rw [List.any_eq_true]; exact ⟨k, List.mem_range.2 hk, by simp [h1, h2]⟩

/-- Pairs of numbers, laid one behind the other. -/
def pairV : List (Int × Int) → List Value
  | [] => []
  | p :: r => .int .i32 p.1 :: .int .i32 p.2 :: pairV r
theorem pairV_get : ∀ (L : List (Int × Int)) (i : Nat), i < L.length → (pairV L)[i * 2]? = some (.int .i32 (L.getD i (0, 0)).1) ∧ (pairV L)[i * 2 + 1]? = some (.int .i32 (L.getD i (0, 0)).2)
  | [], _, h => by cases h
  | p :: r, 0, _ => by simp [pairV]
  | p :: r, i + 1, h => by
    have := pairV_get r i (by simpa using h)
    rw [show (i + 1) * 2 = i * 2 + 2 by omega, show i * 2 + 2 + 1 = i * 2 + 1 + 2 by omega]
    simpa [pairV] using this
theorem alloc_pairs (w : World) (L : List (Int × Int)) (t : TypeId) (i : Nat) (hi : i < L.length) :
    (w.alloc (.cells (pairV L).toArray t)).cell? ⟨w.heap.size, i * 2, none⟩ = some (.int .i32 (L.getD i (0, 0)).1) ∧ (w.alloc (.cells (pairV L).toArray t)).cell? ⟨w.heap.size, i * 2 + 1, none⟩ = some (.int .i32 (L.getD i (0, 0)).2) := by
  have h := pairV_get L i hi
  rw [cell_of_row _ _ _ _ _ _ (heap_alloc_new w _), cell_of_row _ _ _ _ _ _ (heap_alloc_new w _)]
  simpa using h

end Go.Proofs.YthcndmchlpohpaaGreatDoor

namespace Go.Proofs.YthcndmchlpohpaaGreatDoor
set_option linter.unusedVariables false
set_option linter.unusedSimpArgs false
open Go.RowKit

/-- How many marks a cell has from the front on; are all right? -/
def rmN (c : Cell) : Int := if c.m0 = 0 then 0 else if wOf c.m0 ≠ 0 then 0 else if c.m1 = 0 then 1 else if wOf c.m1 ≠ 0 then 1 else if c.m2 = 0 then 2 else if wOf c.m2 ≠ 0 then 2 else 3
def rmOk (c : Cell) : Bool := if c.m0 = 0 then c.m1 == 0 && c.m2 == 0 else if wOf c.m0 ≠ 0 then false else if c.m1 = 0 then c.m2 == 0 else if wOf c.m1 ≠ 0 then false else if c.m2 = 0 then true else wOf c.m2 == 0

theorem bne_t {a : Int} (h : a ≠ 0) : (a != 0) = true := by simpa using h
theorem bne_f {a : Int} (h : a = 0) : (a != 0) = false := by simpa using h
theorem beq_t {a : Int} (h : a = 0) : (a == 0) = true := by simpa using h
theorem beq_f {a : Int} (h : a ≠ 0) : (a == 0) = false := by simpa using h

theorem rm_ok (c : Cell) : rmOk c = mkOk c.m0 c.m1 c.m2 := by
  by_cases a0 : c.m0 = 0 <;> by_cases a1 : c.m1 = 0 <;> by_cases a2 : c.m2 = 0 <;> by_cases w0 : wOf c.m0 = 0 <;> by_cases w1 : wOf c.m1 = 0 <;> by_cases w2 : wOf c.m2 = 0 <;>
    simp_all [rmOk, mkOk, mkBad, bne, beq_f]
theorem rm_zero (c : Cell) : (rmOk c && rmN c == 0) = eq3 c.m0 c.m1 c.m2 0 0 0 := by
  by_cases a0 : c.m0 = 0 <;> by_cases a1 : c.m1 = 0 <;> by_cases a2 : c.m2 = 0 <;> by_cases w0 : wOf c.m0 = 0 <;> by_cases w1 : wOf c.m1 = 0 <;> by_cases w2 : wOf c.m2 = 0 <;>
    simp_all [rmOk, rmN, eq3, beq_f]
theorem wOf_zero : wOf 0 = -1 := by decide
theorem wOf_range (r : Int) : wOf r = -1 ∨ wOf r = 0 ∨ wOf r = 1 ∨ wOf r = 2 := by
  unfold wOf; split <;> (try split) <;> (try split) <;> simp

/-- What the reference answers. -/
theorem valid_ref (c : Cell) : c.valid = (vPen c.f0 c.f1 c.f2 c.f3 c.f4 c.b0 c.b1 c.b2 c.b3 c.b4 && (rmOk c &&
    (if c.width = 0 then c.rune == 0 && rmN c == 0 else if c.width = 1 then (c.rune == 0 && rmN c == 0) || (c.rune != 0 && wOf c.rune == 1) else if c.width = 2 then wOf c.rune == 2 else false))) := by
  unfold Cell.valid
  have h1 := rm_ok c
  have h2 := rm_zero c
  have h3 := wOf_range c.rune
  congr 1
  by_cases hr : c.rune = 0
  · rw [if_pos hr, ← h2, hr, wOf_zero]
    by_cases e0 : c.width = 0
    · simp [e0]
    by_cases e1 : c.width = 1
    · simp [e1]
    by_cases e2 : c.width = 2
    · simp [e2]
    · simp [e0, e1, e2]
  · rw [if_neg hr, ← h1]
    congr 1
    by_cases e0 : c.width = 0
    · simp [e0, hr]
    by_cases e1 : c.width = 1
    · simp [e1, hr]; rw [Bool.eq_iff_iff]; simp; omega
    by_cases e2 : c.width = 2
    · simp [e2]; rw [Bool.eq_iff_iff]; simp; omega
    · simp [e0, e1, e2]; omega

end Go.Proofs.YthcndmchlpohpaaGreatDoor
