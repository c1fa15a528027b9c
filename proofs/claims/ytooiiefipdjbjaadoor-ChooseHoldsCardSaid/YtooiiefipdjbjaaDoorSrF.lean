/- search.folded: small letters in place of capital ones. No condition. -/
import Derived.Test.YtooiiefipdjbjaaDoorGaS
import Derived.BigCall
namespace Go.Proofs.YtooiiefipdjbjaaDoor
set_option linter.unusedVariables false
set_option linter.unusedSimpArgs false
open Go.RowKit

/-- A byte of a string. -/
def bAt (s : ByteArray) (k : Nat) : Int := ((s.data.toList.getD k 0).toNat : Int)
theorem bAt_at (s : ByteArray) (k : Nat) (h : k < s.size) (W : World) : (Instr.index 9 (.string s) (.int .i64 (k : Int))).run Tryd.prog W = .ok (.int .u8 (bAt s k)) W := by
  rw [run_index_string (h := Tryd.underlying9), dif_pos ⟨by omega, by omega⟩]
  unfold bAt
  simp only [Int.toNat_natCast]
  rw [List.getD_eq_getElem?_getD, List.getElem?_eq_getElem (by rw [← Lib.size_eq]; exact h)]
  rfl
theorem all_take (p : UInt8 → Bool) (l : List UInt8) (k : Nat) (h : k < l.length) (ht : (l.take k).all p = true) : (l.take (k + 1)).all p = p (l.getD k 0) := by
  rw [List.take_add_one, List.all_append, ht, List.getD_eq_getElem?_getD, List.getElem?_eq_getElem h]
  simp
theorem all_take_false (p : UInt8 → Bool) (l : List UInt8) (k : Nat) (h : k < l.length) (ht : p (l.getD k 0) = false) : l.all p = false := by
  rw [List.all_eq_false]
  refine ⟨l[k], List.getElem_mem h, ?_⟩
  rw [List.getD_eq_getElem?_getD, List.getElem?_eq_getElem h] at ht
  simpa using ht
theorem bAt_range (s : ByteArray) (k : Nat) : 0 ≤ bAt s k ∧ bAt s k ≤ 255 := by
  have := (s.data.toList.getD k 0).toNat_lt
  unfold bAt
  omega
/-- A byte of a string whose first i bytes were folded. -/
def fbt (s : ByteArray) (i j : Nat) : Int := if j < i then ((low true (s.data.toList.getD j 0)).toNat : Int) else ((s.data.toList.getD j 0).toNat : Int)
/-- The row of bytes. -/
def FoldR (W : World) (g : Nat) (s : ByteArray) (i : Nat) : Prop := ∃ cur : Array Value, W.heap[g]? = some (.cells cur 5 (cur.size, cur.size + 1)) ∧ s.size ≤ cur.size ∧ ∀ j, j < s.size → cur[j]? = some (.int .u8 (fbt s i j))
namespace FoldR
variable {W : World} {g : Nat} {s : ByteArray} {i : Nat}
theorem cell (h : FoldR W g s i) {j : Nat} (hj : j < s.size) : W.cell? ⟨g, j, none⟩ = some (.int .u8 (fbt s i j)) := by
  obtain ⟨cur, h1, h2, h3⟩ := h
  rw [cell_of_row _ _ _ _ _ _ h1, h3 j hj]
theorem fr (h : FoldR W g s i) {j : Nat} (hj : j < s.size) : W.frozen? ⟨g, j, none⟩ = false := by
  obtain ⟨cur, h1, h2, h3⟩ := h
  simp only [World.frozen?, h1, Bool.and_eq_false_iff, decide_eq_false_iff_not]
  left; omega
theorem put (h : FoldR W g s i) (hi : i < s.size) {v : Int} (hv : v = ((low true (s.data.toList.getD i 0)).toNat : Int)) : FoldR (W.setCell ⟨g, i, none⟩ (.int .u8 v)) g s (i + 1) := by
  obtain ⟨cur, h1, h2, h3⟩ := h
  refine ⟨cur.setIfInBounds i (.int .u8 v), by rw [Array.size_setIfInBounds]; simp only [World.setCell, Array.getElem?_modify, if_true, h1, Option.map_some]; rfl, by rw [Array.size_setIfInBounds]; exact h2, fun j hj => ?_⟩
  rw [Array.getElem?_setIfInBounds]
  split
  · rename_i e
    subst e
    rw [if_pos (by omega), hv]
    unfold fbt
    rw [if_pos (by omega)]
  · rename_i e
    rw [h3 j hj]
    unfold fbt
    by_cases hlt : j < i
    · rw [if_pos hlt, if_pos (by omega)]
    · rw [if_neg hlt, if_neg (by omega)]
theorem stay (h : FoldR W g s i) (hi : i < s.size) (he : low true (s.data.toList.getD i 0) = s.data.toList.getD i 0) : FoldR W g s (i + 1) := by
  obtain ⟨cur, h1, h2, h3⟩ := h
  refine ⟨cur, h1, h2, fun j hj => ?_⟩
  rw [h3 j hj]
  unfold fbt
  by_cases hlt : j < i
  · rw [if_pos hlt, if_pos (by omega)]
  · by_cases hje : j = i
    · subst hje
      rw [if_neg hlt, if_pos (by omega), he]
    · rw [if_neg hlt, if_neg (by omega)]
end FoldR
theorem low_cases (b : UInt8) : (decide ((b.toNat : Int) ≥ 65) = false → low true b = b) ∧ (decide ((b.toNat : Int) ≤ 90) = false → low true b = b) ∧
    (decide ((b.toNat : Int) ≥ 65) = true → decide ((b.toNat : Int) ≤ 90) = true → ((low true b).toNat : Int) = (b.toNat : Int) + 32 ∧ IntKind.u8.wrap ((b.toNat : Int) + 32) = (b.toNat : Int) + 32) := by
  have e65 : decide ((65 : UInt8) ≤ b) = decide ((b.toNat : Int) ≥ 65) := decide_eq_decide.2 (by rw [UInt8.le_iff_toNat_le]; show 65 ≤ b.toNat ↔ _; omega)
  have e90 : decide (b ≤ (90 : UInt8)) = decide ((b.toNat : Int) ≤ 90) := decide_eq_decide.2 (by rw [UInt8.le_iff_toNat_le]; show b.toNat ≤ 90 ↔ _; omega)
  unfold low
  rw [e65, e90]
  refine ⟨fun h => by rw [h]; simp, fun h => by rw [h]; simp, fun h1 h2 => ?_⟩
  rw [h1, h2]
  have a1 := of_decide_eq_true h1
  have a2 := of_decide_eq_true h2
  refine ⟨?_, ?_⟩
  · simp only [Bool.and_self, if_true]
    rw [UInt8.toNat_add]
    show (((b.toNat + 32) % 256 : Nat) : Int) = _
    omega
  · unfold IntKind.wrap
    simp [IntKind.bits, IntKind.signed]
    omega
end Go.Proofs.YtooiiefipdjbjaaDoor
