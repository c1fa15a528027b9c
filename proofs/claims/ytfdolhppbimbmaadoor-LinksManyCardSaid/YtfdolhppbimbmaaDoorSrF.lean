/- search.folded: small letters in place of capital ones. No condition. -/
import Derived.Test.YtfdolhppbimbmaaDoorGaS
import Derived.BigCall
namespace Go.Proofs.YtfdolhppbimbmaaDoor
set_option linter.unusedVariables false
set_option linter.unusedSimpArgs false
open Go.RowKit

/-- A byte of a string. -/
def bAt (s : ByteArray) (k : Nat) : Int := ((s.data.toList.getD k 0).toNat : Int)
theorem bAt_at (s : ByteArray) (k : Nat) (h : k < s.size) (W : World) : (Instr.index 9 (.string s) (.int .i64 (k : Int))).run Tryd.prog W = .ok (.int .u8 (bAt s k)) W := by
  rw [run_index_string (h := Tryd.underlying9), dif_pos ⟨by omega, by omega⟩]
  unfold bAt
  simp only [Int.toNat_natCast]
  rw [List.getD_eq_getElem?_getD, List.getElem?_eq_getElem (by rw [← Lib.size_eq]; exact h)]
  rfl
theorem all_take (p : UInt8 → Bool) (l : List UInt8) (k : Nat) (h : k < l.length) (ht : (l.take k).all p = true) : (l.take (k + 1)).all p = p (l.getD k 0) := by
  rw [List.take_add_one, List.all_append, ht, List.getD_eq_getElem?_getD, List.getElem?_eq_getElem h]
  simp
theorem all_take_false (p : UInt8 → Bool) (l : List UInt8) (k : Nat) (h : k < l.length) (ht : p (l.getD k 0) = false) : l.all p = false := by
  rw [List.all_eq_false]
  refine ⟨l[k], List.getElem_mem h, ?_⟩
  rw [List.getD_eq_getElem?_getD, List.getElem?_eq_getElem h] at ht
  simpa using ht
theorem bAt_range (s : ByteArray) (k : Nat) : 0 ≤ bAt s k ∧ bAt s k ≤ 255 := by
  have := (s.data.toList.getD k 0).toNat_lt
  unfold bAt
  omega
/-- A byte of a string whose first i bytes were folded. -/
def fbt (s : ByteArray) (i j : Nat) : Int := if j < i then ((low true (s.data.toList.getD j 0)).toNat : Int) else ((s.data.toList.getD j 0).toNat : Int)
/-- The row of bytes. -/
def FoldR (W : World) (g : Nat) (s : ByteArray) (i : Nat) : Prop := ∃ cur : Array Value, W.heap[g]? = some (.cells cur 5 (cur.size, cur.size + 1)) ∧ s.size ≤ cur.size ∧ ∀ j, j < s.size → cur[j]? = some (.int .u8 (fbt s i j))
namespace FoldR
variable {W : World} {g : Nat} {s : ByteArray} {i : Nat}
theorem cell (h : FoldR W g s i) {j : Nat} (hj : j < s.size) : W.cell? ⟨g, j, none⟩ = some (.int .u8 (fbt s i j)) := by
  obtain ⟨cur, h1, h2, h3⟩ := h
  rw [cell_of_row _ _ _ _ _ _ h1, h3 j hj]
theorem fr (h : FoldR W g s i) {j : Nat} (hj : j < s.size) : W.frozen? ⟨g, j, none⟩ = false := by
  obtain ⟨cur, h1, h2, h3⟩ := h
  simp only [World.frozen?, h1, Bool.and_eq_false_iff, decide_eq_false_iff_not]
  left; omega
theorem put (h : FoldR W g s i) (hi : i < s.size) {v : Int} (hv : v = ((low true (s.data.toList.getD i 0)).toNat : Int)) : FoldR (W.setCell ⟨g, i, none⟩ (.int .u8 v)) g s (i + 1) := by
  obtain ⟨cur, h1, h2, h3⟩ := h
  refine ⟨cur.setIfInBounds i (.int .u8 v), by rw [Array.size_setIfInBounds]; simp only [World.setCell, Array.getElem?_modify, if_true, h1, Option.map_some]; rfl, by rw [Array.size_setIfInBounds]; exact h2, fun j hj => ?_⟩
  rw [Array.getElem?_setIfInBounds]
  split
  · rename_i e
    subst e
    rw [if_pos (by omega), hv]
    unfold fbt
    rw [if_pos (by omega)]
  · rename_i e
    rw [h3 j hj]
    unfold fbt
    by_cases hlt : j < i
    · rw [if_pos hlt, if_pos (by omega)]
    · rw [if_neg hlt, if_neg (by omega)]
theorem stay (h : FoldR W g s i) (hi : i < s.size) (he : low true (s.data.toList.getD i 0) = s.data.toList.getD i 0) : FoldR W g s (i + 1) := by
  obtain ⟨cur, h1, h2, h3⟩ := h
  refine ⟨cur, h1, h2, fun j hj => ?_⟩
  rw [h3 j hj]
  unfold fbt
  by_cases hlt : j < i
  · rw [if_pos hlt, if_pos (by omega)]
  · by_cases hje : j = i
    · subst hje
      rw [if_neg hlt, if_pos (by omega), he]
    · rw [if_neg hlt, if_neg (by omega)]
end FoldR
theorem low_cases (b : UInt8) : (decide ((b.toNat : Int) ≥ 65) = false → low true b = b) ∧ (decide ((b.toNat : Int) ≤ 90) = false → low true b = b) ∧
    (decide ((b.toNat : Int) ≥ 65) = true → decide ((b.toNat : Int) ≤ 90) = true → ((low true b).toNat : Int) = (b.toNat : Int) + 32 ∧ IntKind.u8.wrap ((b.toNat : Int) + 32) = (b.toNat : Int) + 32) := by
  have e65 : decide ((65 : UInt8) ≤ b) = decide ((b.toNat : Int) ≥ 65) := decide_eq_decide.2 (by rw [UInt8.le_iff_toNat_le]; show 65 ≤ b.toNat ↔ _; omega)
  have e90 : decide (b ≤ (90 : UInt8)) = decide ((b.toNat : Int) ≤ 90) := decide_eq_decide.2 (by rw [UInt8.le_iff_toNat_le]; show b.toNat ≤ 90 ↔ _; omega)
  unfold low
  rw [e65, e90]
  refine ⟨fun h => by rw [h]; simp, fun h => by rw [h]; simp, fun h1 h2 => ?_⟩
  rw [h1, h2]
  have a1 := of_decide_eq_true h1
  have a2 := of_decide_eq_true h2
  refine ⟨?_, ?_⟩
  · simp only [Bool.and_self, if_true]
    rw [UInt8.toNat_add]
    show (((b.toNat + 32) % 256 : Nat) : Int) = _
    omega
  · unfold IntKind.wrap
    simp [IntKind.bits, IntKind.signed]
    omega
set_option maxHeartbeats 4000000 in
set_option maxRecDepth 100000 in
theorem folded_any (s : ByteArray) (hs : s.size ≤ 100000000) (w : World) :
    Calls Tryd.prog 115 #[.string s] w fun e w' => e = .returned (.string ⟨(s.data.toList.map (low true)).toArray⟩) ∧ Sees w w' := by
  go_enter Tryd.func115, Tryd.ntmps115
  go_wp2
  rw [run_bytes_of_string w 9 163 5 s Tryd.underlying9 Tryd.underlying163 Tryd.underlying5]
  simp only [Result.andThen]
  rw [Oper.upon_value]
  generalize grownCap w s.size 0 5 = cap
  have hs1 : Sees w (w.drew.alloc (.cells (bytesRow s cap) 5 ((bytesRow s cap).size, (bytesRow s cap).size + 1))) := (Sees.refl w).drew.alloc _
  have hrow : FoldR (w.drew.alloc (.cells (bytesRow s cap) 5 ((bytesRow s cap).size, (bytesRow s cap).size + 1))) w.heap.size s 0 := by
    refine ⟨_, heap_alloc_new w.drew _, ?_, fun j hj => ?_⟩
    · unfold bytesRow
      rw [Array.size_append, Array.size_map]
      exact Nat.le_add_right _ _
    · rw [bytesRow_at s cap j hj]
      unfold fbt
      rw [if_neg (by omega), List.getD_eq_getElem?_getD, List.getElem?_eq_getElem (by rw [Array.length_toList]; exact hj)]
      simp
  generalize (w.drew.alloc (.cells (bytesRow s cap) 5 ((bytesRow s cap).size, (bytesRow s cap).size + 1))) = w1 at hs1 hrow ⊢
  have HS1 := Lib.hid hs1
  have HR1 := Lib.hid hrow
  clear hs1 hrow
  go_wp2
  go_loopw [10] (fun i W => ∃ k : Nat, k ≤ s.size ∧ i = .int .i64 k ∧ FoldR W w.heap.size s k ∧ Sees w W) (fun i _ => s.size - (intOf i).toNat)
  case atStart => exact ⟨0, Nat.zero_le _, rfl, HR1.out, HS1.out⟩
  case round =>
    obtain ⟨k, hk, rfl, hR, hS⟩ := hrel
    have HR := Lib.hid hR
    have HS := Lib.hid hS
    clear hS
    by_cases hlt : k < s.size
    · have c0 := hR.cell hlt
      have f0 := hR.fr hlt
      obtain ⟨l1, l2, l3⟩ := low_cases (s.data.toList.getD k 0)
      obtain ⟨B, hB⟩ : ∃ B, B = s.data.toList.getD k 0 := ⟨_, rfl⟩
      have hv : fbt s k k = (B.toNat : Int) := by unfold fbt; rw [if_neg (by omega), hB]
      rw [hv] at c0
      rw [← hB] at l1 l2 l3
      have HB := Lib.hid hB
      have L1 := Lib.hid l1
      have L2 := Lib.hid l2
      have L3 := Lib.hid l3
      obtain ⟨x, hx⟩ : ∃ x : Int, x = (B.toNat : Int) := ⟨_, rfl⟩
      rw [← hx] at c0 L1 L2 L3
      have hx0 : 0 ≤ x ∧ x ≤ 255 := by have := B.toNat_lt; omega
      clear hR l1 l2 l3 hB hv hx
      rcases Bool.eq_false_or_eq_true (decide (x ≥ 65)) with g1 | g1
      · rcases Bool.eq_false_or_eq_true (decide (x ≤ 90)) with g2 | g2
        · obtain ⟨e1, e2⟩ := L3.out g1 g2
          have E1 := Lib.hid e1
          clear e1
          go_wp2
          go_roundw
          case rel => exact ⟨k + 1, by omega, by go_num, HR.out.put hlt (by rw [← HB.out]; exact E1.out.symm), HS.out.setCell (p := ⟨w.heap.size, k, none⟩) (Nat.le_refl _) _⟩
          case measure => simp [intOf]; omega
        · go_wp2
          go_roundw
          case rel => exact ⟨k + 1, by omega, by go_num, HR.out.stay hlt (by rw [← HB.out]; exact L2.out g2), HS.out⟩
          case measure => simp [intOf]; omega
      · go_wp2
        go_roundw
        case rel => exact ⟨k + 1, by omega, by go_num, HR.out.stay hlt (by rw [← HB.out]; exact L1.out g1), HS.out⟩
        case measure => simp [intOf]; omega
    · obtain rfl : k = s.size := by omega
      have hcv := fun cap' W (hW : FoldR W w.heap.size s s.size) => run_convert_bytes_back (P := Tryd.prog) W 163 9 5 ⟨w.heap.size, 0, none⟩ cap' (s.data.toList.map (low true)) Tryd.underlying163 Tryd.underlying5 Tryd.underlying9 (fun j hj => by
        have hj' : j < s.size := by rw [List.length_map, ← Lib.size_eq] at hj; exact hj
        have q := hW.cell hj'
        rw [show (⟨w.heap.size, 0, none⟩ : Addr).add j = ⟨w.heap.size, j, none⟩ by rw [addr_add, Nat.zero_add], q]
        unfold fbt
        rw [if_pos hj', List.getElem_map, List.getD_eq_getElem?_getD, List.getElem?_eq_getElem (by rw [← Lib.size_eq]; exact hj')]
        rfl)
      rw [List.length_map, ← Lib.size_eq] at hcv
      have HCV := Lib.hid hcv
      clear hR hcv
      go_wp2
      rw [HCV.out _ _ HR.out]
      simp only [Result.andThen]
      rw [Oper.upon_value]
      go_wp2
      go_ret
      exact ⟨rfl, HS.out⟩
end Go.Proofs.YtfdolhppbimbmaaDoor
