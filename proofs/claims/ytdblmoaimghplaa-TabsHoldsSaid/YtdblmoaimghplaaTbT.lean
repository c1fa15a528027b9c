/- The methods of tab stops (20) that use no library: check, fill, New, Set, Clear, Reset, Default, walk, Next, Prev, Cols. No condition. -/
import Derived.Test.YtdblmoaimghplaaTbW
namespace Go.Proofs.Ytdblmoaimghplaa
set_option linter.unusedVariables false
set_option linter.unusedSimpArgs false
open Go.RowKit Go.Maps

section
variable {w : World} {p mb : Nat} {L : List Bool}
abbrev ptr (p : Nat) : Value := .pointer (some ⟨p, 0, none⟩)
abbrev i64 (k : Int) : Value := .int .i64 k
set_option maxHeartbeats 1000000 in
theorem check_ok {c : Int} {g : Int → Bool} (h : GpAt w p mb c g) (hc : 1 ≤ c ∧ c ≤ 1000) (col : Int) (hl : 0 ≤ col ∧ col < c) : Calls Try.prog 30 #[ptr p, i64 col] w fun e w' => e = .returned (i64 0) ∧ w' = w := by
  obtain ⟨q0, q1⟩ := h.cs
  have e0 : (c == 0) = false := beq_eq_false_iff_ne.2 (by omega)
  have d1 : decide (col < 0) = false := decide_eq_false (by omega)
  have d2 : decide (col ≥ c) = false := decide_eq_false (by omega)
  have d3 : decide (c ≤ col) = false := decide_eq_false (by omega)
  go_enter Try.func30, Try.ntmps30
  go_wp2
  go_ret
  exact ⟨rfl, rfl⟩
set_option maxHeartbeats 1000000 in
theorem check_out {c : Int} {g : Int → Bool} (h : GpAt w p mb c g) (hc : 1 ≤ c ∧ c ≤ 1000) (col : Int) (hl : ¬ (0 ≤ col ∧ col < c)) : Calls Try.prog 30 #[ptr p, i64 col] w fun e w' => e = .returned (i64 3) ∧ w' = w := by
  obtain ⟨q0, q1⟩ := h.cs
  have e0 : (c == 0) = false := beq_eq_false_iff_ne.2 (by omega)
  by_cases h1 : col < 0
  · have d1 : decide (col < 0) = true := decide_eq_true h1
    go_enter Try.func30, Try.ntmps30
    go_wp2
    go_ret
    exact ⟨rfl, rfl⟩
  · have d1 : decide (col < 0) = false := decide_eq_false h1
    have d2 : decide (col ≥ c) = true := decide_eq_true (by omega)
    have d3 : decide (c ≤ col) = true := decide_eq_true (by omega)
    go_enter Try.func30, Try.ntmps30
    go_wp2
    go_ret
    exact ⟨rfl, rfl⟩
theorem check_nil (w : World) (col : Int) : Calls Try.prog 30 #[.pointer none, i64 col] w fun e w' => e = .returned (i64 1) ∧ w' = w := by
  go_enter Try.func30, Try.ntmps30
  go_wp2
  go_ret
  exact ⟨rfl, rfl⟩
theorem check_zero (w : World) (p : Nat) (h : w.cell? ⟨p, 0, none⟩ = some (i64 0)) (col : Int) : Calls Try.prog 30 #[ptr p, i64 col] w fun e w' => e = .returned (i64 1) ∧ w' = w := by
  go_enter Try.func30, Try.ntmps30
  go_wp2
  go_ret
  exact ⟨rfl, rfl⟩
set_option maxHeartbeats 2000000 in
/-- The default stops from a column on. -/
theorem fill_at {c : Int} {g : Int → Bool} (h : GpAt w p mb c g) (hc : 1 ≤ c ∧ c ≤ 1000) (fr : Int) : Calls Try.prog 26 #[ptr p, i64 fr] w fun e w' => e = .returned (.tuple #[]) ∧ GpAt w' p mb c (fun k => g k || (decide (0 < k) && decide (k < c) && decide (k % 8 = 0) && decide (fr ≤ k))) ∧ Keeps (fun b => b = mb) w w' := by
  go_enter Try.func26, Try.ntmps26
  go_wp2
  go_loopw [4] (fun x W => ∃ j : Nat, x = .int .i64 (8 * (j : Int) + 8) ∧ 8 * j ≤ 1000 ∧ RowKit.Hid (GpAt W p mb c (fun k => g k || (decide (0 < k) && decide (k < 8 * (j : Int) + 8) && decide (k < c) && decide (k % 8 = 0) && decide (fr ≤ k)))) ∧ RowKit.Hid (Keeps (fun b => b = mb) w W)) (fun x _ => 2000 - (vInt x).toNat)
  case atStart =>
    refine ⟨0, rfl, by omega, Lib.hid (h.congr fun k => ?_), Lib.hid (Keeps.refl _ _)⟩
    by_cases hk : 0 < k ∧ k < 8 * ((0 : Nat) : Int) + 8
    · rw [decide_eq_false (show ¬ k % 8 = 0 by omega)]
      simp
    · by_cases h0 : 0 < k
      · rw [decide_eq_false (show ¬ k < 8 * ((0 : Nat) : Int) + 8 by omega)]
        simp
      · rw [decide_eq_false h0]
        simp
  case round =>
    obtain ⟨j, rfl, hj, hG, hK⟩ := hrel
    clear h
    obtain ⟨q0, q1⟩ := hG.out.cs
    by_cases hlt : 8 * (j : Int) + 8 < c
    · have d1 : decide (8 * (j : Int) + 8 < c) = true := decide_eq_true hlt
      by_cases hf : fr ≤ 8 * (j : Int) + 8
      · have d2 : decide (8 * (j : Int) + 8 ≥ fr) = true := decide_eq_true hf
        have d3 : decide (fr ≤ 8 * (j : Int) + 8) = true := decide_eq_true hf
        obtain ⟨W2, hrun, hG2, hK2⟩ := hG.out.put (k := 8 * (j : Int) + 8) (g' := fun k => g k || (decide (0 < k) && decide (k < 8 * ((j + 1 : Nat) : Int) + 8) && decide (k < c) && decide (k % 8 = 0) && decide (fr ≤ k))) (by omega) (fun k => by
          by_cases hk : k = 8 * (j : Int) + 8
          · rw [if_pos hk, decide_eq_true (show 0 < k by omega), decide_eq_true (show k < 8 * ((j + 1 : Nat) : Int) + 8 by omega), decide_eq_true (show k < c by omega), decide_eq_true (show k % 8 = 0 by omega), decide_eq_true (show fr ≤ k by omega)]
            simp
          · rw [if_neg hk]
            by_cases h8 : k % 8 = 0
            · rw [decide_eq_decide.2 (show k < 8 * ((j + 1 : Nat) : Int) + 8 ↔ k < 8 * (j : Int) + 8 by omega)]
            · rw [decide_eq_false h8]
              simp)
        replace hG2 := Lib.hid hG2
        have hK3 := Lib.hid (hK.out.trans hK2)
        clear hK2
        go_wp2
        go_roundw
        case rel => exact ⟨j + 1, by go_num, by omega, hG2, hK3⟩
        case measure => simp [vInt]; omega
      · have d2 : decide (8 * (j : Int) + 8 ≥ fr) = false := decide_eq_false (by omega)
        have d3 : decide (fr ≤ 8 * (j : Int) + 8) = false := decide_eq_false hf
        have hG2 := Lib.hid (hG.out.congr (g' := fun k => g k || (decide (0 < k) && decide (k < 8 * ((j + 1 : Nat) : Int) + 8) && decide (k < c) && decide (k % 8 = 0) && decide (fr ≤ k))) (fun k => by
          by_cases hfk : fr ≤ k
          · by_cases h8 : k % 8 = 0
            · rw [decide_eq_false (show ¬ k < 8 * ((j + 1 : Nat) : Int) + 8 by omega), decide_eq_false (show ¬ k < 8 * (j : Int) + 8 by omega)]
            · rw [decide_eq_false h8]
              simp
          · rw [decide_eq_false hfk]
            simp))
        go_wp2
        go_roundw
        case rel => exact ⟨j + 1, by go_num, by omega, hG2, hK⟩
        case measure => simp [vInt]; omega
    · have d1 : decide (8 * (j : Int) + 8 < c) = false := decide_eq_false hlt
      have hG2 := Lib.hid (hG.out.congr (g' := fun k => g k || (decide (0 < k) && decide (k < c) && decide (k % 8 = 0) && decide (fr ≤ k))) (fun k => by
        by_cases hk : k < c
        · rw [decide_eq_true (show k < 8 * (j : Int) + 8 by omega)]
          simp
        · rw [decide_eq_false hk]
          simp))
      go_wp2
      go_end0
      exact ⟨rfl, hG2.out, hK.out⟩
end
end Go.Proofs.Ytdblmoaimghplaa
