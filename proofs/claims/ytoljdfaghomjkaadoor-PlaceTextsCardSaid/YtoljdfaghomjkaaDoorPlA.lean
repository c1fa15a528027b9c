/- Which places are valid, and which numbers of columns there may be. No condition. -/
import Derived.Test.YtoljdfaghomjkaaDoorSeq
namespace Go.Proofs.YtoljdfaghomjkaaDoor
set_option linter.unusedVariables false
set_option linter.unusedSimpArgs false
open Go.RowKit

/-- A place. -/
abbrev pl (l c : Int) : Value := .agg #[.int .i64 l, .int .i64 c]
def vP (l c : Int) : Bool := decide (0 ≤ l) && decide (l ≤ 1099511627776) && decide (0 ≤ c) && decide (c ≤ 1000)
def wideB (n : Int) : Bool := decide (1 ≤ n) && decide (n ≤ 1000)
def inB (l c n : Int) : Bool := wideB n && vP l c && decide (c < n)

theorem valid_any (l c : Int) (w : World) : Calls Tryd.prog 9 #[pl l c] w fun e w' => e = .returned (.bool (vP l c)) ∧ Sees w w' := by
  have hw := Sees.refl w
  unfold vP
  rcases Bool.eq_false_or_eq_true (decide (0 ≤ l)) with h1 | h1 <;> rcases Bool.eq_false_or_eq_true (decide (l ≤ 1099511627776)) with h2 | h2 <;>
    rcases Bool.eq_false_or_eq_true (decide (0 ≤ c)) with h3 | h3 <;> rcases Bool.eq_false_or_eq_true (decide (c ≤ 1000)) with h4 | h4 <;> rw [h1, h2, h3, h4]
  all_goals
    have g1 : decide (l ≥ 0) = decide (0 ≤ l) := rfl
    have g3 : decide (c ≥ 0) = decide (0 ≤ c) := rfl
    rw [h1] at g1
    rw [h3] at g3
    go_enter Tryd.func9, Tryd.ntmps9
    go_wp2
    go_ret
    exact ⟨rfl, hw.alloc _⟩
theorem rvalid_any (l c : Int) (w : World) : Calls Tryd.prog 10 #[pl l c] w fun e w' => e = .returned (.bool (vP l c)) ∧ Sees w w' := by
  have hw := Sees.refl w
  unfold vP
  rcases Bool.eq_false_or_eq_true (decide (0 ≤ l)) with h1 | h1 <;> rcases Bool.eq_false_or_eq_true (decide (l ≤ 1099511627776)) with h2 | h2 <;>
    rcases Bool.eq_false_or_eq_true (decide (0 ≤ c)) with h3 | h3 <;> rcases Bool.eq_false_or_eq_true (decide (c ≤ 1000)) with h4 | h4 <;> rw [h1, h2, h3, h4]
  all_goals
    have g1 : decide (l ≥ 0) = decide (0 ≤ l) := rfl
    have g3 : decide (c ≥ 0) = decide (0 ≤ c) := rfl
    rw [h1] at g1
    rw [h3] at g3
    go_enter Tryd.func10, Tryd.ntmps10
    go_wp2
    go_ret
    exact ⟨rfl, hw.alloc _⟩
theorem wide_any (n : Int) (w : World) : Calls Tryd.prog 36 #[.int .i64 n] w fun e w' => e = .returned (.bool (wideB n)) ∧ Sees w w' := by
  have hw := Sees.refl w
  unfold wideB
  rcases Bool.eq_false_or_eq_true (decide (1 ≤ n)) with h1 | h1 <;> rcases Bool.eq_false_or_eq_true (decide (n ≤ 1000)) with h2 | h2 <;> rw [h1, h2]
  all_goals
    have g1 : decide (n ≥ 1) = decide (1 ≤ n) := rfl
    rw [h1] at g1
    go_enter Tryd.func36, Tryd.ntmps36
    go_wp2
    go_ret
    exact ⟨rfl, hw⟩
theorem cols_any (n : Int) (w : World) : Calls Tryd.prog 32 #[.int .i64 n] w fun e w' => e = .returned (.bool (wideB n)) ∧ Sees w w' := by
  have hw := Sees.refl w
  unfold wideB
  rcases Bool.eq_false_or_eq_true (decide (1 ≤ n)) with h1 | h1 <;> rcases Bool.eq_false_or_eq_true (decide (n ≤ 1000)) with h2 | h2 <;> rw [h1, h2]
  all_goals
    have g1 : decide (n ≥ 1) = decide (1 ≤ n) := rfl
    rw [h1] at g1
    go_enter Tryd.func32, Tryd.ntmps32
    go_wp2
    go_ret
    exact ⟨rfl, hw⟩
theorem in_any (l c n : Int) (w : World) : Calls Tryd.prog 33 #[pl l c, .int .i64 n] w fun e w' => e = .returned (.bool (inB l c n)) ∧ Sees w w' := by
  have hw := Sees.refl w
  unfold inB
  rcases Bool.eq_false_or_eq_true (wideB n) with h1 | h1 <;> rcases Bool.eq_false_or_eq_true (vP l c) with h2 | h2 <;> rcases Bool.eq_false_or_eq_true (decide (c < n)) with h3 | h3
  all_goals
    rw [h1, h2, h3]
    go_enter Tryd.func33, Tryd.ntmps33
    go_wp2_with fail
    refine (wide_any n _).mono ?_
    rintro e w1 ⟨rfl, hs1⟩
    rw [h1]
    have hS := (hw.alloc _).trans hs1
    have c0 : w1.cell? ⟨w.heap.size, 0, none⟩ = some (.int .i64 l) := by rw [hs1.cells _ _ (by simp)]; simp
    have c1 : w1.cell? ⟨w.heap.size, 1, none⟩ = some (.int .i64 c) := by rw [hs1.cells _ _ (by simp)]; simp
    clear hs1
    first
    | (go_wp2; go_ret; exact ⟨rfl, hS⟩)
    | (go_wp2_with fail
       refine (valid_any l c _).mono ?_
       rintro e w2 ⟨rfl, hs2⟩
       rw [h2]
       have d0 := hs2.cell c0
       have d1 := hs2.cell c1
       have hS2 := hS.trans hs2
       clear hs2 c0 c1
       go_wp2
       go_ret
       exact ⟨rfl, hS2⟩)
theorem rin_any (l c n : Int) (w : World) : Calls Tryd.prog 19 #[pl l c, .int .i64 n] w fun e w' => e = .returned (.bool (inB l c n)) ∧ Sees w w' := by
  have hw := Sees.refl w
  unfold inB
  rcases Bool.eq_false_or_eq_true (wideB n) with h1 | h1 <;> rcases Bool.eq_false_or_eq_true (vP l c) with h2 | h2 <;> rcases Bool.eq_false_or_eq_true (decide (c < n)) with h3 | h3
  all_goals
    rw [h1, h2, h3]
    go_enter Tryd.func19, Tryd.ntmps19
    go_wp2_with fail
    refine (cols_any n _).mono ?_
    rintro e w1 ⟨rfl, hs1⟩
    rw [h1]
    have hS := (hw.alloc _).trans hs1
    have c0 : w1.cell? ⟨w.heap.size, 0, none⟩ = some (.int .i64 l) := by rw [hs1.cells _ _ (by simp)]; simp
    have c1 : w1.cell? ⟨w.heap.size, 1, none⟩ = some (.int .i64 c) := by rw [hs1.cells _ _ (by simp)]; simp
    clear hs1
    first
    | (go_wp2; go_ret; exact ⟨rfl, hS⟩)
    | (go_wp2_with fail
       refine (rvalid_any l c _).mono ?_
       rintro e w2 ⟨rfl, hs2⟩
       rw [h2]
       have d0 := hs2.cell c0
       have d1 := hs2.cell c1
       have hS2 := hS.trans hs2
       clear hs2 c0 c1
       go_wp2
       go_ret
       exact ⟨rfl, hS2⟩)
end Go.Proofs.YtoljdfaghomjkaaDoor
