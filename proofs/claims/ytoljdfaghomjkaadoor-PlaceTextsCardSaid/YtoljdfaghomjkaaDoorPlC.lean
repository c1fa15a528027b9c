/- The nearest place. No condition. -/
import Derived.Test.YtoljdfaghomjkaaDoorPlT
import Derived.IntWalk
namespace Go.Proofs.YtoljdfaghomjkaaDoor
set_option linter.unusedVariables false
set_option linter.unusedSimpArgs false
open Go.RowKit

def clBad (first next cols : Int) : Bool := decide (first < 0) || (decide (next ≤ first) || (decide (next > 1099511627777) || !wideB cols))
def clL (l first next : Int) : Int := if l < first then first else if next ≤ l then next - 1 else l
def clC (l c first next cols : Int) : Int := if l < first then 0 else if next ≤ l then cols - 1 else if c < 0 then 0 else if cols ≤ c then cols - 1 else c
theorem clBad_ok {first next cols : Int} (h : clBad first next cols = false) : decide (first < 0) = false ∧ decide (next ≤ first) = false ∧ decide (next > 1099511627777) = false ∧ wideB cols = true := by
  unfold clBad at h
  simp only [Bool.or_eq_false_iff, Bool.not_eq_false'] at h
  exact h
theorem wide_ok {n : Int} (h : wideB n = true) : 1 ≤ n ∧ n ≤ 1000 := by
  unfold wideB at h
  simp at h
  exact h
set_option maxHeartbeats 1000000 in
theorem clamp_bad (l c first next cols : Int) (h : clBad first next cols = true) (w : World) :
    Calls Tryd.prog 27 #[pl l c, .int .i64 first, .int .i64 next, .int .i64 cols] w fun e w' => e = .returned (.tuple #[pl 0 0, .int .i64 2]) ∧ Sees w w' := by
  have hw := Sees.refl w
  unfold clBad at h
  cases h1 : decide (first < 0) with
  | true =>
    go_enter Tryd.func27, Tryd.ntmps27
    go_wp2
    refine bodyPost_ret_by (v := .tuple #[pl 0 0, .int .i64 2]) (by simp [results, Tryd.results27, go_sem]) rfl ⟨rfl, ?_⟩
    repeat (first | exact hw | refine Sees.setCell ?_ (by first | exact Nat.le_refl _ | exact Nat.le_succ _ | (simp; done) | (simp; omega)) _ | refine Sees.alloc ?_ _)
  | false =>
  cases h2 : decide (next ≤ first) with
  | true =>
    go_enter Tryd.func27, Tryd.ntmps27
    go_wp2
    refine bodyPost_ret_by (v := .tuple #[pl 0 0, .int .i64 2]) (by simp [results, Tryd.results27, go_sem]) rfl ⟨rfl, ?_⟩
    repeat (first | exact hw | refine Sees.setCell ?_ (by first | exact Nat.le_refl _ | exact Nat.le_succ _ | (simp; done) | (simp; omega)) _ | refine Sees.alloc ?_ _)
  | false =>
  cases h3 : decide (next > 1099511627777) with
  | true =>
    go_enter Tryd.func27, Tryd.ntmps27
    go_wp2
    refine bodyPost_ret_by (v := .tuple #[pl 0 0, .int .i64 2]) (by simp [results, Tryd.results27, go_sem]) rfl ⟨rfl, ?_⟩
    repeat (first | exact hw | refine Sees.setCell ?_ (by first | exact Nat.le_refl _ | exact Nat.le_succ _ | (simp; done) | (simp; omega)) _ | refine Sees.alloc ?_ _)
  | false =>
  have h4 : wideB cols = false := by rw [h1, h2, h3] at h; simpa using h
  clear h
  go_enter Tryd.func27, Tryd.ntmps27
  go_wp2_with fail
  refine (wide_any cols _).mono ?_
  rintro e w1 ⟨rfl, s1⟩
  rw [h4]
  have hS := ((hw.alloc _).alloc _).trans s1
  have R := ((PlAt.new w l c).sees ((Sees.refl _).alloc _)).sees s1
  have T := (PlAt.new (w.alloc (.cells #[.int .i64 l, .int .i64 c] 23)) 0 0).sees s1
  rw [show (w.alloc (.cells #[.int .i64 l, .int .i64 c] 23)).heap.size = w.heap.size + 1 by simp] at T
  clear s1
  obtain ⟨d0, d1⟩ := R.cs
  obtain ⟨e0, e1⟩ := R.fr
  obtain ⟨d2, d3⟩ := T.cs
  obtain ⟨f0, f1⟩ := T.fr
  have hlt := R.lt
  have hlt2 := T.lt
  clear R T
  go_wp2
  refine bodyPost_ret_by (v := .tuple #[pl (0) (0), .int .i64 2]) (by simp [results, Tryd.results27, go_sem, d0, d1, d2, d3]) rfl ⟨rfl, ?_⟩
  repeat (first | exact hS | refine Sees.setCell ?_ (by first | exact Nat.le_refl _ | exact Nat.le_succ _ | (simp; done) | (simp; omega)) _ | refine Sees.alloc ?_ _)
set_option maxHeartbeats 2000000 in
theorem clamp_ok (l c first next cols : Int) (h : clBad first next cols = false) (w : World) :
    Calls Tryd.prog 27 #[pl l c, .int .i64 first, .int .i64 next, .int .i64 cols] w fun e w' => e = .returned (.tuple #[pl (clL l first next) (clC l c first next cols), .int .i64 0]) ∧ Sees w w' := by
  obtain ⟨h1, h2, h3, h4⟩ := clBad_ok h
  clear h
  obtain ⟨b1, b2⟩ := wide_ok h4
  have b3 : 0 ≤ first := by simpa using h1
  have b4 : first < next := by simpa using h2
  have b5 : next ≤ 1099511627777 := by simpa using h3
  have hw := Sees.refl w
  go_enter Tryd.func27, Tryd.ntmps27
  go_wp2_with fail
  refine (wide_any cols _).mono ?_
  rintro e w1 ⟨rfl, s1⟩
  rw [h4]
  have hS := ((hw.alloc _).alloc _).trans s1
  have R := ((PlAt.new w l c).sees ((Sees.refl _).alloc _)).sees s1
  have T := (PlAt.new (w.alloc (.cells #[.int .i64 l, .int .i64 c] 23)) 0 0).sees s1
  rw [show (w.alloc (.cells #[.int .i64 l, .int .i64 c] 23)).heap.size = w.heap.size + 1 by simp] at T
  clear s1
  obtain ⟨d0, d1⟩ := R.cs
  obtain ⟨e0, e1⟩ := R.fr
  obtain ⟨d2, d3⟩ := T.cs
  obtain ⟨f0, f1⟩ := T.fr
  have hlt := R.lt
  have hlt2 := T.lt
  clear R T
  by_cases g1 : l < first
  · have t1 : decide (l < first) = true := decide_eq_true g1
    have q1 : clL l first next = first := by unfold clL; rw [if_pos g1]
    have q2 : clC l c first next cols = 0 := by unfold clC; rw [if_pos g1]
    go_wp2
    refine bodyPost_ret_by (v := .tuple #[pl (first) (0), .int .i64 0]) (by simp [results, Tryd.results27, go_sem, d0, d1, d2, d3]) rfl ⟨by rw [q1, q2], ?_⟩
    repeat (first | exact hS | refine Sees.setCell ?_ (by first | exact Nat.le_refl _ | exact Nat.le_succ _ | (simp; done) | (simp; omega)) _ | refine Sees.alloc ?_ _)
  have t1 : decide (l < first) = false := decide_eq_false g1
  by_cases g2 : next ≤ l
  · have t2 : decide (l ≥ next) = true := decide_eq_true g2
    have t2' : decide (next ≤ l) = true := decide_eq_true g2
    have q1 : clL l first next = next - 1 := by unfold clL; rw [if_neg g1, if_pos g2]
    have q2 : clC l c first next cols = cols - 1 := by unfold clC; rw [if_neg g1, if_pos g2]
    go_wp2
    refine bodyPost_ret_by (v := .tuple #[pl (next - 1) (cols - 1), .int .i64 0]) (by simp [results, Tryd.results27, go_sem, d0, d1, d2, d3]) rfl ⟨by rw [q1, q2], ?_⟩
    repeat (first | exact hS | refine Sees.setCell ?_ (by first | exact Nat.le_refl _ | exact Nat.le_succ _ | (simp; done) | (simp; omega)) _ | refine Sees.alloc ?_ _)
  have t2 : decide (l ≥ next) = false := decide_eq_false g2
  have t2' : decide (next ≤ l) = false := decide_eq_false g2
  have q1 : clL l first next = l := by unfold clL; rw [if_neg g1, if_neg g2]
  have q2 : clC l c first next cols = min (max c 0) (cols - 1) := by unfold clC; rw [if_neg g1, if_neg g2]; split <;> (try split) <;> omega
  go_wp2
  refine bodyPost_ret_by (v := .tuple #[pl l (min (max c 0) (cols - 1)), .int .i64 0]) (by simp [results, Tryd.results27, go_sem, d0, d1, d2, d3]) rfl ⟨by rw [q1, q2], ?_⟩
  repeat (first | exact hS | refine Sees.setCell ?_ (by first | exact Nat.le_refl _ | exact Nat.le_succ _ | (simp; done) | (simp; omega)) _ | refine Sees.alloc ?_ _)
set_option maxHeartbeats 1000000 in
theorem rclamp_bad (l c first next cols : Int) (h : clBad first next cols = true) (w : World) :
    Calls Tryd.prog 15 #[pl l c, .int .i64 first, .int .i64 next, .int .i64 cols] w fun e w' => e = .returned (.tuple #[pl 0 0, .int .i64 2]) ∧ Sees w w' := by
  have hw := Sees.refl w
  unfold clBad at h
  cases h1 : decide (first < 0) with
  | true =>
    go_enter Tryd.func15, Tryd.ntmps15
    go_wp2
    refine bodyPost_ret_by (v := .tuple #[pl 0 0, .int .i64 2]) (by simp [results, Tryd.results15, go_sem]) rfl ⟨rfl, ?_⟩
    repeat (first | exact hw | refine Sees.setCell ?_ (by first | exact Nat.le_refl _ | exact Nat.le_succ _ | (simp; done) | (simp; omega)) _ | refine Sees.alloc ?_ _)
  | false =>
  cases h2 : decide (next ≤ first) with
  | true =>
    go_enter Tryd.func15, Tryd.ntmps15
    go_wp2
    refine bodyPost_ret_by (v := .tuple #[pl 0 0, .int .i64 2]) (by simp [results, Tryd.results15, go_sem]) rfl ⟨rfl, ?_⟩
    repeat (first | exact hw | refine Sees.setCell ?_ (by first | exact Nat.le_refl _ | exact Nat.le_succ _ | (simp; done) | (simp; omega)) _ | refine Sees.alloc ?_ _)
  | false =>
  cases h3 : decide (next > 1099511627777) with
  | true =>
    go_enter Tryd.func15, Tryd.ntmps15
    go_wp2
    refine bodyPost_ret_by (v := .tuple #[pl 0 0, .int .i64 2]) (by simp [results, Tryd.results15, go_sem]) rfl ⟨rfl, ?_⟩
    repeat (first | exact hw | refine Sees.setCell ?_ (by first | exact Nat.le_refl _ | exact Nat.le_succ _ | (simp; done) | (simp; omega)) _ | refine Sees.alloc ?_ _)
  | false =>
  have h4 : wideB cols = false := by rw [h1, h2, h3] at h; simpa using h
  clear h
  go_enter Tryd.func15, Tryd.ntmps15
  go_wp2_with fail
  refine (cols_any cols _).mono ?_
  rintro e w1 ⟨rfl, s1⟩
  rw [h4]
  have hS := ((hw.alloc _).alloc _).trans s1
  have R := ((PlAt.new w l c).sees ((Sees.refl _).alloc _)).sees s1
  have T := (PlAt.new (w.alloc (.cells #[.int .i64 l, .int .i64 c] 23)) 0 0).sees s1
  rw [show (w.alloc (.cells #[.int .i64 l, .int .i64 c] 23)).heap.size = w.heap.size + 1 by simp] at T
  clear s1
  obtain ⟨d0, d1⟩ := R.cs
  obtain ⟨e0, e1⟩ := R.fr
  obtain ⟨d2, d3⟩ := T.cs
  obtain ⟨f0, f1⟩ := T.fr
  have hlt := R.lt
  have hlt2 := T.lt
  clear R T
  go_wp2
  refine bodyPost_ret_by (v := .tuple #[pl (0) (0), .int .i64 2]) (by simp [results, Tryd.results15, go_sem, d0, d1, d2, d3]) rfl ⟨rfl, ?_⟩
  repeat (first | exact hS | refine Sees.setCell ?_ (by first | exact Nat.le_refl _ | exact Nat.le_succ _ | (simp; done) | (simp; omega)) _ | refine Sees.alloc ?_ _)
set_option maxHeartbeats 2000000 in
theorem rclamp_ok (l c first next cols : Int) (h : clBad first next cols = false) (w : World) :
    Calls Tryd.prog 15 #[pl l c, .int .i64 first, .int .i64 next, .int .i64 cols] w fun e w' => e = .returned (.tuple #[pl (clL l first next) (clC l c first next cols), .int .i64 0]) ∧ Sees w w' := by
  obtain ⟨h1, h2, h3, h4⟩ := clBad_ok h
  clear h
  obtain ⟨b1, b2⟩ := wide_ok h4
  have b3 : 0 ≤ first := by simpa using h1
  have b4 : first < next := by simpa using h2
  have b5 : next ≤ 1099511627777 := by simpa using h3
  have hw := Sees.refl w
  go_enter Tryd.func15, Tryd.ntmps15
  go_wp2_with fail
  refine (cols_any cols _).mono ?_
  rintro e w1 ⟨rfl, s1⟩
  rw [h4]
  have hS := ((hw.alloc _).alloc _).trans s1
  have R := ((PlAt.new w l c).sees ((Sees.refl _).alloc _)).sees s1
  have T := (PlAt.new (w.alloc (.cells #[.int .i64 l, .int .i64 c] 23)) 0 0).sees s1
  rw [show (w.alloc (.cells #[.int .i64 l, .int .i64 c] 23)).heap.size = w.heap.size + 1 by simp] at T
  clear s1
  obtain ⟨d0, d1⟩ := R.cs
  obtain ⟨e0, e1⟩ := R.fr
  obtain ⟨d2, d3⟩ := T.cs
  obtain ⟨f0, f1⟩ := T.fr
  have hlt := R.lt
  have hlt2 := T.lt
  clear R T
  by_cases g1 : l < first
  · have t1 : decide (l < first) = true := decide_eq_true g1
    have q1 : clL l first next = first := by unfold clL; rw [if_pos g1]
    have q2 : clC l c first next cols = 0 := by unfold clC; rw [if_pos g1]
    go_wp2
    refine bodyPost_ret_by (v := .tuple #[pl (first) (0), .int .i64 0]) (by simp [results, Tryd.results15, go_sem, d0, d1, d2, d3]) rfl ⟨by rw [q1, q2], ?_⟩
    repeat (first | exact hS | refine Sees.setCell ?_ (by first | exact Nat.le_refl _ | exact Nat.le_succ _ | (simp; done) | (simp; omega)) _ | refine Sees.alloc ?_ _)
  have t1 : decide (l < first) = false := decide_eq_false g1
  by_cases g2 : next ≤ l
  · have t2 : decide (l ≥ next) = true := decide_eq_true g2
    have t2' : decide (next ≤ l) = true := decide_eq_true g2
    have q1 : clL l first next = next - 1 := by unfold clL; rw [if_neg g1, if_pos g2]
    have q2 : clC l c first next cols = cols - 1 := by unfold clC; rw [if_neg g1, if_pos g2]
    go_wp2
    refine bodyPost_ret_by (v := .tuple #[pl (next - 1) (cols - 1), .int .i64 0]) (by simp [results, Tryd.results15, go_sem, d0, d1, d2, d3]) rfl ⟨by rw [q1, q2], ?_⟩
    repeat (first | exact hS | refine Sees.setCell ?_ (by first | exact Nat.le_refl _ | exact Nat.le_succ _ | (simp; done) | (simp; omega)) _ | refine Sees.alloc ?_ _)
  have t2 : decide (l ≥ next) = false := decide_eq_false g2
  have t2' : decide (next ≤ l) = false := decide_eq_false g2
  have q1 : clL l first next = l := by unfold clL; rw [if_neg g1, if_neg g2]
  by_cases g3 : c < 0
  · have t3 : decide (c < 0) = true := decide_eq_true g3
    have t4 : decide ((0 : Int) ≥ cols) = false := decide_eq_false (by omega)
    have t4' : decide (cols ≤ (0 : Int)) = false := decide_eq_false (by omega)
    have q2 : clC l c first next cols = 0 := by unfold clC; rw [if_neg g1, if_neg g2, if_pos g3]
    go_wp2
    refine bodyPost_ret_by (v := .tuple #[pl (l) (0), .int .i64 0]) (by simp [results, Tryd.results15, go_sem, d0, d1, d2, d3]) rfl ⟨by rw [q1, q2], ?_⟩
    repeat (first | exact hS | refine Sees.setCell ?_ (by first | exact Nat.le_refl _ | exact Nat.le_succ _ | (simp; done) | (simp; omega)) _ | refine Sees.alloc ?_ _)
  have t3 : decide (c < 0) = false := decide_eq_false g3
  by_cases g4 : cols ≤ c
  · have t4 : decide (c ≥ cols) = true := decide_eq_true g4
    have t4' : decide (cols ≤ c) = true := decide_eq_true g4
    have q2 : clC l c first next cols = cols - 1 := by unfold clC; rw [if_neg g1, if_neg g2, if_neg g3, if_pos g4]
    go_wp2
    refine bodyPost_ret_by (v := .tuple #[pl (l) (cols - 1), .int .i64 0]) (by simp [results, Tryd.results15, go_sem, d0, d1, d2, d3]) rfl ⟨by rw [q1, q2], ?_⟩
    repeat (first | exact hS | refine Sees.setCell ?_ (by first | exact Nat.le_refl _ | exact Nat.le_succ _ | (simp; done) | (simp; omega)) _ | refine Sees.alloc ?_ _)
  have t4 : decide (c ≥ cols) = false := decide_eq_false g4
  have t4' : decide (cols ≤ c) = false := decide_eq_false g4
  have q2 : clC l c first next cols = c := by unfold clC; rw [if_neg g1, if_neg g2, if_neg g3, if_neg g4]
  go_wp2
  refine bodyPost_ret_by (v := .tuple #[pl (l) (c), .int .i64 0]) (by simp [results, Tryd.results15, go_sem, d0, d1, d2, d3]) rfl ⟨by rw [q1, q2], ?_⟩
  repeat (first | exact hS | refine Sees.setCell ?_ (by first | exact Nat.le_refl _ | exact Nat.le_succ _ | (simp; done) | (simp; omega)) _ | refine Sees.alloc ?_ _)
end Go.Proofs.YtoljdfaghomjkaaDoor
