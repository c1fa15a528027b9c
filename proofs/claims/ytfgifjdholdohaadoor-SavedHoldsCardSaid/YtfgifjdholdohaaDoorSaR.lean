/- saved.right, Right, saved.Restore, near, Restore (23). No condition. -/
import Derived.Test.YtfgifjdholdohaaDoorSaV
namespace Go.Proofs.YtfgifjdholdohaaDoor
set_option linter.unusedVariables false
set_option linter.unusedSimpArgs false
open Go.RowKit

/-- An area. -/
structure Ar where
  rows : Int
  cols : Int
  top : Int
  bot : Int
  org : Bool
abbrev Ar.cells (a : Ar) : Array Value := #[.int .i64 a.rows, .int .i64 a.cols, .int .i64 a.top, .int .i64 a.bot, .bool a.org]
abbrev Ar.v (a : Ar) : Value := .agg a.cells
def Ar.right (a : Ar) : Bool := decide (1 ≤ a.rows ∧ a.rows ≤ 1000 ∧ 1 ≤ a.cols ∧ a.cols ≤ 1000 ∧ 0 ≤ a.top ∧ a.top ≤ a.bot ∧ a.bot < a.rows)
def ArAt (W : World) (p : Nat) (a : Ar) : Prop := W.heap[p]? = some (.cells a.cells 39 (0, 0))
namespace ArAt
variable {W W' : World} {p : Nat} {a : Ar}
theorem new (W : World) (a : Ar) : ArAt (W.alloc (.cells a.cells 39)) W.heap.size a := heap_alloc_new W _
theorem sees (h : ArAt W p a) (hs : Sees W W') : ArAt W' p a := hs.block' h
theorem cs (h : ArAt W p a) : W.cell? ⟨p, 0, none⟩ = some (.int .i64 a.rows) ∧ W.cell? ⟨p, 1, none⟩ = some (.int .i64 a.cols) ∧ W.cell? ⟨p, 2, none⟩ = some (.int .i64 a.top) ∧ W.cell? ⟨p, 3, none⟩ = some (.int .i64 a.bot) ∧ W.cell? ⟨p, 4, none⟩ = some (.bool a.org) := by
  refine ⟨?_, ?_, ?_, ?_, ?_⟩ <;> rw [Go.cell_of_row W p _ _ _ _ h] <;> rfl
end ArAt
set_option maxHeartbeats 2000000 in
theorem right_0 (a : Ar)  (h0 : ¬ 1 ≤ a.rows) (w : World) : Calls Tryd.prog 37 #[a.v] w fun e w' => e = .returned (.bool false) ∧ Sees w w' := by
  have hr := (Sees.refl w).alloc (.cells a.cells 39)
  obtain ⟨c0, c1, c2, c3, c4⟩ := (ArAt.new w a).cs
  have t0 : decide (a.rows ≥ 1) = false := decide_eq_false h0
  go_enter Tryd.func37, Tryd.ntmps37
  go_wp2
  go_ret
  exact ⟨rfl, hr⟩
set_option maxHeartbeats 2000000 in
theorem right_1 (a : Ar) (h0 : 1 ≤ a.rows) (h1 : ¬ a.rows ≤ 1000) (w : World) : Calls Tryd.prog 37 #[a.v] w fun e w' => e = .returned (.bool false) ∧ Sees w w' := by
  have hr := (Sees.refl w).alloc (.cells a.cells 39)
  obtain ⟨c0, c1, c2, c3, c4⟩ := (ArAt.new w a).cs
  have t0 : decide (a.rows ≥ 1) = true := decide_eq_true h0
  have t1 : decide (a.rows ≤ 1000) = false := decide_eq_false h1
  go_enter Tryd.func37, Tryd.ntmps37
  go_wp2
  go_ret
  exact ⟨rfl, hr⟩
set_option maxHeartbeats 2000000 in
theorem right_2 (a : Ar) (h0 : 1 ≤ a.rows) (h1 : a.rows ≤ 1000) (h2 : ¬ 1 ≤ a.cols) (w : World) : Calls Tryd.prog 37 #[a.v] w fun e w' => e = .returned (.bool false) ∧ Sees w w' := by
  have hr := (Sees.refl w).alloc (.cells a.cells 39)
  obtain ⟨c0, c1, c2, c3, c4⟩ := (ArAt.new w a).cs
  have t0 : decide (a.rows ≥ 1) = true := decide_eq_true h0
  have t1 : decide (a.rows ≤ 1000) = true := decide_eq_true h1
  have t2 : decide (a.cols ≥ 1) = false := decide_eq_false h2
  go_enter Tryd.func37, Tryd.ntmps37
  go_wp2
  go_ret
  exact ⟨rfl, hr⟩
set_option maxHeartbeats 2000000 in
theorem right_3 (a : Ar) (h0 : 1 ≤ a.rows) (h1 : a.rows ≤ 1000) (h2 : 1 ≤ a.cols) (h3 : ¬ a.cols ≤ 1000) (w : World) : Calls Tryd.prog 37 #[a.v] w fun e w' => e = .returned (.bool false) ∧ Sees w w' := by
  have hr := (Sees.refl w).alloc (.cells a.cells 39)
  obtain ⟨c0, c1, c2, c3, c4⟩ := (ArAt.new w a).cs
  have t0 : decide (a.rows ≥ 1) = true := decide_eq_true h0
  have t1 : decide (a.rows ≤ 1000) = true := decide_eq_true h1
  have t2 : decide (a.cols ≥ 1) = true := decide_eq_true h2
  have t3 : decide (a.cols ≤ 1000) = false := decide_eq_false h3
  go_enter Tryd.func37, Tryd.ntmps37
  go_wp2
  go_ret
  exact ⟨rfl, hr⟩
set_option maxHeartbeats 2000000 in
theorem right_4 (a : Ar) (h0 : 1 ≤ a.rows) (h1 : a.rows ≤ 1000) (h2 : 1 ≤ a.cols) (h3 : a.cols ≤ 1000) (h4 : ¬ 0 ≤ a.top) (w : World) : Calls Tryd.prog 37 #[a.v] w fun e w' => e = .returned (.bool false) ∧ Sees w w' := by
  have hr := (Sees.refl w).alloc (.cells a.cells 39)
  obtain ⟨c0, c1, c2, c3, c4⟩ := (ArAt.new w a).cs
  have t0 : decide (a.rows ≥ 1) = true := decide_eq_true h0
  have t1 : decide (a.rows ≤ 1000) = true := decide_eq_true h1
  have t2 : decide (a.cols ≥ 1) = true := decide_eq_true h2
  have t3 : decide (a.cols ≤ 1000) = true := decide_eq_true h3
  have t4 : decide (a.top ≥ 0) = false := decide_eq_false h4
  go_enter Tryd.func37, Tryd.ntmps37
  go_wp2
  go_ret
  exact ⟨rfl, hr⟩
set_option maxHeartbeats 2000000 in
theorem right_5 (a : Ar) (h0 : 1 ≤ a.rows) (h1 : a.rows ≤ 1000) (h2 : 1 ≤ a.cols) (h3 : a.cols ≤ 1000) (h4 : 0 ≤ a.top) (h5 : ¬ a.top ≤ a.bot) (w : World) : Calls Tryd.prog 37 #[a.v] w fun e w' => e = .returned (.bool false) ∧ Sees w w' := by
  have hr := (Sees.refl w).alloc (.cells a.cells 39)
  obtain ⟨c0, c1, c2, c3, c4⟩ := (ArAt.new w a).cs
  have t0 : decide (a.rows ≥ 1) = true := decide_eq_true h0
  have t1 : decide (a.rows ≤ 1000) = true := decide_eq_true h1
  have t2 : decide (a.cols ≥ 1) = true := decide_eq_true h2
  have t3 : decide (a.cols ≤ 1000) = true := decide_eq_true h3
  have t4 : decide (a.top ≥ 0) = true := decide_eq_true h4
  have t5 : decide (a.top ≤ a.bot) = false := decide_eq_false h5
  go_enter Tryd.func37, Tryd.ntmps37
  go_wp2
  go_ret
  exact ⟨rfl, hr⟩
set_option maxHeartbeats 2000000 in
theorem right_6 (a : Ar) (h0 : 1 ≤ a.rows) (h1 : a.rows ≤ 1000) (h2 : 1 ≤ a.cols) (h3 : a.cols ≤ 1000) (h4 : 0 ≤ a.top) (h5 : a.top ≤ a.bot) (h6 : ¬ a.bot < a.rows) (w : World) : Calls Tryd.prog 37 #[a.v] w fun e w' => e = .returned (.bool false) ∧ Sees w w' := by
  have hr := (Sees.refl w).alloc (.cells a.cells 39)
  obtain ⟨c0, c1, c2, c3, c4⟩ := (ArAt.new w a).cs
  have t0 : decide (a.rows ≥ 1) = true := decide_eq_true h0
  have t1 : decide (a.rows ≤ 1000) = true := decide_eq_true h1
  have t2 : decide (a.cols ≥ 1) = true := decide_eq_true h2
  have t3 : decide (a.cols ≤ 1000) = true := decide_eq_true h3
  have t4 : decide (a.top ≥ 0) = true := decide_eq_true h4
  have t5 : decide (a.top ≤ a.bot) = true := decide_eq_true h5
  have t6 : decide (a.bot < a.rows) = false := decide_eq_false h6
  go_enter Tryd.func37, Tryd.ntmps37
  go_wp2
  go_ret
  exact ⟨rfl, hr⟩
set_option maxHeartbeats 2000000 in
theorem right_7 (a : Ar) (h0 : 1 ≤ a.rows) (h1 : a.rows ≤ 1000) (h2 : 1 ≤ a.cols) (h3 : a.cols ≤ 1000) (h4 : 0 ≤ a.top) (h5 : a.top ≤ a.bot) (h6 : a.bot < a.rows) (w : World) : Calls Tryd.prog 37 #[a.v] w fun e w' => e = .returned (.bool true) ∧ Sees w w' := by
  have hr := (Sees.refl w).alloc (.cells a.cells 39)
  obtain ⟨c0, c1, c2, c3, c4⟩ := (ArAt.new w a).cs
  have t0 : decide (a.rows ≥ 1) = true := decide_eq_true h0
  have t1 : decide (a.rows ≤ 1000) = true := decide_eq_true h1
  have t2 : decide (a.cols ≥ 1) = true := decide_eq_true h2
  have t3 : decide (a.cols ≤ 1000) = true := decide_eq_true h3
  have t4 : decide (a.top ≥ 0) = true := decide_eq_true h4
  have t5 : decide (a.top ≤ a.bot) = true := decide_eq_true h5
  have t6 : decide (a.bot < a.rows) = true := decide_eq_true h6
  go_enter Tryd.func37, Tryd.ntmps37
  go_wp2
  go_ret
  exact ⟨rfl, hr⟩
theorem right_any (a : Ar) (w : World) : Calls Tryd.prog 37 #[a.v] w fun e w' => e = .returned (.bool a.right) ∧ Sees w w' := by
  by_cases h0 : 1 ≤ a.rows
  case neg =>
    rw [show a.right = false from decide_eq_false (by omega)]
    exact right_0 a h0 w
  by_cases h1 : a.rows ≤ 1000
  case neg =>
    rw [show a.right = false from decide_eq_false (by omega)]
    exact right_1 a h0 h1 w
  by_cases h2 : 1 ≤ a.cols
  case neg =>
    rw [show a.right = false from decide_eq_false (by omega)]
    exact right_2 a h0 h1 h2 w
  by_cases h3 : a.cols ≤ 1000
  case neg =>
    rw [show a.right = false from decide_eq_false (by omega)]
    exact right_3 a h0 h1 h2 h3 w
  by_cases h4 : 0 ≤ a.top
  case neg =>
    rw [show a.right = false from decide_eq_false (by omega)]
    exact right_4 a h0 h1 h2 h3 h4 w
  by_cases h5 : a.top ≤ a.bot
  case neg =>
    rw [show a.right = false from decide_eq_false (by omega)]
    exact right_5 a h0 h1 h2 h3 h4 h5 w
  by_cases h6 : a.bot < a.rows
  case neg =>
    rw [show a.right = false from decide_eq_false (by omega)]
    exact right_6 a h0 h1 h2 h3 h4 h5 h6 w
  rw [show a.right = true from decide_eq_true ⟨h0, h1, h2, h3, h4, h5, h6⟩]
  exact right_7 a h0 h1 h2 h3 h4 h5 h6 w
set_option maxHeartbeats 2000000 in
theorem rright_0 (a : Ar)  (h0 : ¬ 1 ≤ a.rows) (w : World) : Calls Tryd.prog 10 #[a.v] w fun e w' => e = .returned (.bool false) ∧ Sees w w' := by
  have hr := (Sees.refl w).alloc (.cells a.cells 39)
  obtain ⟨c0, c1, c2, c3, c4⟩ := (ArAt.new w a).cs
  have t0 : decide (a.rows ≥ 1) = false := decide_eq_false h0
  go_enter Tryd.func10, Tryd.ntmps10
  go_wp2
  go_ret
  exact ⟨rfl, hr⟩
set_option maxHeartbeats 2000000 in
theorem rright_1 (a : Ar) (h0 : 1 ≤ a.rows) (h1 : ¬ a.rows ≤ 1000) (w : World) : Calls Tryd.prog 10 #[a.v] w fun e w' => e = .returned (.bool false) ∧ Sees w w' := by
  have hr := (Sees.refl w).alloc (.cells a.cells 39)
  obtain ⟨c0, c1, c2, c3, c4⟩ := (ArAt.new w a).cs
  have t0 : decide (a.rows ≥ 1) = true := decide_eq_true h0
  have t1 : decide (a.rows ≤ 1000) = false := decide_eq_false h1
  go_enter Tryd.func10, Tryd.ntmps10
  go_wp2
  go_ret
  exact ⟨rfl, hr⟩
set_option maxHeartbeats 2000000 in
theorem rright_2 (a : Ar) (h0 : 1 ≤ a.rows) (h1 : a.rows ≤ 1000) (h2 : ¬ 1 ≤ a.cols) (w : World) : Calls Tryd.prog 10 #[a.v] w fun e w' => e = .returned (.bool false) ∧ Sees w w' := by
  have hr := (Sees.refl w).alloc (.cells a.cells 39)
  obtain ⟨c0, c1, c2, c3, c4⟩ := (ArAt.new w a).cs
  have t0 : decide (a.rows ≥ 1) = true := decide_eq_true h0
  have t1 : decide (a.rows ≤ 1000) = true := decide_eq_true h1
  have t2 : decide (a.cols ≥ 1) = false := decide_eq_false h2
  go_enter Tryd.func10, Tryd.ntmps10
  go_wp2
  go_ret
  exact ⟨rfl, hr⟩
set_option maxHeartbeats 2000000 in
theorem rright_3 (a : Ar) (h0 : 1 ≤ a.rows) (h1 : a.rows ≤ 1000) (h2 : 1 ≤ a.cols) (h3 : ¬ a.cols ≤ 1000) (w : World) : Calls Tryd.prog 10 #[a.v] w fun e w' => e = .returned (.bool false) ∧ Sees w w' := by
  have hr := (Sees.refl w).alloc (.cells a.cells 39)
  obtain ⟨c0, c1, c2, c3, c4⟩ := (ArAt.new w a).cs
  have t0 : decide (a.rows ≥ 1) = true := decide_eq_true h0
  have t1 : decide (a.rows ≤ 1000) = true := decide_eq_true h1
  have t2 : decide (a.cols ≥ 1) = true := decide_eq_true h2
  have t3 : decide (a.cols ≤ 1000) = false := decide_eq_false h3
  go_enter Tryd.func10, Tryd.ntmps10
  go_wp2
  go_ret
  exact ⟨rfl, hr⟩
set_option maxHeartbeats 2000000 in
theorem rright_4 (a : Ar) (h0 : 1 ≤ a.rows) (h1 : a.rows ≤ 1000) (h2 : 1 ≤ a.cols) (h3 : a.cols ≤ 1000) (h4 : ¬ 0 ≤ a.top) (w : World) : Calls Tryd.prog 10 #[a.v] w fun e w' => e = .returned (.bool false) ∧ Sees w w' := by
  have hr := (Sees.refl w).alloc (.cells a.cells 39)
  obtain ⟨c0, c1, c2, c3, c4⟩ := (ArAt.new w a).cs
  have t0 : decide (a.rows ≥ 1) = true := decide_eq_true h0
  have t1 : decide (a.rows ≤ 1000) = true := decide_eq_true h1
  have t2 : decide (a.cols ≥ 1) = true := decide_eq_true h2
  have t3 : decide (a.cols ≤ 1000) = true := decide_eq_true h3
  have t4 : decide (a.top ≥ 0) = false := decide_eq_false h4
  go_enter Tryd.func10, Tryd.ntmps10
  go_wp2
  go_ret
  exact ⟨rfl, hr⟩
set_option maxHeartbeats 2000000 in
theorem rright_5 (a : Ar) (h0 : 1 ≤ a.rows) (h1 : a.rows ≤ 1000) (h2 : 1 ≤ a.cols) (h3 : a.cols ≤ 1000) (h4 : 0 ≤ a.top) (h5 : ¬ a.top ≤ a.bot) (w : World) : Calls Tryd.prog 10 #[a.v] w fun e w' => e = .returned (.bool false) ∧ Sees w w' := by
  have hr := (Sees.refl w).alloc (.cells a.cells 39)
  obtain ⟨c0, c1, c2, c3, c4⟩ := (ArAt.new w a).cs
  have t0 : decide (a.rows ≥ 1) = true := decide_eq_true h0
  have t1 : decide (a.rows ≤ 1000) = true := decide_eq_true h1
  have t2 : decide (a.cols ≥ 1) = true := decide_eq_true h2
  have t3 : decide (a.cols ≤ 1000) = true := decide_eq_true h3
  have t4 : decide (a.top ≥ 0) = true := decide_eq_true h4
  have t5 : decide (a.top ≤ a.bot) = false := decide_eq_false h5
  go_enter Tryd.func10, Tryd.ntmps10
  go_wp2
  go_ret
  exact ⟨rfl, hr⟩
set_option maxHeartbeats 2000000 in
theorem rright_6 (a : Ar) (h0 : 1 ≤ a.rows) (h1 : a.rows ≤ 1000) (h2 : 1 ≤ a.cols) (h3 : a.cols ≤ 1000) (h4 : 0 ≤ a.top) (h5 : a.top ≤ a.bot) (h6 : ¬ a.bot < a.rows) (w : World) : Calls Tryd.prog 10 #[a.v] w fun e w' => e = .returned (.bool false) ∧ Sees w w' := by
  have hr := (Sees.refl w).alloc (.cells a.cells 39)
  obtain ⟨c0, c1, c2, c3, c4⟩ := (ArAt.new w a).cs
  have t0 : decide (a.rows ≥ 1) = true := decide_eq_true h0
  have t1 : decide (a.rows ≤ 1000) = true := decide_eq_true h1
  have t2 : decide (a.cols ≥ 1) = true := decide_eq_true h2
  have t3 : decide (a.cols ≤ 1000) = true := decide_eq_true h3
  have t4 : decide (a.top ≥ 0) = true := decide_eq_true h4
  have t5 : decide (a.top ≤ a.bot) = true := decide_eq_true h5
  have t6 : decide (a.bot < a.rows) = false := decide_eq_false h6
  go_enter Tryd.func10, Tryd.ntmps10
  go_wp2
  go_ret
  exact ⟨rfl, hr⟩
set_option maxHeartbeats 2000000 in
theorem rright_7 (a : Ar) (h0 : 1 ≤ a.rows) (h1 : a.rows ≤ 1000) (h2 : 1 ≤ a.cols) (h3 : a.cols ≤ 1000) (h4 : 0 ≤ a.top) (h5 : a.top ≤ a.bot) (h6 : a.bot < a.rows) (w : World) : Calls Tryd.prog 10 #[a.v] w fun e w' => e = .returned (.bool true) ∧ Sees w w' := by
  have hr := (Sees.refl w).alloc (.cells a.cells 39)
  obtain ⟨c0, c1, c2, c3, c4⟩ := (ArAt.new w a).cs
  have t0 : decide (a.rows ≥ 1) = true := decide_eq_true h0
  have t1 : decide (a.rows ≤ 1000) = true := decide_eq_true h1
  have t2 : decide (a.cols ≥ 1) = true := decide_eq_true h2
  have t3 : decide (a.cols ≤ 1000) = true := decide_eq_true h3
  have t4 : decide (a.top ≥ 0) = true := decide_eq_true h4
  have t5 : decide (a.top ≤ a.bot) = true := decide_eq_true h5
  have t6 : decide (a.bot < a.rows) = true := decide_eq_true h6
  go_enter Tryd.func10, Tryd.ntmps10
  go_wp2
  go_ret
  exact ⟨rfl, hr⟩
theorem rright_any (a : Ar) (w : World) : Calls Tryd.prog 10 #[a.v] w fun e w' => e = .returned (.bool a.right) ∧ Sees w w' := by
  by_cases h0 : 1 ≤ a.rows
  case neg =>
    rw [show a.right = false from decide_eq_false (by omega)]
    exact rright_0 a h0 w
  by_cases h1 : a.rows ≤ 1000
  case neg =>
    rw [show a.right = false from decide_eq_false (by omega)]
    exact rright_1 a h0 h1 w
  by_cases h2 : 1 ≤ a.cols
  case neg =>
    rw [show a.right = false from decide_eq_false (by omega)]
    exact rright_2 a h0 h1 h2 w
  by_cases h3 : a.cols ≤ 1000
  case neg =>
    rw [show a.right = false from decide_eq_false (by omega)]
    exact rright_3 a h0 h1 h2 h3 w
  by_cases h4 : 0 ≤ a.top
  case neg =>
    rw [show a.right = false from decide_eq_false (by omega)]
    exact rright_4 a h0 h1 h2 h3 h4 w
  by_cases h5 : a.top ≤ a.bot
  case neg =>
    rw [show a.right = false from decide_eq_false (by omega)]
    exact rright_5 a h0 h1 h2 h3 h4 h5 w
  by_cases h6 : a.bot < a.rows
  case neg =>
    rw [show a.right = false from decide_eq_false (by omega)]
    exact rright_6 a h0 h1 h2 h3 h4 h5 h6 w
  rw [show a.right = true from decide_eq_true ⟨h0, h1, h2, h3, h4, h5, h6⟩]
  exact rright_7 a h0 h1 h2 h3 h4 h5 h6 w
theorem size_al (w : World) (o : Obj) : (w.alloc o).heap.size = w.heap.size + 1 := by simp
abbrev zSv : Sv := ⟨0, 0, false, 0, 0, 0, 0, 0, 0, 0, 0, 0, 0, 0, false, 0, 0, 0⟩
/-- What is kept, within an area. -/
def resto (s : Sv) (a : Ar) : Sv :=
  { s with
    row := if s.org then max a.top (min s.row a.bot) else max 0 (min s.row (a.rows - 1))
    col := min s.col (a.cols - 1)
    pend := s.pend && (min s.col (a.cols - 1) == a.cols - 1) }
end Go.Proofs.YtfgifjdholdohaaDoor
