/- charset.Valid, saved.Valid and the law's valid (23). No condition. -/
import Derived.Test.YtfgifjdholdohaaDoorSaU
namespace Go.Proofs.YtfgifjdholdohaaDoor
set_option linter.unusedVariables false
set_option linter.unusedSimpArgs false
open Go.RowKit

theorem Sees.block' {w W : World} (h : Sees w W) {p : Nat} {o : Obj} (hp : w.heap[p]? = some o) : W.heap[p]? = some o := by rw [h.block p (Array.getElem?_eq_some_iff.1 hp).1, hp]
def csK (k : Int) : Bool := decide (0 ≤ k) && decide (k < 2)
set_option maxHeartbeats 2000000 in
theorem csKnown_any (k : Int) (w : World) : Calls Tryd.prog 42 #[.int .i64 k] w fun e w' => e = .returned (.bool (csK k)) ∧ Sees w w' := by
  unfold csK
  have hr := Sees.refl w
  by_cases h0 : 0 ≤ k
  · have t0 : decide (k ≥ 0) = true := decide_eq_true h0
    have t0' : decide (0 ≤ k) = true := decide_eq_true h0
    cases t1 : decide (k < 2) <;>
    · go_enter Tryd.func42, Tryd.ntmps42
      go_wp2
      go_ret
      exact ⟨by simp [t0', t1], hr⟩
  · have t0 : decide (k ≥ 0) = false := decide_eq_false h0
    have t0' : decide (0 ≤ k) = false := decide_eq_false h0
    go_enter Tryd.func42, Tryd.ntmps42
    go_wp2
    go_ret
    exact ⟨by simp [t0'], hr⟩
def vCs (g0 g1 a : Int) : Bool := csK g0 && (csK g1 && (a == 0 || a == 1))
set_option maxHeartbeats 4000000 in
theorem csValid_any (g0 g1 a : Int) (w : World) : Calls Tryd.prog 25 #[.agg #[.int .i64 g0, .int .i64 g1, .int .i64 a]] w fun e w' => e = .returned (.bool (vCs g0 g1 a)) ∧ Sees w w' := by
  unfold vCs
  have hr := (Sees.refl w).alloc (.cells #[.int .i64 g0, .int .i64 g1, .int .i64 a] 33)
  have A0 : (w.alloc (.cells #[.int .i64 g0, .int .i64 g1, .int .i64 a] 33)).heap[w.heap.size]? = some (.cells #[.int .i64 g0, .int .i64 g1, .int .i64 a] 33 (0, 0)) := heap_alloc_new w _
  have k0 := fun W => csKnown_any g0 W
  have k1 := fun W => csKnown_any g1 W
  cases e0 : csK g0
  · rw [e0] at k0
    have K0 := Lib.hid k0
    clear k0 k1
    go_enter Tryd.func25, Tryd.ntmps25
    go_wp2_with fail
    refine (K0.out _).mono ?_
    rintro e W1 ⟨rfl, s1⟩
    go_wp2
    go_ret
    exact ⟨rfl, hr.trans s1⟩
  · rw [e0] at k0
    cases e1 : csK g1
    · rw [e1] at k1
      have K0 := Lib.hid k0
      have K1 := Lib.hid k1
      clear k0 k1
      go_enter Tryd.func25, Tryd.ntmps25
      go_wp2_with fail
      refine (K0.out _).mono ?_
      rintro e W1 ⟨rfl, s1⟩
      have A1 := s1.block' A0
      have c1 := Go.cell_of_row _ w.heap.size 1 _ _ _ A1
      go_wp2_with fail
      refine (K1.out _).mono ?_
      rintro e W2 ⟨rfl, s2⟩
      go_wp2
      go_ret
      exact ⟨rfl, (hr.trans s1).trans s2⟩
    · rw [e1] at k1
      have K0 := Lib.hid k0
      have K1 := Lib.hid k1
      clear k0 k1
      cases t0 : (a == 0) <;> cases t1 : (a == 1) <;>
      · go_enter Tryd.func25, Tryd.ntmps25
        go_wp2_with fail
        refine (K0.out _).mono ?_
        rintro e W1 ⟨rfl, s1⟩
        have A1 := s1.block' A0
        have c1 := Go.cell_of_row _ w.heap.size 1 _ _ _ A1
        go_wp2_with fail
        refine (K1.out _).mono ?_
        rintro e W2 ⟨rfl, s2⟩
        have A2 := s2.block' A1
        have c2 := Go.cell_of_row _ w.heap.size 2 _ _ _ A2
        go_wp2
        go_ret
        exact ⟨by simp [t0, t1], (hr.trans s1).trans s2⟩
/-- Something kept. -/
structure Sv where
  row : Int
  col : Int
  pend : Bool
  a0 : Int
  a1 : Int
  a2 : Int
  a3 : Int
  a4 : Int
  a5 : Int
  a6 : Int
  a7 : Int
  a8 : Int
  a9 : Int
  a10 : Int
  org : Bool
  g0 : Int
  g1 : Int
  act : Int
abbrev Sv.cells (s : Sv) : Array Value := #[.int .i64 s.row, .int .i64 s.col, .bool s.pend, .int .i64 s.a0, .int .u8 s.a1, .int .u8 s.a2, .int .u8 s.a3, .int .u8 s.a4, .int .i64 s.a5, .int .u8 s.a6, .int .u8 s.a7, .int .u8 s.a8, .int .u8 s.a9, .int .u8 s.a10, .bool s.org, .int .i64 s.g0, .int .i64 s.g1, .int .i64 s.act]
abbrev Sv.v (s : Sv) : Value := .agg s.cells
abbrev Sv.pen (s : Sv) : Bool := vPen s.a0 s.a1 s.a2 s.a3 s.a4 s.a5 s.a6 s.a7 s.a8 s.a9
abbrev Sv.cs (s : Sv) : Bool := vCs s.g0 s.g1 s.act
def Sv.placed (s : Sv) : Bool := decide (0 ≤ s.row ∧ s.row < 1000 ∧ 0 ≤ s.col ∧ s.col < 1000)
def Sv.ok (s : Sv) : Bool := s.placed && (s.pen && s.cs)
/-- Something kept, in memory. -/
def SvAt (W : World) (p : Nat) (s : Sv) : Prop := W.heap[p]? = some (.cells s.cells 35 (0, 0))
namespace SvAt
variable {W W' : World} {p : Nat} {s : Sv}
theorem new (W : World) (s : Sv) : SvAt (W.alloc (.cells s.cells 35)) W.heap.size s := heap_alloc_new W _
theorem sees (h : SvAt W p s) (hs : Sees W W') : SvAt W' p s := hs.block' h
theorem cs (h : SvAt W p s) : W.cell? ⟨p, 0, none⟩ = some (.int .i64 s.row) ∧ W.cell? ⟨p, 1, none⟩ = some (.int .i64 s.col) ∧ W.cell? ⟨p, 2, none⟩ = some (.bool s.pend) ∧ W.cell? ⟨p, 3, none⟩ = some (.int .i64 s.a0) ∧ W.cell? ⟨p, 4, none⟩ = some (.int .u8 s.a1) ∧ W.cell? ⟨p, 5, none⟩ = some (.int .u8 s.a2) ∧ W.cell? ⟨p, 6, none⟩ = some (.int .u8 s.a3) ∧ W.cell? ⟨p, 7, none⟩ = some (.int .u8 s.a4) ∧ W.cell? ⟨p, 8, none⟩ = some (.int .i64 s.a5) ∧ W.cell? ⟨p, 9, none⟩ = some (.int .u8 s.a6) ∧ W.cell? ⟨p, 10, none⟩ = some (.int .u8 s.a7) ∧ W.cell? ⟨p, 11, none⟩ = some (.int .u8 s.a8) ∧ W.cell? ⟨p, 12, none⟩ = some (.int .u8 s.a9) ∧ W.cell? ⟨p, 13, none⟩ = some (.int .u8 s.a10) ∧ W.cell? ⟨p, 14, none⟩ = some (.bool s.org) ∧ W.cell? ⟨p, 15, none⟩ = some (.int .i64 s.g0) ∧ W.cell? ⟨p, 16, none⟩ = some (.int .i64 s.g1) ∧ W.cell? ⟨p, 17, none⟩ = some (.int .i64 s.act) := by
  refine ⟨?_, ?_, ?_, ?_, ?_, ?_, ?_, ?_, ?_, ?_, ?_, ?_, ?_, ?_, ?_, ?_, ?_, ?_⟩ <;> rw [Go.cell_of_row W p _ _ _ _ h] <;> rfl
end SvAt
set_option maxHeartbeats 4000000 in
theorem sValid_f0 (s : Sv) (h0 : ¬ 0 ≤ s.row) (w : World) : Calls Tryd.prog 8 #[s.v] w fun e w' => e = .returned (.bool false) ∧ Sees w w' := by
  have hr := (Sees.refl w).alloc (.cells s.cells 35)
  have A0 := SvAt.new w s
  have t0 : decide (s.row ≥ 0) = false := decide_eq_false h0
  obtain ⟨c0, c1, c2, c3, c4, c5, c6, c7, c8, c9, c10, c11, c12, c13, c14, c15, c16, c17⟩ := A0.cs
  have B0 : ((w.alloc (.cells s.cells 35)).alloc (.cells #[.int .i64 s.row, .int .i64 s.col, .bool s.pend] 23)).heap[(w.alloc (.cells s.cells 35)).heap.size]? = some (.cells #[.int .i64 s.row, .int .i64 s.col, .bool s.pend] 23 (0, 0)) := heap_alloc_new _ _
  have hr2 := hr.alloc (.cells #[.int .i64 s.row, .int .i64 s.col, .bool s.pend] 23)
  go_enter Tryd.func8, Tryd.ntmps8
  go_wp2
  go_ret
  exact ⟨rfl, hr2⟩
set_option maxHeartbeats 4000000 in
theorem sValid_f1 (s : Sv) (h0 : 0 ≤ s.row) (h1 : ¬ s.row < 1000) (w : World) : Calls Tryd.prog 8 #[s.v] w fun e w' => e = .returned (.bool false) ∧ Sees w w' := by
  have hr := (Sees.refl w).alloc (.cells s.cells 35)
  have A0 := SvAt.new w s
  have t0 : decide (s.row ≥ 0) = true := decide_eq_true h0
  have t1 : decide (s.row < 1000) = false := decide_eq_false h1
  obtain ⟨c0, c1, c2, c3, c4, c5, c6, c7, c8, c9, c10, c11, c12, c13, c14, c15, c16, c17⟩ := A0.cs
  have B0 : ((w.alloc (.cells s.cells 35)).alloc (.cells #[.int .i64 s.row, .int .i64 s.col, .bool s.pend] 23)).heap[(w.alloc (.cells s.cells 35)).heap.size]? = some (.cells #[.int .i64 s.row, .int .i64 s.col, .bool s.pend] 23 (0, 0)) := heap_alloc_new _ _
  have hr2 := hr.alloc (.cells #[.int .i64 s.row, .int .i64 s.col, .bool s.pend] 23)
  go_enter Tryd.func8, Tryd.ntmps8
  go_wp2
  go_ret
  exact ⟨rfl, hr2⟩
set_option maxHeartbeats 4000000 in
theorem sValid_f2 (s : Sv) (h0 : 0 ≤ s.row) (h1 : s.row < 1000) (h2 : ¬ 0 ≤ s.col) (w : World) : Calls Tryd.prog 8 #[s.v] w fun e w' => e = .returned (.bool false) ∧ Sees w w' := by
  have hr := (Sees.refl w).alloc (.cells s.cells 35)
  have A0 := SvAt.new w s
  have t0 : decide (s.row ≥ 0) = true := decide_eq_true h0
  have t1 : decide (s.row < 1000) = true := decide_eq_true h1
  have t2 : decide (s.col ≥ 0) = false := decide_eq_false h2
  obtain ⟨c0, c1, c2, c3, c4, c5, c6, c7, c8, c9, c10, c11, c12, c13, c14, c15, c16, c17⟩ := A0.cs
  have B0 : ((w.alloc (.cells s.cells 35)).alloc (.cells #[.int .i64 s.row, .int .i64 s.col, .bool s.pend] 23)).heap[(w.alloc (.cells s.cells 35)).heap.size]? = some (.cells #[.int .i64 s.row, .int .i64 s.col, .bool s.pend] 23 (0, 0)) := heap_alloc_new _ _
  have hr2 := hr.alloc (.cells #[.int .i64 s.row, .int .i64 s.col, .bool s.pend] 23)
  go_enter Tryd.func8, Tryd.ntmps8
  go_wp2
  go_ret
  exact ⟨rfl, hr2⟩
set_option maxHeartbeats 4000000 in
theorem sValid_f3 (s : Sv) (h0 : 0 ≤ s.row) (h1 : s.row < 1000) (h2 : 0 ≤ s.col) (h3 : ¬ s.col < 1000) (w : World) : Calls Tryd.prog 8 #[s.v] w fun e w' => e = .returned (.bool false) ∧ Sees w w' := by
  have hr := (Sees.refl w).alloc (.cells s.cells 35)
  have A0 := SvAt.new w s
  have t0 : decide (s.row ≥ 0) = true := decide_eq_true h0
  have t1 : decide (s.row < 1000) = true := decide_eq_true h1
  have t2 : decide (s.col ≥ 0) = true := decide_eq_true h2
  have t3 : decide (s.col < 1000) = false := decide_eq_false h3
  obtain ⟨c0, c1, c2, c3, c4, c5, c6, c7, c8, c9, c10, c11, c12, c13, c14, c15, c16, c17⟩ := A0.cs
  have B0 : ((w.alloc (.cells s.cells 35)).alloc (.cells #[.int .i64 s.row, .int .i64 s.col, .bool s.pend] 23)).heap[(w.alloc (.cells s.cells 35)).heap.size]? = some (.cells #[.int .i64 s.row, .int .i64 s.col, .bool s.pend] 23 (0, 0)) := heap_alloc_new _ _
  have hr2 := hr.alloc (.cells #[.int .i64 s.row, .int .i64 s.col, .bool s.pend] 23)
  go_enter Tryd.func8, Tryd.ntmps8
  go_wp2
  go_ret
  exact ⟨rfl, hr2⟩
set_option maxHeartbeats 4000000 in
theorem sValid_np (s : Sv) (h0 : 0 ≤ s.row) (h1 : s.row < 1000) (h2 : 0 ≤ s.col) (h3 : s.col < 1000) (hp : s.pen = false) (w : World) : Calls Tryd.prog 8 #[s.v] w fun e w' => e = .returned (.bool false) ∧ Sees w w' := by
  have hr := (Sees.refl w).alloc (.cells s.cells 35)
  have A0 := SvAt.new w s
  have t0 : decide (s.row ≥ 0) = true := decide_eq_true h0
  have t1 : decide (s.row < 1000) = true := decide_eq_true h1
  have t2 : decide (s.col ≥ 0) = true := decide_eq_true h2
  have t3 : decide (s.col < 1000) = true := decide_eq_true h3
  obtain ⟨c0, c1, c2, c3, c4, c5, c6, c7, c8, c9, c10, c11, c12, c13, c14, c15, c16, c17⟩ := A0.cs
  have B0 : ((w.alloc (.cells s.cells 35)).alloc (.cells #[.int .i64 s.row, .int .i64 s.col, .bool s.pend] 23)).heap[(w.alloc (.cells s.cells 35)).heap.size]? = some (.cells #[.int .i64 s.row, .int .i64 s.col, .bool s.pend] 23 (0, 0)) := heap_alloc_new _ _
  have hr2 := hr.alloc (.cells #[.int .i64 s.row, .int .i64 s.col, .bool s.pend] 23)
  have kp := fun W => penValid_any s.a0 s.a1 s.a2 s.a3 s.a4 s.a5 s.a6 s.a7 s.a8 s.a9 s.a10 W
  rw [show vPen s.a0 s.a1 s.a2 s.a3 s.a4 s.a5 s.a6 s.a7 s.a8 s.a9 = false from hp] at kp
  have KP := Lib.hid kp
  clear kp hp
  have A1 := A0.sees ((Sees.refl _).alloc (.cells #[.int .i64 s.row, .int .i64 s.col, .bool s.pend] 23))
  go_enter Tryd.func8, Tryd.ntmps8
  go_wp2_with fail
  refine (KP.out _).mono ?_
  rintro e W1 ⟨rfl, s1⟩
  go_wp2
  go_ret
  exact ⟨rfl, hr2.trans s1⟩
set_option maxHeartbeats 4000000 in
theorem sValid_nc (s : Sv) (h0 : 0 ≤ s.row) (h1 : s.row < 1000) (h2 : 0 ≤ s.col) (h3 : s.col < 1000) (hp : s.pen = true) (hc : s.cs = false) (w : World) : Calls Tryd.prog 8 #[s.v] w fun e w' => e = .returned (.bool false) ∧ Sees w w' := by
  have hr := (Sees.refl w).alloc (.cells s.cells 35)
  have A0 := SvAt.new w s
  have t0 : decide (s.row ≥ 0) = true := decide_eq_true h0
  have t1 : decide (s.row < 1000) = true := decide_eq_true h1
  have t2 : decide (s.col ≥ 0) = true := decide_eq_true h2
  have t3 : decide (s.col < 1000) = true := decide_eq_true h3
  obtain ⟨c0, c1, c2, c3, c4, c5, c6, c7, c8, c9, c10, c11, c12, c13, c14, c15, c16, c17⟩ := A0.cs
  have B0 : ((w.alloc (.cells s.cells 35)).alloc (.cells #[.int .i64 s.row, .int .i64 s.col, .bool s.pend] 23)).heap[(w.alloc (.cells s.cells 35)).heap.size]? = some (.cells #[.int .i64 s.row, .int .i64 s.col, .bool s.pend] 23 (0, 0)) := heap_alloc_new _ _
  have hr2 := hr.alloc (.cells #[.int .i64 s.row, .int .i64 s.col, .bool s.pend] 23)
  have kp := fun W => penValid_any s.a0 s.a1 s.a2 s.a3 s.a4 s.a5 s.a6 s.a7 s.a8 s.a9 s.a10 W
  rw [show vPen s.a0 s.a1 s.a2 s.a3 s.a4 s.a5 s.a6 s.a7 s.a8 s.a9 = true from hp] at kp
  have KP := Lib.hid kp
  clear kp hp
  have A1 := A0.sees ((Sees.refl _).alloc (.cells #[.int .i64 s.row, .int .i64 s.col, .bool s.pend] 23))
  have kc := fun W => csValid_any s.g0 s.g1 s.act W
  rw [show vCs s.g0 s.g1 s.act = false from hc] at kc
  have KC := Lib.hid kc
  clear kc hc
  go_enter Tryd.func8, Tryd.ntmps8
  go_wp2_with fail
  refine (KP.out _).mono ?_
  rintro e W1 ⟨rfl, s1⟩
  have A2 := A1.sees s1
  clear c0 c1 c2 c3 c4 c5 c6 c7 c8 c9 c10 c11 c12 c13 c14 c15 c16 c17
  obtain ⟨c0, c1, c2, c3, c4, c5, c6, c7, c8, c9, c10, c11, c12, c13, c14, c15, c16, c17⟩ := A2.cs
  go_wp2_with fail
  refine (KC.out _).mono ?_
  rintro e W2 ⟨rfl, s2⟩
  go_wp2
  go_ret
  exact ⟨rfl, (hr2.trans s1).trans s2⟩
set_option maxHeartbeats 4000000 in
theorem sValid_ok (s : Sv) (h0 : 0 ≤ s.row) (h1 : s.row < 1000) (h2 : 0 ≤ s.col) (h3 : s.col < 1000) (hp : s.pen = true) (hc : s.cs = true) (w : World) : Calls Tryd.prog 8 #[s.v] w fun e w' => e = .returned (.bool true) ∧ Sees w w' := by
  have hr := (Sees.refl w).alloc (.cells s.cells 35)
  have A0 := SvAt.new w s
  have t0 : decide (s.row ≥ 0) = true := decide_eq_true h0
  have t1 : decide (s.row < 1000) = true := decide_eq_true h1
  have t2 : decide (s.col ≥ 0) = true := decide_eq_true h2
  have t3 : decide (s.col < 1000) = true := decide_eq_true h3
  obtain ⟨c0, c1, c2, c3, c4, c5, c6, c7, c8, c9, c10, c11, c12, c13, c14, c15, c16, c17⟩ := A0.cs
  have B0 : ((w.alloc (.cells s.cells 35)).alloc (.cells #[.int .i64 s.row, .int .i64 s.col, .bool s.pend] 23)).heap[(w.alloc (.cells s.cells 35)).heap.size]? = some (.cells #[.int .i64 s.row, .int .i64 s.col, .bool s.pend] 23 (0, 0)) := heap_alloc_new _ _
  have hr2 := hr.alloc (.cells #[.int .i64 s.row, .int .i64 s.col, .bool s.pend] 23)
  have kp := fun W => penValid_any s.a0 s.a1 s.a2 s.a3 s.a4 s.a5 s.a6 s.a7 s.a8 s.a9 s.a10 W
  rw [show vPen s.a0 s.a1 s.a2 s.a3 s.a4 s.a5 s.a6 s.a7 s.a8 s.a9 = true from hp] at kp
  have KP := Lib.hid kp
  clear kp hp
  have A1 := A0.sees ((Sees.refl _).alloc (.cells #[.int .i64 s.row, .int .i64 s.col, .bool s.pend] 23))
  have kc := fun W => csValid_any s.g0 s.g1 s.act W
  rw [show vCs s.g0 s.g1 s.act = true from hc] at kc
  have KC := Lib.hid kc
  clear kc hc
  go_enter Tryd.func8, Tryd.ntmps8
  go_wp2_with fail
  refine (KP.out _).mono ?_
  rintro e W1 ⟨rfl, s1⟩
  have A2 := A1.sees s1
  clear c0 c1 c2 c3 c4 c5 c6 c7 c8 c9 c10 c11 c12 c13 c14 c15 c16 c17
  obtain ⟨c0, c1, c2, c3, c4, c5, c6, c7, c8, c9, c10, c11, c12, c13, c14, c15, c16, c17⟩ := A2.cs
  go_wp2_with fail
  refine (KC.out _).mono ?_
  rintro e W2 ⟨rfl, s2⟩
  go_wp2
  go_ret
  exact ⟨rfl, (hr2.trans s1).trans s2⟩
theorem sValid_any (s : Sv) (w : World) : Calls Tryd.prog 8 #[s.v] w fun e w' => e = .returned (.bool s.ok) ∧ Sees w w' := by
  by_cases h0 : 0 ≤ s.row
  · by_cases h1 : s.row < 1000
    · by_cases h2 : 0 ≤ s.col
      · by_cases h3 : s.col < 1000
        · have hpl : s.placed = true := decide_eq_true ⟨h0, h1, h2, h3⟩
          unfold Sv.ok
          rw [hpl]
          cases hp : s.pen
          · exact sValid_np s h0 h1 h2 h3 hp w
          · cases hc : s.cs
            · exact sValid_nc s h0 h1 h2 h3 hp hc w
            · exact sValid_ok s h0 h1 h2 h3 hp hc w
        · rw [show s.ok = false by unfold Sv.ok Sv.placed; rw [decide_eq_false (by omega)]; rfl]
          exact sValid_f3 s h0 h1 h2 h3 w
      · rw [show s.ok = false by unfold Sv.ok Sv.placed; rw [decide_eq_false (by omega)]; rfl]
        exact sValid_f2 s h0 h1 h2 w
    · rw [show s.ok = false by unfold Sv.ok Sv.placed; rw [decide_eq_false (by omega)]; rfl]
      exact sValid_f1 s h0 h1 w
  · rw [show s.ok = false by unfold Sv.ok Sv.placed; rw [decide_eq_false (by omega)]; rfl]
    exact sValid_f0 s h0 w
end Go.Proofs.YtfgifjdholdohaaDoor
