/- The reference of layer 32: clamp, Scroll, Pushed, Resize. The reference of layer 32: Lines. The calls of a view and a history, and the reference beside them: does (32). No condition. -/
import Derived.Test.YtpicffaghoggdaaDoorViR
import Derived.Test.YtpicffaghoggdaaDoorHrD
namespace Go.Proofs.YtpicffaghoggdaaDoor
set_option linter.unusedVariables false
set_option linter.unusedSimpArgs false
open Go.RowKit

/-- A view of the reference in memory. -/
def RvAt (W : World) (b : Nat) (p g : Int) : Prop := W.heap[b]? = some (.cells #[.int .i64 p, .int .i64 g] 86 (0, 0))
namespace RvAt
variable {W W' : World} {b : Nat} {p g : Int}
theorem sees (h : RvAt W b p g) (hs : Sees W W') : RvAt W' b p g := by
  unfold RvAt; rw [hs.block _ (Array.getElem?_eq_some_iff.1 h).1]; exact h
theorem keeps {F : Nat → Prop} (h : RvAt W b p g) (hk : Keeps F W W') (hF : ¬ F b) : RvAt W' b p g := by
  unfold RvAt; rw [hk.block _ (Array.getElem?_eq_some_iff.1 h).1 hF]; exact h
theorem new {n : Nat} (hn : n = W.heap.size) : RvAt (W.alloc (.cells #[.int .i64 p, .int .i64 g] 86)) n p g := by subst hn; exact heap_alloc_new W _
theorem alloc (h : RvAt W b p g) (o : Obj) : RvAt (W.alloc o) b p g := h.sees ((Sees.refl W).alloc o)
theorem lt (h : RvAt W b p g) : b < W.heap.size := (Array.getElem?_eq_some_iff.1 h).1
theorem c (h : RvAt W b p g) : W.cell? ⟨b, 0, none⟩ = some (.int .i64 p) ∧ W.cell? ⟨b, 1, none⟩ = some (.int .i64 g) := by
  rw [cell_of_row _ _ _ _ _ _ h, cell_of_row _ _ _ _ _ _ h]; exact ⟨rfl, rfl⟩
theorem fr (h : RvAt W b p g) : ∀ i, W.frozen? ⟨b, i, none⟩ = false := fun i => frozen_of_row W b i _ _ h
theorem set2 (h : RvAt W b p g) (p' g' : Int) : RvAt ((W.setCell ⟨b, 0, none⟩ (.int .i64 p')).setCell ⟨b, 1, none⟩ (.int .i64 g')) b p' g' :=
  heap_setCell_same _ _ _ _ _ _ (heap_setCell_same _ _ _ _ _ _ h)
end RvAt
theorem refClamp32 (rows back k most first : Int) (a : Option Addr) (n c : Nat) (w : World) (hk : clampV back n = k) :
    Calls Tryd.prog 83 #[.agg #[.int .i64 rows, .int .i64 back], .agg #[.int .i64 most, .int .i64 first, .slice a n c]] w fun e w' => e = .returned (.agg #[.int .i64 rows, .int .i64 k]) ∧ Sees w w' := by
  have hw := Sees.refl w
  obtain ⟨z, hz⟩ : ∃ z : Int, z = min back n := ⟨_, rfl⟩
  have hk : max 0 z = k := by rw [hz]; exact hk
  have h1 : (if (n : Int) < back then (n : Int) else back) = z := by split <;> omega
  have h2 : (if back < (n : Int) then back else (n : Int)) = z := by split <;> omega
  have h3 : (if (0 : Int) < z then z else 0) = k := by split <;> omega
  have h4 : (if z < (0 : Int) then 0 else z) = k := by split <;> omega
  clear hz hk
  go_enter Tryd.func83, Tryd.ntmps83
  go_wp2
  refine bodyPost_ret_by (v := .agg #[.int .i64 rows, .int .i64 k]) (by simp [results, Tryd.results83, go_sem]) rfl ⟨rfl, ((hw.alloc _).alloc _).alloc _⟩
set_option maxHeartbeats 2000000 in
theorem refScroll32_hi (rows n k most first : Int) (back : Nat) (a : Option Addr) (l c : Nat) (w : World) (hb : back ≤ l) (hl : l ≤ 1048576) (hk : clampV (back + (l : Int)) l = k) (h : (l : Int) < n) :
    Calls Tryd.prog 80 #[.agg #[.int .i64 rows, .int .i64 back], .int .i64 n, .agg #[.int .i64 most, .int .i64 first, .slice a l c]] w fun e w' => e = .returned (.agg #[.int .i64 rows, .int .i64 k]) ∧ Sees w w' := by
  have hw := Sees.refl w
  have d1 : decide (n > (l : Int)) = true := decide_eq_true (by omega)
  have g1 : IntKind.i64.wrap (-(back : Int)) = -(back : Int) := IntWalk.i64_in _ (by omega)
  have d2 : decide ((l : Int) < -(back : Int)) = false := decide_eq_false (by omega)
  have g2 : IntKind.i64.wrap ((back : Int) + (l : Int)) = (back : Int) + (l : Int) := IntWalk.i64_in _ (by omega)
  have Hk := Lib.hid hk
  clear hk
  go_enter Tryd.func80, Tryd.ntmps80
  go_wp2_with fail
  refine calls_world (fun X hX => ?_)
  have hsX : Sees w X := by subst hX; exact ((hw.alloc _).alloc _).alloc _
  have A2 : RvAt X (w.heap.size + 1 + 1) 0 0 := by subst hX; exact RvAt.new (by simp)
  clear hX
  refine (refClamp32 rows (back + (l : Int)) k most first a l c X Hk.out).mono ?_
  rintro e w3 ⟨rfl, hs3⟩
  have A3 := A2.sees hs3
  have HS := Lib.hid (hsX.trans hs3)
  clear A2 hsX hs3
  obtain ⟨y0, y1⟩ := A3.c
  have fy := A3.fr
  go_wp2_with fail
  have hE := A3.set2 rows k
  obtain ⟨z0, z1⟩ := hE.c
  have hk9 : Keeps (fun b => b = w.heap.size + 1 + 1) w3 ((w3.setCell ⟨w.heap.size + 1 + 1, 0, none⟩ (.int .i64 rows)).setCell ⟨w.heap.size + 1 + 1, 1, none⟩ (.int .i64 k)) :=
    ((Keeps.refl (fun b => b = w.heap.size + 1 + 1) w3).setCell (p := ⟨w.heap.size + 1 + 1, 0, none⟩) (fun _ => rfl) _).setCell (p := ⟨w.heap.size + 1 + 1, 1, none⟩) (fun _ => rfl) _
  exact bodyPost_ret_by (v := .agg #[.int .i64 rows, .int .i64 k]) (by simp [results, Tryd.results80, go_sem, z0, z1]) rfl ⟨rfl, ((Keeps.of_sees (F := fun _ => False) HS.out).trans' hk9 (fun b hb e => by have e : b = w.heap.size + 1 + 1 := e; omega)).sees_end (fun _ _ h => h)⟩
set_option maxHeartbeats 2000000 in
theorem refScroll32_lo (rows n k most first : Int) (back : Nat) (a : Option Addr) (l c : Nat) (w : World) (hb : back ≤ l) (hl : l ≤ 1048576) (hk : clampV (back + -(back : Int)) l = k) (h : n < -(back : Int)) :
    Calls Tryd.prog 80 #[.agg #[.int .i64 rows, .int .i64 back], .int .i64 n, .agg #[.int .i64 most, .int .i64 first, .slice a l c]] w fun e w' => e = .returned (.agg #[.int .i64 rows, .int .i64 k]) ∧ Sees w w' := by
  have hw := Sees.refl w
  have d1 : decide (n > (l : Int)) = false := decide_eq_false (by omega)
  have g1 : IntKind.i64.wrap (-(back : Int)) = -(back : Int) := IntWalk.i64_in _ (by omega)
  have d2 : decide (n < -(back : Int)) = true := decide_eq_true (by omega)
  have g2 : IntKind.i64.wrap ((back : Int) + -(back : Int)) = (back : Int) + -(back : Int) := IntWalk.i64_in _ (by omega)
  have Hk := Lib.hid hk
  clear hk
  go_enter Tryd.func80, Tryd.ntmps80
  go_wp2_with fail
  refine calls_world (fun X hX => ?_)
  have hsX : Sees w X := by subst hX; exact ((hw.alloc _).alloc _).alloc _
  have A2 : RvAt X (w.heap.size + 1 + 1) 0 0 := by subst hX; exact RvAt.new (by simp)
  clear hX
  refine (refClamp32 rows (back + -(back : Int)) k most first a l c X Hk.out).mono ?_
  rintro e w3 ⟨rfl, hs3⟩
  have A3 := A2.sees hs3
  have HS := Lib.hid (hsX.trans hs3)
  clear A2 hsX hs3
  obtain ⟨y0, y1⟩ := A3.c
  have fy := A3.fr
  go_wp2_with fail
  have hE := A3.set2 rows k
  obtain ⟨z0, z1⟩ := hE.c
  have hk9 : Keeps (fun b => b = w.heap.size + 1 + 1) w3 ((w3.setCell ⟨w.heap.size + 1 + 1, 0, none⟩ (.int .i64 rows)).setCell ⟨w.heap.size + 1 + 1, 1, none⟩ (.int .i64 k)) :=
    ((Keeps.refl (fun b => b = w.heap.size + 1 + 1) w3).setCell (p := ⟨w.heap.size + 1 + 1, 0, none⟩) (fun _ => rfl) _).setCell (p := ⟨w.heap.size + 1 + 1, 1, none⟩) (fun _ => rfl) _
  exact bodyPost_ret_by (v := .agg #[.int .i64 rows, .int .i64 k]) (by simp [results, Tryd.results80, go_sem, z0, z1]) rfl ⟨rfl, ((Keeps.of_sees (F := fun _ => False) HS.out).trans' hk9 (fun b hb e => by have e : b = w.heap.size + 1 + 1 := e; omega)).sees_end (fun _ _ h => h)⟩
set_option maxHeartbeats 2000000 in
theorem refScroll32_in (rows n k most first : Int) (back : Nat) (a : Option Addr) (l c : Nat) (w : World) (hb : back ≤ l) (hl : l ≤ 1048576) (hk : clampV (back + n) l = k) (h1 : -(back : Int) ≤ n) (h2 : n ≤ (l : Int)) :
    Calls Tryd.prog 80 #[.agg #[.int .i64 rows, .int .i64 back], .int .i64 n, .agg #[.int .i64 most, .int .i64 first, .slice a l c]] w fun e w' => e = .returned (.agg #[.int .i64 rows, .int .i64 k]) ∧ Sees w w' := by
  have hw := Sees.refl w
  have d1 : decide (n > (l : Int)) = false := decide_eq_false (by omega)
  have g1 : IntKind.i64.wrap (-(back : Int)) = -(back : Int) := IntWalk.i64_in _ (by omega)
  have d2 : decide (n < -(back : Int)) = false := decide_eq_false (by omega)
  have g2 : IntKind.i64.wrap ((back : Int) + n) = (back : Int) + n := IntWalk.i64_in _ (by omega)
  have Hk := Lib.hid hk
  clear hk
  go_enter Tryd.func80, Tryd.ntmps80
  go_wp2_with fail
  refine calls_world (fun X hX => ?_)
  have hsX : Sees w X := by subst hX; exact ((hw.alloc _).alloc _).alloc _
  have A2 : RvAt X (w.heap.size + 1 + 1) 0 0 := by subst hX; exact RvAt.new (by simp)
  clear hX
  refine (refClamp32 rows (back + n) k most first a l c X Hk.out).mono ?_
  rintro e w3 ⟨rfl, hs3⟩
  have A3 := A2.sees hs3
  have HS := Lib.hid (hsX.trans hs3)
  clear A2 hsX hs3
  obtain ⟨y0, y1⟩ := A3.c
  have fy := A3.fr
  go_wp2_with fail
  have hE := A3.set2 rows k
  obtain ⟨z0, z1⟩ := hE.c
  have hk9 : Keeps (fun b => b = w.heap.size + 1 + 1) w3 ((w3.setCell ⟨w.heap.size + 1 + 1, 0, none⟩ (.int .i64 rows)).setCell ⟨w.heap.size + 1 + 1, 1, none⟩ (.int .i64 k)) :=
    ((Keeps.refl (fun b => b = w.heap.size + 1 + 1) w3).setCell (p := ⟨w.heap.size + 1 + 1, 0, none⟩) (fun _ => rfl) _).setCell (p := ⟨w.heap.size + 1 + 1, 1, none⟩) (fun _ => rfl) _
  exact bodyPost_ret_by (v := .agg #[.int .i64 rows, .int .i64 k]) (by simp [results, Tryd.results80, go_sem, z0, z1]) rfl ⟨rfl, ((Keeps.of_sees (F := fun _ => False) HS.out).trans' hk9 (fun b hb e => by have e : b = w.heap.size + 1 + 1 := e; omega)).sees_end (fun _ _ h => h)⟩
theorem refScroll32_any (rows n k most first : Int) (back : Nat) (a : Option Addr) (l c : Nat) (w : World) (hb : back ≤ l) (hl : l ≤ 1048576) (hk : clampV (back + max (min n 1048576) (-1048576)) l = k) :
    Calls Tryd.prog 80 #[.agg #[.int .i64 rows, .int .i64 back], .int .i64 n, .agg #[.int .i64 most, .int .i64 first, .slice a l c]] w fun e w' => e = .returned (.agg #[.int .i64 rows, .int .i64 k]) ∧ Sees w w' := by
  by_cases h1 : (l : Int) < n
  · exact refScroll32_hi rows n k most first back a l c w hb hl (by unfold clampV at *; omega) h1
  · by_cases h2 : n < -(back : Int)
    · exact refScroll32_lo rows n k most first back a l c w hb hl (by unfold clampV at *; omega) h2
    · exact refScroll32_in rows n k most first back a l c w hb hl (by unfold clampV at *; omega) (by omega) (by omega)
set_option maxHeartbeats 2000000 in
theorem refResize32 (rows r2 back k most first : Int) (a : Option Addr) (l c : Nat) (w : World) (hk : clampV back l = k) :
    Calls Tryd.prog 82 #[.agg #[.int .i64 rows, .int .i64 back], .int .i64 r2, .agg #[.int .i64 most, .int .i64 first, .slice a l c]] w fun e w' => e = .returned (.agg #[.int .i64 r2, .int .i64 k]) ∧ Sees w w' := by
  have hw := Sees.refl w
  have Hk := Lib.hid hk
  clear hk
  go_enter Tryd.func82, Tryd.ntmps82
  go_wp2_with fail
  refine calls_world (fun X hX => ?_)
  have hsX : Sees w X := by subst hX; exact ((hw.alloc _).alloc _).alloc _
  have A2 : RvAt X (w.heap.size + 1 + 1) 0 0 := by subst hX; exact RvAt.new (by simp)
  clear hX
  refine (refClamp32 r2 back k most first a l c X Hk.out).mono ?_
  rintro e w3 ⟨rfl, hs3⟩
  have A3 := A2.sees hs3
  have HS := Lib.hid (hsX.trans hs3)
  clear A2 hsX hs3
  obtain ⟨y0, y1⟩ := A3.c
  have fy := A3.fr
  go_wp2_with fail
  have hE := A3.set2 r2 k
  obtain ⟨z0, z1⟩ := hE.c
  have hk9 : Keeps (fun b => b = w.heap.size + 1 + 1) w3 ((w3.setCell ⟨w.heap.size + 1 + 1, 0, none⟩ (.int .i64 r2)).setCell ⟨w.heap.size + 1 + 1, 1, none⟩ (.int .i64 k)) :=
    ((Keeps.refl (fun b => b = w.heap.size + 1 + 1) w3).setCell (p := ⟨w.heap.size + 1 + 1, 0, none⟩) (fun _ => rfl) _).setCell (p := ⟨w.heap.size + 1 + 1, 1, none⟩) (fun _ => rfl) _
  exact bodyPost_ret_by (v := .agg #[.int .i64 r2, .int .i64 k]) (by simp [results, Tryd.results82, go_sem, z0, z1]) rfl ⟨rfl, ((Keeps.of_sees (F := fun _ => False) HS.out).trans' hk9 (fun b hb e => by have e : b = w.heap.size + 1 + 1 := e; omega)).sees_end (fun _ _ h => h)⟩
set_option maxHeartbeats 2000000 in
theorem refPushed32_pos (rows n k most first : Int) (back : Nat) (a : Option Addr) (l c : Nat) (w : World) (hb : back ≤ 1048576) (hl : l ≤ 1048576) (hn : 0 ≤ n) (z : Int) (hz : z = min (l : Int) (back + min n l)) (hk : clampV z l = k) (h0 : 0 < back) :
    Calls Tryd.prog 81 #[.agg #[.int .i64 rows, .int .i64 back], .int .i64 n, .agg #[.int .i64 most, .int .i64 first, .slice a l c]] w fun e w' => e = .returned (.agg #[.int .i64 rows, .int .i64 k]) ∧ Sees w w' := by
  have hw := Sees.refl w
  have d1 : decide ((back : Int) > 0) = true := decide_eq_true (by omega)
  obtain ⟨y, hy⟩ : ∃ y : Int, y = min n l := ⟨_, rfl⟩
  have h1 : (if (l : Int) < n then (l : Int) else n) = y := by split <;> omega
  have h2 : (if n < (l : Int) then n else (l : Int)) = y := by split <;> omega
  have g1 : IntKind.i64.wrap ((back : Int) + y) = (back : Int) + y := IntWalk.i64_in _ (by omega)
  have h3 : (if (back : Int) + y < (l : Int) then (back : Int) + y else (l : Int)) = z := by split <;> omega
  have h4 : (if (l : Int) < (back : Int) + y then (l : Int) else (back : Int) + y) = z := by split <;> omega
  clear hy
  have Hk := Lib.hid hk
  clear hk hz
  go_enter Tryd.func81, Tryd.ntmps81
  go_wp2_with fail
  refine calls_world (fun X hX => ?_)
  have hsX : Sees w X := by subst hX; exact ((hw.alloc _).alloc _).alloc _
  have A2 : RvAt X (w.heap.size + 1 + 1) 0 0 := by subst hX; exact RvAt.new (by simp)
  clear hX
  refine (refClamp32 rows z k most first a l c X Hk.out).mono ?_
  rintro e w3 ⟨rfl, hs3⟩
  have A3 := A2.sees hs3
  have HS := Lib.hid (hsX.trans hs3)
  clear A2 hsX hs3
  obtain ⟨y0, y1⟩ := A3.c
  have fy := A3.fr
  go_wp2_with fail
  have hE := A3.set2 rows k
  obtain ⟨z0, z1⟩ := hE.c
  have hk9 : Keeps (fun b => b = w.heap.size + 1 + 1) w3 ((w3.setCell ⟨w.heap.size + 1 + 1, 0, none⟩ (.int .i64 rows)).setCell ⟨w.heap.size + 1 + 1, 1, none⟩ (.int .i64 k)) :=
    ((Keeps.refl (fun b => b = w.heap.size + 1 + 1) w3).setCell (p := ⟨w.heap.size + 1 + 1, 0, none⟩) (fun _ => rfl) _).setCell (p := ⟨w.heap.size + 1 + 1, 1, none⟩) (fun _ => rfl) _
  exact bodyPost_ret_by (v := .agg #[.int .i64 rows, .int .i64 k]) (by simp [results, Tryd.results81, go_sem, z0, z1]) rfl ⟨rfl, ((Keeps.of_sees (F := fun _ => False) HS.out).trans' hk9 (fun b hb e => by have e : b = w.heap.size + 1 + 1 := e; omega)).sees_end (fun _ _ h => h)⟩
set_option maxHeartbeats 2000000 in
theorem refPushed32_zero (rows n k most first : Int) (a : Option Addr) (l c : Nat) (w : World) (hk : clampV 0 l = k) :
    Calls Tryd.prog 81 #[.agg #[.int .i64 rows, .int .i64 0], .int .i64 n, .agg #[.int .i64 most, .int .i64 first, .slice a l c]] w fun e w' => e = .returned (.agg #[.int .i64 rows, .int .i64 k]) ∧ Sees w w' := by
  have hw := Sees.refl w
  have Hk := Lib.hid hk
  clear hk
  go_enter Tryd.func81, Tryd.ntmps81
  go_wp2_with fail
  refine calls_world (fun X hX => ?_)
  have hsX : Sees w X := by subst hX; exact ((hw.alloc _).alloc _).alloc _
  have A2 : RvAt X (w.heap.size + 1 + 1) 0 0 := by subst hX; exact RvAt.new (by simp)
  clear hX
  refine (refClamp32 rows 0 k most first a l c X Hk.out).mono ?_
  rintro e w3 ⟨rfl, hs3⟩
  have A3 := A2.sees hs3
  have HS := Lib.hid (hsX.trans hs3)
  clear A2 hsX hs3
  obtain ⟨y0, y1⟩ := A3.c
  have fy := A3.fr
  go_wp2_with fail
  have hE := A3.set2 rows k
  obtain ⟨z0, z1⟩ := hE.c
  have hk9 : Keeps (fun b => b = w.heap.size + 1 + 1) w3 ((w3.setCell ⟨w.heap.size + 1 + 1, 0, none⟩ (.int .i64 rows)).setCell ⟨w.heap.size + 1 + 1, 1, none⟩ (.int .i64 k)) :=
    ((Keeps.refl (fun b => b = w.heap.size + 1 + 1) w3).setCell (p := ⟨w.heap.size + 1 + 1, 0, none⟩) (fun _ => rfl) _).setCell (p := ⟨w.heap.size + 1 + 1, 1, none⟩) (fun _ => rfl) _
  exact bodyPost_ret_by (v := .agg #[.int .i64 rows, .int .i64 k]) (by simp [results, Tryd.results81, go_sem, z0, z1]) rfl ⟨rfl, ((Keeps.of_sees (F := fun _ => False) HS.out).trans' hk9 (fun b hb e => by have e : b = w.heap.size + 1 + 1 := e; omega)).sees_end (fun _ _ h => h)⟩
theorem refPushed32_any (rows n k most first : Int) (back : Nat) (a : Option Addr) (l c : Nat) (w : World) (hb : back ≤ 1048576) (hl : l ≤ 1048576) (hn : 0 ≤ n) (hk : clampV (if 0 < back then back + min n 1048576 else 0) l = k) :
    Calls Tryd.prog 81 #[.agg #[.int .i64 rows, .int .i64 back], .int .i64 n, .agg #[.int .i64 most, .int .i64 first, .slice a l c]] w fun e w' => e = .returned (.agg #[.int .i64 rows, .int .i64 k]) ∧ Sees w w' := by
  by_cases h0 : 0 < back
  · rw [if_pos h0] at hk
    exact refPushed32_pos rows n k most first back a l c w hb hl hn _ rfl (by unfold clampV at *; omega) h0
  · rw [if_neg h0] at hk
    obtain rfl : back = 0 := by omega
    exact refPushed32_zero rows n k most first a l c w hk
end Go.Proofs.YtpicffaghoggdaaDoor

namespace Go.Proofs.YtpicffaghoggdaaDoor
set_option linter.unusedVariables false
set_option linter.unusedSimpArgs false
open Go.RowKit

theorem exec_midL {P : Program} {ρ : Operand → Value} {o : Oper} {t : TypeId} {x lo hi : Operand} {a b c v : Value} {W W' : World} (ho : o.op = .slice t x (some lo) (some hi) none) (hx : ρ x = a) (hlo : ρ lo = b) (hhi : ρ hi = c)
    (h : (Instr.sliceAt t a (some b) (some c) none).run P W = .ok v W') : (execOp ρ o).run P W = .ok (.value v) W' := by
  unfold execOp
  rw [ho]
  simp only [hx, hlo, hhi, Option.map_some, Option.map_none, Sem.run_bind, h, Result.andThen_ok]
  rfl
theorem lns_mid (a : Option Addr) (n c k q : Nat) (hk : k ≤ q) (hq : q ≤ n) (hc : n ≤ c) (hs : ∀ x, a = some x → x.spot = none) (ha : a = none → n = 0) : ∃ a', (∀ W, (Instr.sliceAt 22 (.slice a n c) (some (.int .i64 (k : Int))) (some (.int .i64 (q : Int))) none).run Tryd.prog W = .ok (.slice a' (q - k) (c - k)) W) ∧
    ∀ (F : Nat → Prop) (W : World) (xs : List Ln), lnEl.Rd F W (.slice a n c) xs → lnEl.Rd F W (.slice a' (q - k) (c - k)) ((xs.take q).drop k) := by
  have hqc : q ≤ c := by omega
  have hck : ¬ c < q := by omega
  have hqk : ¬ q < k := by omega
  cases a with
  | none =>
    obtain rfl := ha rfl
    obtain rfl : q = 0 := by omega
    obtain rfl : k = 0 := by omega
    exact ⟨none, fun W => by go_simp, fun F W xs h => by
      have hl := h.len
      rw [List.take_zero, List.drop_nil]
      exact El.Rd.empty _ _ _ _⟩
  | some x =>
    obtain ⟨b, o, sp⟩ := x
    have := hs _ rfl
    simp only at this
    subst this
    by_cases h : c = k
    · subst h
      obtain rfl : q = c := by omega
      exact ⟨some ⟨b, o, none⟩, fun W => by go_simp, fun F W xs hr => by
        have hl := hr.len
        rw [List.drop_of_length_le (by rw [List.length_take]; omega), Nat.sub_self]
        exact El.Rd.empty _ _ _ _⟩
    · exact ⟨some ⟨b, o + k * 2, none⟩, fun W => by go_simp, fun F W xs hr => by
        have hl := hr.len
        have h2 := hr.take q (by omega) c (by omega)
        exact h2.drop k (by rw [List.length_take]; omega) (c - k) (by omega)⟩
theorem cut_mid {G : Nat → Prop} {w : World} {a : Option Addr} {n c : Nat} {ls : List Ln} (hv : lnEl.Rd G w (.slice a n c) ls) (k q : Nat) (hk : k ≤ q) (hq : q ≤ n) :
    ∃ a2 c2, (∀ W, (Instr.sliceAt 22 (.slice a n c) (some (.int .i64 (k : Int))) (some (.int .i64 (q : Int))) none).run Tryd.prog W = .ok (.slice a2 (q - k) c2) W) ∧ (∀ (F : Nat → Prop) (W : World), lnEl.Rd F W (.slice a n c) ls → lnEl.Rd F W (.slice a2 (q - k) c2) ((ls.take q).drop k)) := by
  have hnl := hv.len
  have hvx : n ≤ c := by obtain ⟨_, _, e, h, _⟩ := hv; cases e; omega
  by_cases hls : ls = []
  · subst hls
    obtain rfl : n = 0 := hnl
    obtain rfl : q = 0 := by omega
    obtain rfl : k = 0 := by omega
    have hc : ¬ ((c : Int) < 0) := by omega
    refine ⟨a, c, fun W => ?_, fun F W _ => El.Rd.empty _ _ _ _⟩
    cases a <;> go_simp
  · obtain ⟨hsp, hne⟩ := rd_spot hv hls
    obtain ⟨a', h1, h2⟩ := lns_mid a n c k q hk hq hvx hsp (fun e => absurd e hne)
    exact ⟨a', _, h1, fun F W h => h2 F W ls h⟩
set_option maxRecDepth 100000 in
set_option maxHeartbeats 4000000 in
theorem refLines32 (G : Nat → Prop) (rows back : Nat) (most first : Int) (v u : Value) (ls ss : List Ln) (w : World) (hb : back ≤ ls.length) (hr1 : 1 ≤ rows) (hr2 : rows ≤ 1000) (hs : ss.length = rows) (hl : ls.length ≤ 1000000) (hf : 0 ≤ first ∧ first ≤ 1000000000) (hv : lnEl.Rd G w v ls) (hu : lnEl.Rd G w u ss) (z : Int) (hz : first + ls.length - back = z) :
    Calls Tryd.prog 55 #[.agg #[.int .i64 rows, .int .i64 back], .agg #[.int .i64 most, .int .i64 first, v], u] w fun e w' => (∃ v', e = .returned (.tuple #[v', .int .i64 z]) ∧ lnEl.Rd (fun _ => True) w' v' ((ls.drop (ls.length - back) ++ ss).take rows)) ∧ Sees w w' := by
  have Hv := Lib.hid (hv.mono (G := fun b => G b ∧ b < w.heap.size) (fun b hb h => ⟨h, hb⟩))
  have Hu := Lib.hid (hu.mono (G := fun b => G b ∧ b < w.heap.size) (fun b hb h => ⟨h, hb⟩))
  obtain ⟨a, c, rfl, hvx⟩ := hv.slice'
  obtain ⟨ua, uc, rfl, hux⟩ := hu.slice'
  obtain ⟨n, hnl⟩ : ∃ n, n = ls.length := ⟨_, rfl⟩
  have Hs := Lib.hid hs
  rw [← hnl] at Hv hl hb hz ⊢
  rw [hs] at Hu ⊢
  have Hn := Lib.hid hnl
  have Hz := Lib.hid hz
  obtain ⟨N, hN⟩ : ∃ N, N = n + rows := ⟨_, rfl⟩
  have HN := Lib.hid hN
  have hk : clampV (back : Int) n = (back : Int) := by unfold clampV; omega
  have Hk := Lib.hid hk
  clear hv hu hvx hux hnl hs hN hk hz
  go_enter Tryd.func55, Tryd.ntmps55
  go_wp2_with fail
  refine calls_world (fun X1 hX1 => ?_)
  have hsX : Sees w X1 := by subst hX1; exact ((Sees.refl w).alloc _).alloc _
  have A0 : RvAt X1 w.heap.size rows back := by subst hX1; exact (RvAt.new rfl).alloc _
  have A1 : HrAt X1 (w.heap.size + 1) most first (.slice a n c) := by subst hX1; exact HrAt.new (by simp)
  clear hX1
  refine (refClamp32 rows back back most first a n c X1 Hk.out).mono ?_
  rintro e w3 ⟨rfl, hs3⟩
  have A3 := A0.sees hs3
  have B3 := A1.sees hs3
  have hk9 : Keeps (fun b => b = w.heap.size) w3 ((w3.setCell ⟨w.heap.size, 0, none⟩ (.int .i64 rows)).setCell ⟨w.heap.size, 1, none⟩ (.int .i64 back)) := ((Keeps.refl (fun b => b = w.heap.size) w3).setCell (p := ⟨w.heap.size, 0, none⟩) (fun _ => rfl) _).setCell (p := ⟨w.heap.size, 1, none⟩) (fun _ => rfl) _
  have HA := Lib.hid (A3.set2 rows back)
  have HBX := Lib.hid (B3.keeps hk9 (fun e => by have e : w.heap.size + 1 = w.heap.size := e; omega))
  have HVX := Lib.hid ((Hv.out.sees (hsX.trans hs3)).keeps hk9 (fun b hb e => by have e : b = w.heap.size := e; have := hb.2; omega))
  have HUX := Lib.hid ((Hu.out.sees (hsX.trans hs3)).keeps hk9 (fun b hb e => by have e : b = w.heap.size := e; have := hb.2; omega))
  have HSX : Hid (Sees w ((w3.setCell ⟨w.heap.size, 0, none⟩ (.int .i64 rows)).setCell ⟨w.heap.size, 1, none⟩ (.int .i64 back))) := Lib.hid (((Keeps.of_sees (F := fun _ => False) (hsX.trans hs3)).trans' hk9 (fun b hb e => by have e : b = w.heap.size := e; omega)).sees_end (fun _ _ h => h))
  have hzX : (((w3.setCell ⟨w.heap.size, 0, none⟩ (.int .i64 rows)).setCell ⟨w.heap.size, 1, none⟩ (.int .i64 back))).heap.size = w3.heap.size := by simp
  have HzX := Lib.hid hzX
  have HB2 := Lib.hid (show w.heap.size + 2 ≤ w3.heap.size from by have := B3.lt; omega)
  obtain ⟨y0, y1⟩ := A3.c
  have fy := A3.fr
  obtain ⟨x0, x1⟩ := HA.out.c
  obtain ⟨b0, b1, b2⟩ := HBX.out.c
  clear A0 A1 A3 B3 hk9 hsX hs3 hzX Hv Hu
  go_wp2_with (at_builtin; first
    | (refine El.wpList_append_row (G := fun b => G b ∧ b < w.heap.size) (base := w3.heap.size) typedLn rfl (.const (.slice none 0 0)) (.tmp 14) rfl rfl (El.Row.nil _ _ _) (.slice a n c) rfl ls HVX.out (fun _ _ e => by cases e) (by rw [← Hn.out]; simp; omega) (by rw [HzX.out]; exact Nat.le_refl _) ?_; intro v1 W1 hrow1 hk1 _; obtain ⟨a1, c1, hv1, _⟩ := hrow1.slice; subst hv1; have HR1 := Lib.hid hrow1; have HS1 := Lib.hid (hk1.sees_end (fun b hb e => by cases e)); clear hrow1 hk1)
    | (refine El.wpList_append_row (G := fun b => G b ∧ b < w.heap.size) (base := w3.heap.size) typedLn rfl (.tmp 15) (.tmp 16) rfl rfl HR1.out (.slice ua rows uc) rfl ss (HUX.out.sees HS1.out) (fun b hb e => by have := (El.Row.base_le HR1.out e).1; have := hb.2; have := HB2.out; omega) (by rw [List.nil_append, ← Hn.out, Hs.out]; omega) (by have := HS1.out.size; have := HzX.out; omega) ?_; intro v2 W2 hrow2 hk2 _; obtain ⟨a2, c2, hv2, _⟩ := hrow2.slice; have hNN : ([] ++ ls ++ ss).length = N := (by have h1 := HN.out; have h2 := Hn.out; have h3 := Hs.out; simp; omega); rw [hNN] at hv2; subst hv2; have HR2 := Lib.hid hrow2; have HS2 := Lib.hid (((Keeps.of_sees (F := fun _ => False) HS1.out).trans' hk2 (fun b hb e => by have h1 := (El.Row.base_le HR1.out e).1; have := HzX.out; omega)).sees_end (fun _ _ h => h)); clear x0 x1 b0 b1 b2 y0 y1 fy; (obtain ⟨x0, x1⟩ := (HA.out.sees HS2.out).c); (obtain ⟨b0, b1, b2⟩ := (HBX.out.sees HS2.out).c); have g1 : IntKind.i64.wrap ((n : Int) - (back : Int)) = ((n - back : Nat) : Int) := (by rw [IntWalk.i64_in _ (by omega)]; omega); clear hrow2 hk2))
  clear x0 x1 b0 b1 b2 g1
  obtain ⟨m, hm⟩ : ∃ m, m = n - back := ⟨_, rfl⟩
  rw [← hm]
  have hmb : m ≤ 1000000 := by omega
  have Hm := Lib.hid hm
  clear hm
  obtain ⟨q, hq⟩ : ∃ q, q = m + rows := ⟨_, rfl⟩
  have g2 : IntKind.i64.wrap ((m : Int) + (rows : Int)) = (q : Int) := by rw [IntWalk.i64_in _ (by omega)]; omega
  have g3 : IntKind.i64.wrap (first + (m : Int)) = z := by rw [IntWalk.i64_in _ (by omega)]; have := Hz.out; have := Hm.out; omega
  have Hq := Lib.hid hq
  clear hq
  have hR : lnEl.Rd (fun _ => True) W2 (.slice a2 N c2) (ls ++ ss) := by
    have := HR2.out.rd (F := fun _ => True) (fun _ _ _ => trivial)
    simpa using this
  obtain ⟨a9, c9, h9, h9r⟩ := cut_mid hR m q (by have := Hq.out; omega) (by have := Hq.out; have := HN.out; have := Hm.out; omega)
  have H9 := Lib.hid h9
  have R9 := Lib.hid (h9r _ _ hR)
  have SX := Lib.hid (HSX.out.trans HS2.out)
  have A9 := Lib.hid (HA.out.sees HS2.out)
  have B9 := Lib.hid (HBX.out.sees HS2.out)
  clear hR h9 h9r HR2 HR1 HS1 HS2 HA HBX HVX HUX HSX HzX HB2
  refine wpH_go (fun _ => False) 13 (by kernel_rfl) (by kernel_rfl) (by rfl) (fun hB W4 hs4 => ?_)
  have SX := Lib.hid (SX.out.trans hs4)
  have A9 := Lib.hid (A9.out.sees hs4)
  have B9 := Lib.hid (B9.out.sees hs4)
  have R9 := Lib.hid (R9.out.sees hs4)
  clear hs4
  have hS0 : Keeps (fun _ => False) W4 W4 := Keeps.refl _ W4
  refine wpH_take (i := 0) (v := .slice a2 N c2) hB (by rfl) (by kernel_rfl) (fun _ _ _ _ _ h => h) (by rfl) hS0 (fun W hI => by clear hI; go_simp) ?_; (try simp only [Act.put, List.setIfInBounds_toArray, List.set_cons_zero, List.set_cons_succ])
  refine wpH_take (i := 1) (v := .int .i64 m) hB (by rfl) (by kernel_rfl) (fun _ _ _ _ _ h => h) (by rfl) hS0 (fun W hI => by clear hI; go_simp) ?_; (try simp only [Act.put, List.setIfInBounds_toArray, List.set_cons_zero, List.set_cons_succ])
  refine wpH_take (i := 2) (v := .int .i64 m) hB (by rfl) (by kernel_rfl) (fun _ _ _ _ _ h => h) (by rfl) hS0 (fun W hI => by clear hI; go_simp) ?_; (try simp only [Act.put, List.setIfInBounds_toArray, List.set_cons_zero, List.set_cons_succ])
  refine wpH_take (i := 3) (v := .pointer (some ⟨w.heap.size, 0, none⟩)) hB (by rfl) (by kernel_rfl) (fun _ _ _ _ _ h => h) (by rfl) hS0 (fun W hI => by clear hI; go_simp) ?_; (try simp only [Act.put, List.setIfInBounds_toArray, List.set_cons_zero, List.set_cons_succ])
  refine wpH_take (i := 4) (v := .int .i64 rows) hB (by rfl) (by kernel_rfl) (fun _ _ _ _ _ h => h) (by rfl) hS0 (fun W hI => by have q := (A9.out.keeps hI (fun h => h)).c; obtain ⟨q0, q1⟩ := q; go_simp) ?_; (try simp only [Act.put, List.setIfInBounds_toArray, List.set_cons_zero, List.set_cons_succ])
  refine wpH_take (i := 5) (v := .int .i64 q) hB (by rfl) (by kernel_rfl) (fun _ _ _ _ _ h => h) (by rfl) hS0 (fun W hI => by clear hI; go_simp) ?_; (try simp only [Act.put, List.setIfInBounds_toArray, List.set_cons_zero, List.set_cons_succ])
  refine wpH_take (i := 6) (v := .slice a9 (q - m) c9) hB (by rfl) (by kernel_rfl) (fun _ _ _ _ _ h => h) (by rfl) hS0 (fun W hI => exec_midL (a := .slice a2 N c2) (b := .int .i64 m) (c := .int .i64 q) rfl (by go_simp) (by go_simp) (by go_simp) (H9.out W)) ?_; (try simp only [Act.put, List.setIfInBounds_toArray, List.set_cons_zero, List.set_cons_succ])
  refine wpH_take (i := 7) (v := .pointer (some ⟨w.heap.size + 1, 1, none⟩)) hB (by rfl) (by kernel_rfl) (fun _ _ _ _ _ h => h) (by rfl) hS0 (fun W hI => by clear hI; go_simp) ?_; (try simp only [Act.put, List.setIfInBounds_toArray, List.set_cons_zero, List.set_cons_succ])
  refine wpH_take (i := 8) (v := .int .i64 first) hB (by rfl) (by kernel_rfl) (fun _ _ _ _ _ h => h) (by rfl) hS0 (fun W hI => by have q := (B9.out.keeps hI (fun h => h)).c; obtain ⟨q0, q1, q2⟩ := q; go_simp) ?_; (try simp only [Act.put, List.setIfInBounds_toArray, List.set_cons_zero, List.set_cons_succ])
  refine wpH_take (i := 9) (v := .int .i64 m) hB (by rfl) (by kernel_rfl) (fun _ _ _ _ _ h => h) (by rfl) hS0 (fun W hI => by clear hI; go_simp) ?_; (try simp only [Act.put, List.setIfInBounds_toArray, List.set_cons_zero, List.set_cons_succ])
  refine wpH_take (i := 10) (v := .int .i64 z) hB (by rfl) (by kernel_rfl) (fun _ _ _ _ _ h => h) (by rfl) hS0 (fun W hI => by clear hI; go_simp) ?_; (try simp only [Act.put, List.setIfInBounds_toArray, List.set_cons_zero, List.set_cons_succ])
  refine wpH_take (i := 11) (v := .slice a9 (q - m) c9) hB (by rfl) (by kernel_rfl) (fun _ _ _ _ _ h => h) (by rfl) hS0 (fun W hI => by clear hI; go_simp) ?_; (try simp only [Act.put, List.setIfInBounds_toArray, List.set_cons_zero, List.set_cons_succ])
  refine wpH_take (i := 12) (v := .int .i64 z) hB (by rfl) (by kernel_rfl) (fun _ _ _ _ _ h => h) (by rfl) hS0 (fun W hI => by clear hI; go_simp) ?_; (try simp only [Act.put, List.setIfInBounds_toArray, List.set_cons_zero, List.set_cons_succ])
  refine wpH_end (by kernel_rfl) ?_
  clear hB
  go_wp2
  go_ret2
  refine ⟨⟨_, rfl, ?_⟩, SX.out⟩
  have e : ((ls ++ ss).take q).drop m = (ls.drop m ++ ss).take rows := by
    rw [List.drop_take, List.drop_append_of_le_length (by rw [← Hn.out]; have := Hm.out; omega), Hq.out, Nat.add_sub_cancel_left]
  have e2 : q - m = ((ls.drop m ++ ss).take rows).length := by
    rw [List.length_take, List.length_append, Hs.out, Hq.out]; omega
  have := R9.out
  rw [e] at this
  rw [← Hm.out]
  exact this
end Go.Proofs.YtpicffaghoggdaaDoor

namespace Go.Proofs.YtpicffaghoggdaaDoor
set_option linter.unusedVariables false
set_option linter.unusedSimpArgs false
open Go.RowKit

section
variable {P : Program} {l : List Oper} {Q : Exit → Act → World → Prop} {F : Nat → Prop} {w0 w : World} {a : Act} {f i : Nat} {D : List Nat}
theorem wpH_takeG {v : Value} {oi : Oper} (hB : Hid (rgB l = true)) (hi : l[i]? = some oi) (hb : takeB l D i = true) (hQ : ∀ c a t v w, Q (.panic c) (Act.put a (some t) v) w → Q (.panic c) a w)
    (hg : Region.wanted oi (yielded l.toArray a.tmps) = true) (hS : Keeps F w0 w) (hv : ∀ W, Keeps F w0 W → (execOp a.eval oi).run P W = .ok (.value v) W) (h : wpH P l Q F w0 f (i :: D) (a.put oi.dst v) w) : wpH P l Q F w0 (f + 1) D a w := by
  obtain ⟨hsel, _, _⟩ := rgB_spec hB.out
  unfold takeB at hb
  rw [hi] at hb
  simp only [Bool.and_eq_true, Bool.not_eq_true'] at hb
  obtain ⟨⟨h0, h1⟩, h2⟩ := hb
  rw [List.all_eq_true] at h2
  refine wpAnyH_first (i := i) (oi := oi) (v := v) (by simpa using hi) (Region.noSelect_spec hsel) (fun c a w hh => by cases hd : oi.dst with | none => rw [hd] at hh; exact hh | some t => rw [hd] at hh; exact hQ c a t _ w hh) _ _ _ _ ?_ (ready_dn hi h0 h1) (.inl ⟨hg, hv⟩) hS (by rw [dn_set]; exact h)
  intro j oj hj hji hun hno
  have hj : l[j]? = some oj := by simpa using hj
  have hjl := (List.getElem?_eq_some_iff.1 hj).1
  rw [dn_getD hjl] at hun
  have := h2 j (List.mem_range.2 hjl)
  rw [hj, hun] at this
  simp only [Bool.or_eq_true, beq_iff_eq, Bool.false_eq_true, or_false] at this
  rcases this with h | h | h
  · exact absurd h hji
  · obtain ⟨e, he, hb⟩ := Array.any_eq_true'.1 h
    simp only [Bool.and_eq_true, beq_iff_eq] at hb
    exact absurd hb.2 (hno e he hb.1)
  · exact h
theorem wpOp_enterG {K : Act → World → Prop} {o : Oper} {fn : FuncId} {args : Array Value} (ho : l[i]? = some o) (hg : Region.wanted o (yielded l.toArray a.tmps) = true) (hr : (execOp a.eval o).run P w = .ok (.enter fn args) w) (h : Calls P fn args w (fun e w' => ∃ v, e = .returned v ∧ K (a.put o.dst v) w')) : wpOp P l.toArray Q i K a w := by
  unfold wpOp
  rw [show l.toArray[i]? = some o by simpa using ho]
  simp only []
  rw [if_pos hg]
  refine .inl ?_
  unfold Oper.wp
  rw [hr]
  simp only [Oper.upon]
  exact Calls.mono h (fun e w'' ⟨v, he, hk⟩ => by subst he; exact hk)
end
/-- A call of a view in memory. -/
def AcAt32 (W : World) (b : Nat) (what num : Int) : Prop := W.heap[b]? = some (.cells #[.int .i64 what, .int .i64 num] 88 (0, 0))
namespace AcAt32
variable {W W' : World} {b : Nat} {p g : Int}
theorem sees (h : AcAt32 W b p g) (hs : Sees W W') : AcAt32 W' b p g := by
  unfold AcAt32; rw [hs.block _ (Array.getElem?_eq_some_iff.1 h).1]; exact h
theorem keeps {F : Nat → Prop} (h : AcAt32 W b p g) (hk : Keeps F W W') (hF : ¬ F b) : AcAt32 W' b p g := by
  unfold AcAt32; rw [hk.block _ (Array.getElem?_eq_some_iff.1 h).1 hF]; exact h
theorem new {n : Nat} (hn : n = W.heap.size) : AcAt32 (W.alloc (.cells #[.int .i64 p, .int .i64 g] 88)) n p g := by subst hn; exact heap_alloc_new W _
theorem alloc (h : AcAt32 W b p g) (o : Obj) : AcAt32 (W.alloc o) b p g := h.sees ((Sees.refl W).alloc o)
theorem c (h : AcAt32 W b p g) : W.cell? ⟨b, 0, none⟩ = some (.int .i64 p) ∧ W.cell? ⟨b, 1, none⟩ = some (.int .i64 g) := by
  rw [cell_of_row _ _ _ _ _ _ h, cell_of_row _ _ _ _ _ _ h]; exact ⟨rfl, rfl⟩
end AcAt32
/-- What may change: what is nobody else's. -/
def Chg (w1 : World) (Z : Nat → Prop) : Nat → Prop := fun c => ¬ Z c ∧ w1.heap.size ≤ c
/-- A view and a history side by side, and blocks that are others'. -/
def VpSt (w1 W : World) (Z : Nat → Prop) (vb hb rows back : Nat) (most first : Int) (ls : List Ln) : Prop :=
  ∃ F : Nat → Prop, HiF w1 F W hb most first ls ∧ VwAt W vb rows back ∧ (∀ c, F c → c ≠ vb ∧ c < W.heap.size ∧ ¬ Z c) ∧ ¬ Z vb ∧ (∀ c, Z c → c < W.heap.size) ∧ w1.heap.size ≤ vb ∧ 1 ≤ rows ∧ rows ≤ 1000 ∧ back ≤ 1048576
section
variable {w1 W W' : World} {Z : Nat → Prop} {vb hb rows back : Nat} {most first : Int} {ls ss : List Ln}
namespace VpSt
theorem see (h : VpSt w1 W Z vb hb rows back most first ls) : Sees w1 W := by
  obtain ⟨F, h1, _⟩ := h
  exact h1.see
theorem vlt (h : VpSt w1 W Z vb hb rows back most first ls) : vb < W.heap.size := by
  obtain ⟨F, h1, h2, _⟩ := h
  exact h2.lt
theorem facts (h : VpSt w1 W Z vb hb rows back most first ls) : 0 ≤ most ∧ most ≤ 1048576 ∧ 0 ≤ first ∧ first + ls.length ≤ 1000000000 ∧ (ls.length : Int) ≤ most := by
  obtain ⟨F, h1, _⟩ := h
  exact h1.facts
theorem zlt (h : VpSt w1 W Z vb hb rows back most first ls) : ∀ c, Z c → c < W.heap.size := by
  obtain ⟨F, h1, h2, h3, h4, h5, _⟩ := h
  exact h5
theorem sees (h : VpSt w1 W Z vb hb rows back most first ls) (hs : Sees W W') : VpSt w1 W' Z vb hb rows back most first ls := by
  obtain ⟨F, h1, h2, h3, h4, h5, h6⟩ := h
  exact ⟨F, h1.sees hs, h2.sees hs, fun c hc => ⟨(h3 c hc).1, Nat.lt_of_lt_of_le (h3 c hc).2.1 hs.size, (h3 c hc).2.2⟩, h4, fun c hc => Nat.lt_of_lt_of_le (h5 c hc) hs.size, h6⟩
theorem more (h : VpSt w1 W Z vb hb rows back most first ls) (hs : Sees W W') : VpSt w1 W' (fun c => Z c ∨ (W.heap.size ≤ c ∧ c < W'.heap.size)) vb hb rows back most first ls := by
  obtain ⟨F, h1, h2, h3, h4, h5, h6⟩ := h
  exact ⟨F, h1.sees hs, h2.sees hs, fun c hc => ⟨(h3 c hc).1, Nat.lt_of_lt_of_le (h3 c hc).2.1 hs.size, fun e => by rcases e with e | e; exact (h3 c hc).2.2 e; have := (h3 c hc).2.1; omega⟩, fun e => by rcases e with e | e; exact h4 e; have := h2.lt; omega, fun c hc => by rcases hc with e | e; exact Nat.lt_of_lt_of_le (h5 c e) hs.size; exact e.2, h6⟩
/-- Others' blocks are changed. -/
theorem keeps {K : Nat → Prop} (h : VpSt w1 W Z vb hb rows back most first ls) (hk : Keeps K W W') (hK : ∀ c, K c → Z c ∧ w1.heap.size ≤ c) : VpSt w1 W' Z vb hb rows back most first ls := by
  obtain ⟨F, h1, h2, h3, h4, h5, h6⟩ := h
  exact ⟨F, h1.keeps hk (fun c hc e => (h3 c hc).2.2 (hK c e).1) (fun c e => (hK c e).2), h2.keeps hk (fun e => h4 (hK _ e).1), fun c hc => ⟨(h3 c hc).1, Nat.lt_of_lt_of_le (h3 c hc).2.1 hk.size, (h3 c hc).2.2⟩, h4, fun c hc => Nat.lt_of_lt_of_le (h5 c hc) hk.size, h6⟩
theorem turn (h : VpSt w1 W Z vb hb rows back most first ls) {rows' back' : Nat} (hv : VwAt W' vb rows' back') (hk : Keeps (fun c => c = vb) W W') (h1 : 1 ≤ rows') (h2 : rows' ≤ 1000) (h3 : back' ≤ 1048576) : VpSt w1 W' Z vb hb rows' back' most first ls ∧ Keeps (Chg w1 Z) W W' := by
  obtain ⟨F, g1, g2, g3, g4, g5, g6, _⟩ := h
  exact ⟨⟨F, g1.keeps hk (fun c hc => (g3 c hc).1) (fun c e => by have e : c = vb := e; rw [e]; exact g6), hv, fun c hc => ⟨(g3 c hc).1, Nat.lt_of_lt_of_le (g3 c hc).2.1 hk.size, (g3 c hc).2.2⟩, g4, fun c hc => Nat.lt_of_lt_of_le (g5 c hc) hk.size, g6, h1, h2, h3⟩, hk.mono (fun c _ e => by have e : c = vb := e; rw [e]; exact ⟨g4, g6⟩)⟩
theorem scroll (h : VpSt w1 W Z vb hb rows back most first ls) (n : Int) (k : Nat) (hk : clampV (back + max (min n 1048576) (-1048576)) ls.length = k) :
    Calls Tryd.prog 33 #[.pointer (some ⟨vb, 0, none⟩), .int .i64 n, .pointer (some ⟨hb, 0, none⟩)] W fun e w' => e = .returned (.int .i64 0) ∧ VpSt w1 w' Z vb hb rows k most first ls ∧ Keeps (Chg w1 Z) W w' := by
  have h' := h
  have fa := h.facts
  obtain ⟨F, g1, g2, g3, g4, g5, g6, g7, g8, g9⟩ := h
  refine (vscroll_at g1 vb rows back n k g2 (by omega) (by omega) (by omega) hk).mono ?_
  rintro e w' ⟨rfl, hv, hk'⟩
  exact ⟨rfl, h'.turn hv hk' g7 g8 (by unfold clampV at hk; omega)⟩
theorem bottom (h : VpSt w1 W Z vb hb rows back most first ls) :
    Calls Tryd.prog 46 #[.pointer (some ⟨vb, 0, none⟩)] W fun e w' => e = .returned (.int .i64 0) ∧ VpSt w1 w' Z vb hb rows 0 most first ls ∧ Keeps (Chg w1 Z) W w' := by
  have h' := h
  obtain ⟨F, g1, g2, g3, g4, g5, g6, g7, g8, g9⟩ := h
  refine (vbottom_at W vb rows back g2 (by omega)).mono ?_
  rintro e w' ⟨rfl, hv, hk'⟩
  exact ⟨rfl, h'.turn (back' := 0) hv hk' g7 g8 (by omega)⟩
theorem pushed (h : VpSt w1 W Z vb hb rows back most first ls) (n : Int) (hn : 0 ≤ n) (k : Nat) (hk : clampV (if 0 < back then back + min n 1048576 else 0) ls.length = k) :
    Calls Tryd.prog 44 #[.pointer (some ⟨vb, 0, none⟩), .int .i64 n, .pointer (some ⟨hb, 0, none⟩)] W fun e w' => e = .returned (.int .i64 0) ∧ VpSt w1 w' Z vb hb rows k most first ls ∧ Keeps (Chg w1 Z) W w' := by
  have h' := h
  have fa := h.facts
  obtain ⟨F, g1, g2, g3, g4, g5, g6, g7, g8, g9⟩ := h
  have hk9 : k ≤ 1048576 := by unfold clampV at hk; omega
  by_cases hb0 : 0 < back
  · rw [if_pos hb0] at hk
    refine (vpushed_pos g1 vb rows back n k g2 (by omega) (fun c hc => (g3 c hc).1) g6 hn (by omega) (by omega) _ rfl hk).mono ?_
    rintro e w' ⟨rfl, hv, hk'⟩
    exact ⟨rfl, h'.turn hv hk' g7 g8 hk9⟩
  · rw [if_neg hb0] at hk
    refine (vpushed_zero g1 vb rows back n k g2 (by omega) (fun c hc => (g3 c hc).1) g6 hn (by omega) (by omega) (by rw [show (back : Int) = 0 by omega]; exact hk)).mono ?_
    rintro e w' ⟨rfl, hv, hk'⟩
    exact ⟨rfl, h'.turn hv hk' g7 g8 hk9⟩
theorem pushed_arg (h : VpSt w1 W Z vb hb rows back most first ls) (n : Int) (hn : n < 0) :
    Calls Tryd.prog 44 #[.pointer (some ⟨vb, 0, none⟩), .int .i64 n, .pointer (some ⟨hb, 0, none⟩)] W fun e w' => e = .returned (.int .i64 2) ∧ VpSt w1 w' Z vb hb rows back most first ls ∧ Keeps (Chg w1 Z) W w' := by
  have h' := h
  obtain ⟨F, g1, g2, g3, g4, g5, g6, g7, g8, g9⟩ := h
  refine (vpushed_arg g1 vb rows back n g2 (by omega) hn).mono ?_
  rintro e w' ⟨rfl, hs⟩
  exact ⟨rfl, h'.sees hs, Keeps.of_sees hs⟩
theorem resize (h : VpSt w1 W Z vb hb rows back most first ls) (n : Nat) (h1 : 1 ≤ n) (h2 : n ≤ 1000) (k : Nat) (hk : clampV back ls.length = k) :
    Calls Tryd.prog 47 #[.pointer (some ⟨vb, 0, none⟩), .int .i64 n, .pointer (some ⟨hb, 0, none⟩)] W fun e w' => e = .returned (.int .i64 0) ∧ VpSt w1 w' Z vb hb n k most first ls ∧ Keeps (Chg w1 Z) W w' := by
  have h' := h
  have fa := h.facts
  obtain ⟨F, g1, g2, g3, g4, g5, g6, g7, g8, g9⟩ := h
  refine (vresize_at g1 vb rows back n k g2 (by omega) (by omega) (by omega) hk).mono ?_
  rintro e w' ⟨rfl, hv, hk'⟩
  exact ⟨rfl, h'.turn hv hk' h1 h2 (by unfold clampV at hk; omega)⟩
theorem resize_arg (h : VpSt w1 W Z vb hb rows back most first ls) (n : Int) (hn : n < 1 ∨ 1000 < n) :
    Calls Tryd.prog 47 #[.pointer (some ⟨vb, 0, none⟩), .int .i64 n, .pointer (some ⟨hb, 0, none⟩)] W fun e w' => e = .returned (.int .i64 2) ∧ VpSt w1 w' Z vb hb rows back most first ls ∧ Keeps (Chg w1 Z) W w' := by
  have h' := h
  obtain ⟨F, g1, g2, g3, g4, g5, g6, g7, g8, g9⟩ := h
  refine (vresize_arg g1 vb rows back n g2 (by omega) hn).mono ?_
  rintro e w' ⟨rfl, hs⟩
  exact ⟨rfl, h'.sees hs, Keeps.of_sees hs⟩
theorem push (h : VpSt w1 W Z vb hb rows back most first ls) (ht : Tabs w1) (u : Value) (xs : List Ln) (hu : lnEl.Rd Z W u xs) (hok : ∀ l ∈ xs, lnOk l.cells = true) (hn : first + ls.length + xs.length ≤ 1000000000) (k : Nat) (hk : k = ls.length + xs.length - most.toNat) :
    Calls Tryd.prog 18 #[.pointer (some ⟨hb, 0, none⟩), u] W fun e w' => e = .returned (.int .i64 0) ∧ VpSt w1 w' Z vb hb rows back most (first + k) ((ls ++ xs).drop k) ∧ Keeps (Chg w1 Z) W w' := by
  obtain ⟨F, g1, g2, g3, g4, g5, g6⟩ := h
  refine (g1.push ht u xs hu (fun c hc e => (g3 c e).2.2 hc) hok hn k hk).mono ?_
  rintro e w' ⟨rfl, hp, hkk⟩
  refine ⟨rfl, ⟨_, hp.cut, g2.keeps hkk (fun e => (g3 _ e).1 rfl), fun c hc => ?_, g4, fun c hc => Nat.lt_of_lt_of_le (g5 c hc) hkk.size, g6⟩, hkk.mono (fun c _ e => ⟨(g3 c e).2.2, g1.low c e⟩)⟩
  rcases hc.1 with e | e
  · exact ⟨(g3 c e).1, hc.2, (g3 c e).2.2⟩
  · exact ⟨fun q => by have := g2.lt; omega, hc.2, fun q => by have := g5 c q; omega⟩
theorem pull (h : VpSt w1 W Z vb hb rows back most first ls) (n : Nat) (hn : n ≤ ls.length) (hn2 : n ≤ 1000000) :
    Calls Tryd.prog 66 #[.pointer (some ⟨hb, 0, none⟩), .int .i64 n] W fun e w' => ∃ a m c, e = .returned (.tuple #[.slice a m c, .int .i64 0]) ∧ VpSt w1 w' Z vb hb rows back most first (ls.take (ls.length - n)) ∧ Keeps (Chg w1 Z) W w' := by
  obtain ⟨F, g1, g2, g3, g4, g5, g6⟩ := h
  refine (g1.pull n hn hn2).mono ?_
  rintro e w' ⟨v, F', rfl, ⟨a, c, ev, _⟩, hp, hkk, hF⟩
  exact ⟨a, _, c, by rw [ev], ⟨F', hp, g2.keeps hkk (fun e => (g3 _ e).1 rfl), fun c hc => ⟨(g3 c (hF c hc)).1, Nat.lt_of_lt_of_le (g3 c (hF c hc)).2.1 hkk.size, (g3 c (hF c hc)).2.2⟩, g4, fun c hc => Nat.lt_of_lt_of_le (g5 c hc) hkk.size, g6⟩, hkk.mono (fun c _ e => ⟨(g3 c e).2.2, g1.low c e⟩)⟩
/-- With a screen of others' blocks. -/
theorem st (h : VpSt w1 W Z vb hb rows back most first ls) {sv : Value} (hs : lnEl.Rd Z W sv ss) : ViSt w1 W vb hb rows back most first ls sv ss := by
  obtain ⟨F, g1, g2, g3, g4, g5, g6⟩ := h
  exact ⟨F, Z, g1, g2, hs, g3, fun c hc => ⟨fun e => g4 (e ▸ hc), g5 c hc⟩, g6⟩
end VpSt
end
/-- The boxes of 'does'. -/
def BX32 (W : World) (B : Nat) (rows back most first : Int) (v : Value) (what num : Int) : Prop := RvAt W B rows back ∧ HrAt W (B + 1) most first v ∧ AcAt32 W (B + 1 + 1) what num ∧ RvAt W (B + 1 + 1 + 1) 0 0 ∧ HrAt W (B + 1 + 1 + 1 + 1) 0 0 (.slice none 0 0)
namespace BX32
variable {W W' : World} {B : Nat} {rows back most first what num : Int} {v : Value}
theorem sees (h : BX32 W B rows back most first v what num) (hs : Sees W W') : BX32 W' B rows back most first v what num := ⟨h.1.sees hs, h.2.1.sees hs, h.2.2.1.sees hs, h.2.2.2.1.sees hs, h.2.2.2.2.sees hs⟩
theorem keeps {F : Nat → Prop} (h : BX32 W B rows back most first v what num) (hk : Keeps F W W') (hF : ∀ b, F b → b < B ∨ B + 5 ≤ b) : BX32 W' B rows back most first v what num :=
  ⟨h.1.keeps hk (fun e => by have := hF _ e; omega), h.2.1.keeps hk (fun e => by have := hF _ e; omega), h.2.2.1.keeps hk (fun e => by have := hF _ e; omega), h.2.2.2.1.keeps hk (fun e => by have := hF _ e; omega), h.2.2.2.2.keeps hk (fun e => by have := hF _ e; omega)⟩
theorem c (h : BX32 W B rows back most first v what num) {F : Nat → Prop} (hk : Keeps F W W') (hF : ∀ b, F b → b < B ∨ B + 3 ≤ b) : W'.cell? ⟨B, 0, none⟩ = some (.int .i64 rows) ∧ W'.cell? ⟨B, 1, none⟩ = some (.int .i64 back) ∧ W'.cell? ⟨B + 1, 0, none⟩ = some (.int .i64 most) ∧ W'.cell? ⟨B + 1, 1, none⟩ = some (.int .i64 first) ∧ W'.cell? ⟨B + 1, 2, none⟩ = some v ∧
    W'.cell? ⟨B + 1 + 1, 0, none⟩ = some (.int .i64 what) ∧ W'.cell? ⟨B + 1 + 1, 1, none⟩ = some (.int .i64 num) := by
  have h1 := (h.1.keeps hk (fun e => by have := hF _ e; omega)).c
  have h2 := (h.2.1.keeps hk (fun e => by have := hF _ e; omega)).c
  have h3 := (h.2.2.1.keeps hk (fun e => by have := hF _ e; omega)).c
  exact ⟨h1.1, h1.2, h2.1, h2.2.1, h2.2.2, h3.1, h3.2⟩
end BX32
/-- What may change while a region of 'does' is walked. -/
def K32 (w1 : World) (Z : Nat → Prop) (B : Nat) : Nat → Prop := fun c => (¬ Z c ∧ w1.heap.size ≤ c) ∨ c = B + 1 + 1 + 1 ∨ c = B + 1 + 1 + 1 + 1
theorem K32.out {w1 : World} {Z : Nat → Prop} {B : Nat} (hZ : ∀ c, B ≤ c → c < B + 5 → Z c) : ∀ b, K32 w1 Z B b → b < B ∨ B + 3 ≤ b := fun b h => by
  rcases h with h | h | h
  · by_cases h1 : b < B
    · exact .inl h1
    · by_cases h2 : b < B + 5
      · exact absurd (hZ b (by omega) h2) h.1
      · exact .inr (by omega)
  · omega
  · omega
/-- What 'does' gives. -/
def DoesP32 (w1 W : World) (Z Zl : Nat → Prop) (vb hb rows : Nat) (most top what num : Int) (e : Ending) (w' : World) : Prop :=
  ∃ (rows' back' : Nat) (first' : Int) (ls' : List Ln) (v' : Value) (Z' : Nat → Prop), e = .returned (.tuple #[.agg #[.int .i64 rows', .int .i64 back'], .agg #[.int .i64 most, .int .i64 first', v'], .bool true]) ∧ VpSt w1 w' Z' vb hb rows' back' most first' ls' ∧ lnEl.Rd (fun c => Z' c ∧ (Zl c ∨ W.heap.size ≤ c)) w' v' ls' ∧ (∀ c, Z c → Z' c) ∧ (∀ c, Z' c → Z c ∨ W.heap.size ≤ c) ∧ Keeps (Chg w1 Z) W w' ∧ (rows' = rows ∨ (what = 3 ∧ (rows' : Int) = num)) ∧ back' ≤ ls'.length ∧ first' + ls'.length ≤ top + 6
theorem cut_const64 (f : ByteArray) (m : Nat) (hm : m ≤ f.size) (W : World) : (Instr.sliceAt 9 (.string f) none (some (.int .i64 (m : Int))) none).run Tryd.prog W = .ok (.string (f.extract 0 m)) W := by
  rw [run_sliceAt_string (P := Tryd.prog) (h := Tryd.underlying9), run_slice_string_h (P := Tryd.prog) (ht := Tryd.underlying9) (h0 := by omega) (h2 := by omega)]
  simp
section
variable {w1 W : World} {Z Zl : Nat → Prop} {vb hb rows back n : Nat} {most first num : Int} {ls : List Ln} {a : Option Addr} {c : Nat}
theorem does32_fin {W8 W9 : World} {Z2 : Nat → Prop} {rows' back' : Nat} {f' : Int} {v' : Value} {ls' : List Ln} {B : Nat} {top what : Int} (hP : VpSt w1 W8 Z2 vb hb rows' back' most f' ls') (hR : lnEl.Rd (fun c => (Zl c ∨ W.heap.size ≤ c) ∧ Z2 c ∧ c ≠ B + 1 + 1 + 1 ∧ c ≠ B + 1 + 1 + 1 + 1) W8 v' ls') (hk : Keeps (Chg w1 Z) W W8) (hZ : ∀ c, Z c → Z2 c) (hZ2 : ∀ c, Z2 c → Z c ∨ W.heap.size ≤ c) (hB : ∀ c, B ≤ c → c < B + 5 → Z2 c) (hW : W.heap.size ≤ B) (hw : w1.heap.size ≤ W.heap.size)
    (hk9 : Keeps (fun b => b = B + 1 + 1 + 1 ∨ b = B + 1 + 1 + 1 + 1) W8 W9) (h1 : rows' = rows ∨ (what = 3 ∧ (rows' : Int) = num)) (h2 : back' ≤ ls'.length) (h3 : f' + ls'.length ≤ top + 6) :
    DoesP32 w1 W Z Zl vb hb rows most top what num (.returned (.tuple #[.agg #[.int .i64 rows', .int .i64 back'], .agg #[.int .i64 most, .int .i64 f', v'], .bool true])) W9 :=
  ⟨rows', back', f', ls', v', Z2, rfl, hP.keeps hk9 (fun c e => ⟨hB c (by rcases e with e | e <;> omega) (by rcases e with e | e <;> omega), by rcases e with e | e <;> omega⟩), (hR.keeps hk9 (fun c hc e => by rcases e with e | e; exact hc.2.2.1 e; exact hc.2.2.2 e)).mono (fun c _ h => ⟨h.2.1, h.1⟩), hZ, hZ2, hk.trans' hk9 (fun c hc e => by rcases e with e | e <;> omega), h1, h2, h3⟩
set_option maxRecDepth 100000 in
set_option maxHeartbeats 4000000 in
theorem does32_scroll (ht : Tabs w1) (h : VpSt w1 W Z vb hb rows back most first ls) (hv : lnEl.Rd Zl W (.slice a n c) ls) (hZl : ∀ c, Zl c → Z c) (hn : n = ls.length) (hnm : n ≤ 1000) (hbk : back ≤ n) (hfb : first + n ≤ 1000000)  :
    Calls Tryd.prog 54 #[.pointer (some ⟨vb, 0, none⟩), .pointer (some ⟨hb, 0, none⟩), .agg #[.int .i64 rows, .int .i64 back], .agg #[.int .i64 most, .int .i64 first, .slice a n c], .agg #[.int .i64 0, .int .i64 num]] W fun e w' => DoesP32 w1 W Z Zl vb hb rows most (first + n) 0 num e w' := by
  have fa := h.facts
  have hW1 := h.see.size
  rw [← hn] at fa
  obtain ⟨k, hk, hkn⟩ := clampV_nat (back + max (min num 1048576) (-1048576)) n
  have Hk := Lib.hid hk
  clear hk
  have HV := Lib.hid h
  have HL := Lib.hid hv
  have HZl := Lib.hid hZl
  have Hn := Lib.hid hn
  have Ht := Lib.hid ht
  have HZ := Lib.hid h.zlt
  clear h hv hn ht hZl
  go_enter Tryd.func54, Tryd.ntmps54
  go_wp2_with fail
  refine wp_world (fun w2 hw2 => ?_)
  have A2 : BX32 w2 W.heap.size rows back most first (.slice a n c) 0 num := by subst hw2; exact ⟨((((RvAt.new rfl).alloc _).alloc _).alloc _).alloc _, (((HrAt.new (by simp)).alloc _).alloc _).alloc _, ((AcAt32.new (by simp)).alloc _).alloc _, (RvAt.new (by simp)).alloc _, HrAt.new (by simp)⟩
  have S2 : Sees W w2 := by subst hw2; exact (((((Sees.refl W).alloc _).alloc _).alloc _).alloc _).alloc _
  have hz2 : w2.heap.size = W.heap.size + 5 := by subst hw2; simp
  clear hw2
  obtain ⟨Z2, hZ2⟩ : ∃ Z2 : Nat → Prop, Z2 = fun c => Z c ∨ (W.heap.size ≤ c ∧ c < w2.heap.size) := ⟨_, rfl⟩
  have P2 := Lib.hid (HV.out.more S2)
  rw [← hZ2] at P2
  have L2 : Hid (lnEl.Rd (fun c => (Zl c ∨ W.heap.size ≤ c) ∧ Z2 c ∧ c ≠ W.heap.size + 1 + 1 + 1 ∧ c ≠ W.heap.size + 1 + 1 + 1 + 1) w2 (.slice a n c) ls) := Lib.hid ((HL.out.sees S2).mono (fun c _ h => ⟨.inl h, by rw [hZ2]; exact .inl (HZl.out c h), by have := HZ.out c (HZl.out c h); omega, by have := HZ.out c (HZl.out c h); omega⟩))
  have HZ5 : Hid (∀ c, W.heap.size ≤ c → c < W.heap.size + 5 → Z2 c) := Lib.hid (fun c h1 h2 => by rw [hZ2]; exact .inr ⟨h1, by omega⟩)
  have HZa : Hid (∀ c, Z c → Z2 c) := Lib.hid (fun c h => by rw [hZ2]; exact .inl h)
  have HZb : Hid (∀ c, Z2 c → Z c ∨ W.heap.size ≤ c) := Lib.hid (fun c h => by rw [hZ2] at h; rcases h with h | h; exact .inl h; exact .inr h.1)
  have B2 := Lib.hid A2
  have K2 := Lib.hid (Keeps.of_sees (F := Chg w1 Z) S2)
  clear hZ2 A2 S2 hz2 HV HL
  refine wpH_go (K32 w1 Z2 W.heap.size) 15 (by kernel_rfl) (by kernel_rfl) (by rfl) (fun hB w3 hs3 => ?_)
  have B3 := Lib.hid (B2.out.sees hs3)
  have P3 := Lib.hid (P2.out.sees hs3)
  have L3 := Lib.hid (L2.out.sees hs3)
  have K3 := Lib.hid (K2.out.trans (Keeps.of_sees hs3))
  have HKo := Lib.hid (K32.out (w1 := w1) HZ5.out)
  clear hs3 B2 P2 L2 K2
  have hS0 : Keeps (K32 w1 Z2 W.heap.size) w3 w3 := Keeps.refl _ w3
  have hKK : Hid (Keeps (Chg w1 Z2) w3 w3) := Lib.hid (Keeps.refl _ _)
  refine wpH_take (i := 0) (v := .agg #[.int .i64 rows, .int .i64 back]) hB (by rfl) (by kernel_rfl) (fun _ _ _ _ _ h => h) (by rfl) hS0 (fun W hI => by have q := B3.out.c hI HKo.out; obtain ⟨q0, q1, q2, q3, q4, q5, q6⟩ := q; clear hI; go_simp) ?_; (try simp only [Act.put, List.setIfInBounds_toArray, List.set_cons_zero, List.set_cons_succ])
  refine wpH_take (i := 1) (v := .pointer (some ⟨W.heap.size + 1 + 1, 1, none⟩)) hB (by rfl) (by kernel_rfl) (fun _ _ _ _ _ h => h) (by rfl) hS0 (fun W hI => by clear hI; go_simp) ?_; (try simp only [Act.put, List.setIfInBounds_toArray, List.set_cons_zero, List.set_cons_succ])
  refine wpH_take (i := 2) (v := .int .i64 num) hB (by rfl) (by kernel_rfl) (fun _ _ _ _ _ h => h) (by rfl) hS0 (fun W hI => by have q := B3.out.c hI HKo.out; obtain ⟨q0, q1, q2, q3, q4, q5, q6⟩ := q; clear hI; go_simp) ?_; (try simp only [Act.put, List.setIfInBounds_toArray, List.set_cons_zero, List.set_cons_succ])
  refine wpH_take (i := 3) (v := .agg #[.int .i64 most, .int .i64 first, .slice a n c]) hB (by rfl) (by kernel_rfl) (fun _ _ _ _ _ h => h) (by rfl) hS0 (fun W hI => by have q := B3.out.c hI HKo.out; obtain ⟨q0, q1, q2, q3, q4, q5, q6⟩ := q; clear hI; go_simp) ?_; (try simp only [Act.put, List.setIfInBounds_toArray, List.set_cons_zero, List.set_cons_succ])
  refine wpH_take (i := 5) (v := .agg #[.int .i64 most, .int .i64 first, .slice a n c]) hB (by rfl) (by kernel_rfl) (fun _ _ _ _ _ h => h) (by rfl) hS0 (fun W hI => by have q := B3.out.c hI HKo.out; obtain ⟨q0, q1, q2, q3, q4, q5, q6⟩ := q; clear hI; go_simp) ?_; (try simp only [Act.put, List.setIfInBounds_toArray, List.set_cons_zero, List.set_cons_succ])
  refine wpH_take (i := 6) (v := .pointer (some ⟨vb, 0, none⟩)) hB (by rfl) (by kernel_rfl) (fun _ _ _ _ _ h => h) (by rfl) hS0 (fun W hI => by clear hI; go_simp) ?_; (try simp only [Act.put, List.setIfInBounds_toArray, List.set_cons_zero, List.set_cons_succ])
  refine wpH_take (i := 7) (v := .pointer (some ⟨W.heap.size + 1 + 1, 1, none⟩)) hB (by rfl) (by kernel_rfl) (fun _ _ _ _ _ h => h) (by rfl) hS0 (fun W hI => by clear hI; go_simp) ?_; (try simp only [Act.put, List.setIfInBounds_toArray, List.set_cons_zero, List.set_cons_succ])
  refine wpH_take (i := 8) (v := .int .i64 num) hB (by rfl) (by kernel_rfl) (fun _ _ _ _ _ h => h) (by rfl) hS0 (fun W hI => by have q := B3.out.c hI HKo.out; obtain ⟨q0, q1, q2, q3, q4, q5, q6⟩ := q; clear hI; go_simp) ?_; (try simp only [Act.put, List.setIfInBounds_toArray, List.set_cons_zero, List.set_cons_succ])
  refine wpH_take (i := 9) (v := .pointer (some ⟨hb, 0, none⟩)) hB (by rfl) (by kernel_rfl) (fun _ _ _ _ _ h => h) (by rfl) hS0 (fun W hI => by clear hI; go_simp) ?_; (try simp only [Act.put, List.setIfInBounds_toArray, List.set_cons_zero, List.set_cons_succ])
  refine wpH_one (i := 4) (by kernel_rfl) (wpOp_enter (fn := 80) (args := #[.agg #[.int .i64 rows, .int .i64 back], .int .i64 num, .agg #[.int .i64 most, .int .i64 first, .slice a n c]]) (by rfl) (by rfl) (by go_simp) ((refScroll32_any rows num k most first back a n c w3 hbk (by omega) Hk.out).mono ?_))
  rintro e w4 ⟨rfl, hs⟩
  refine ⟨_, rfl, hS0.trans (Keeps.of_sees hs), ?_⟩
  have P3 := Lib.hid (P3.out.sees hs)
  have L3 := Lib.hid (L3.out.sees hs)
  have K3 := Lib.hid (K3.out.trans (Keeps.of_sees hs))
  have hKK := Lib.hid (hKK.out.trans (Keeps.of_sees hs))
  have hS1 := hS0.trans (Keeps.of_sees hs)
  clear hS0 hs
  have hS0 := hS1
  clear hS1
  (try simp only [Act.put, List.setIfInBounds_toArray, List.set_cons_zero, List.set_cons_succ])
  refine wpH_one (i := 10) (by kernel_rfl) (wpOp_enter (fn := 33) (args := #[.pointer (some ⟨vb, 0, none⟩), .int .i64 num, .pointer (some ⟨hb, 0, none⟩)]) (by rfl) (by rfl) (by go_simp) ((P3.out.scroll num k (by rw [← Hn.out]; exact Hk.out)).mono ?_))
  rintro e w5 ⟨rfl, hp, hk⟩
  have hk2 : Keeps (K32 w1 Z2 W.heap.size) _ w5 := hk.mono (fun c _ e => .inl e)
  refine ⟨_, rfl, hS0.trans hk2, ?_⟩
  have P3 := Lib.hid hp
  have L3 := Lib.hid (L3.out.keeps hk (fun c hc e => e.1 hc.2.1))
  have K3 := Lib.hid (K3.out.trans (hk.mono (fun c _ e => ⟨fun h => e.1 (HZa.out c h), e.2⟩)))
  have hKK := Lib.hid (hKK.out.trans hk)
  have hS1 := hS0.trans hk2
  clear hS0 hk hp hk2
  have hS0 := hS1
  clear hS1
  (try simp only [Act.put, List.setIfInBounds_toArray, List.set_cons_zero, List.set_cons_succ])
  refine wpH_take (i := 11) (v := .bool true) hB (by rfl) (by kernel_rfl) (fun _ _ _ _ _ h => h) (by rfl) hS0 (fun W hI => by clear hI; go_simp) ?_; (try simp only [Act.put, List.setIfInBounds_toArray, List.set_cons_zero, List.set_cons_succ])
  have D7 := Lib.hid (B3.out.2.2.2.1.keeps hKK.out (fun e => (e.1 (HZ5.out _ (by omega) (by omega))).elim))
  have D8 := Lib.hid (B3.out.2.2.2.2.keeps hKK.out (fun e => (e.1 (HZ5.out _ (by omega) (by omega))).elim))
  obtain ⟨w8, hw8⟩ : ∃ w8, w8 = w5.setRow (W.heap.size + 1 + 1 + 1) #[.int .i64 rows, .int .i64 k] := ⟨_, rfl⟩
  have Hst8 := Lib.hid (show (Instr.storeAt 86 (.pointer (some ⟨W.heap.size + 1 + 1 + 1, 0, none⟩)) (.agg #[.int .i64 rows, .int .i64 k])).run Tryd.prog w5 = .ok () w8 by rw [hw8]; exact run_storeAt_row (P := Tryd.prog) (W := w5) 86 (W.heap.size + 1 + 1 + 1) _ 86 [.int .i64 rows, .int .i64 k] (fun _ => by kernel_rfl) D7.out rfl (by intro v hv; simp only [List.mem_cons, List.not_mem_nil, or_false] at hv; rcases hv with rfl | rfl <;> rfl))
  have Hk8 := Lib.hid (show Keeps (fun b => b = W.heap.size + 1 + 1 + 1) w5 w8 by rw [hw8]; exact ⟨rfl, rfl, rfl, by simp [World.setRow], fun b hb hne => setRow_other w5 _ b _ (fun e => hne e)⟩)
  have E7 := Lib.hid (show RvAt w8 (W.heap.size + 1 + 1 + 1) rows k by rw [hw8]; exact setRow_heap _ _ _ _ _ (0, 0) D7.out)
  have E8 := Lib.hid (D8.out.keeps Hk8.out (fun e => by have e : W.heap.size + 1 + 1 + 1 + 1 = W.heap.size + 1 + 1 + 1 := e; omega))
  clear hw8 D7 D8
  obtain ⟨w9, hw9⟩ : ∃ w9, w9 = w8.setRow (W.heap.size + 1 + 1 + 1 + 1) #[.int .i64 most, .int .i64 first, .slice a n c] := ⟨_, rfl⟩
  have Hst9 := Lib.hid (show (Instr.storeAt 60 (.pointer (some ⟨W.heap.size + 1 + 1 + 1 + 1, 0, none⟩)) (.agg #[.int .i64 most, .int .i64 first, .slice a n c])).run Tryd.prog w8 = .ok () w9 by rw [hw9]; exact run_storeAt_row (P := Tryd.prog) (W := w8) 60 (W.heap.size + 1 + 1 + 1 + 1) _ 60 [.int .i64 most, .int .i64 first, .slice a n c] (fun _ => by kernel_rfl) E8.out rfl (by intro v hv; simp only [List.mem_cons, List.not_mem_nil, or_false] at hv; rcases hv with rfl | rfl | rfl <;> rfl))
  have Hk9 := Lib.hid (show Keeps (fun b => b = W.heap.size + 1 + 1 + 1 + 1) w8 w9 by rw [hw9]; exact ⟨rfl, rfl, rfl, by simp [World.setRow], fun b hb hne => setRow_other w8 _ b _ (fun e => hne e)⟩)
  have G8 := Lib.hid (show HrAt w9 (W.heap.size + 1 + 1 + 1 + 1) most first (.slice a n c) by rw [hw9]; exact setRow_heap _ _ _ _ _ (0, 0) E8.out)
  have G7 := Lib.hid (E7.out.keeps Hk9.out (fun e => by have e : W.heap.size + 1 + 1 + 1 = W.heap.size + 1 + 1 + 1 + 1 := e; omega))
  clear hw9 E8 E7
  have hS8 := hS0.trans (Hk8.out.mono (fun b _ e => (.inr (.inl e) : K32 w1 Z2 W.heap.size b)))
  have hS9 := hS8.trans (Hk9.out.mono (fun b _ e => (.inr (.inr e) : K32 w1 Z2 W.heap.size b)))
  refine wpH_one (i := 12) (by kernel_rfl) (wpOp_skip (w' := w8) (by rfl) (wanted_none (by rfl) _) (exec_store (a := .pointer (some ⟨W.heap.size + 1 + 1 + 1, 0, none⟩)) (v := .agg #[.int .i64 rows, .int .i64 k]) rfl (by go_simp) (by go_simp) Hst8.out) ⟨hS8, ?_⟩)
  (try simp only [Act.put, List.setIfInBounds_toArray, List.set_cons_zero, List.set_cons_succ])
  refine wpH_one (i := 13) (by kernel_rfl) (wpOp_skip (w' := w9) (by rfl) (wanted_none (by rfl) _) (exec_store (a := .pointer (some ⟨W.heap.size + 1 + 1 + 1 + 1, 0, none⟩)) (v := .agg #[.int .i64 most, .int .i64 first, .slice a n c]) rfl (by go_simp) (by go_simp) Hst9.out) ⟨hS9, ?_⟩)
  (try simp only [Act.put, List.setIfInBounds_toArray, List.set_cons_zero, List.set_cons_succ])
  clear hS0
  have hS0 := hS9
  refine wpH_take (i := 14) (v := .bool true) hB (by rfl) (by kernel_rfl) (fun _ _ _ _ _ h => h) (by rfl) hS0 (fun W hI => by clear hI; go_simp) ?_; (try simp only [Act.put, List.setIfInBounds_toArray, List.set_cons_zero, List.set_cons_succ])
  refine wpH_end (by kernel_rfl) ?_
  clear hB hS0 hS8 hS9 Hst8 Hst9
  obtain ⟨z0, z1⟩ := G7.out.c
  obtain ⟨z2, z3, z4⟩ := G8.out.c
  go_wp2
  refine bodyPost_ret_by (v := .tuple #[.agg #[.int .i64 rows, .int .i64 k], .agg #[.int .i64 most, .int .i64 first, .slice a n c], .bool true]) (by simp [results, Tryd.results54, go_sem, z0, z1, z2, z3, z4]) rfl ?_
  exact does32_fin P3.out L3.out K3.out HZa.out HZb.out HZ5.out (Nat.le_refl _) hW1 ((Hk8.out.mono (fun b _ e => .inl e)).trans (Hk9.out.mono (fun b _ e => .inr e))) (.inl rfl) (by rw [← Hn.out]; exact hkn) (by rw [← Hn.out]; omega)
set_option maxRecDepth 100000 in
set_option maxHeartbeats 4000000 in
theorem does32_bottom (ht : Tabs w1) (h : VpSt w1 W Z vb hb rows back most first ls) (hv : lnEl.Rd Zl W (.slice a n c) ls) (hZl : ∀ c, Zl c → Z c) (hn : n = ls.length) (hnm : n ≤ 1000) (hbk : back ≤ n) (hfb : first + n ≤ 1000000)  :
    Calls Tryd.prog 54 #[.pointer (some ⟨vb, 0, none⟩), .pointer (some ⟨hb, 0, none⟩), .agg #[.int .i64 rows, .int .i64 back], .agg #[.int .i64 most, .int .i64 first, .slice a n c], .agg #[.int .i64 1, .int .i64 num]] W fun e w' => DoesP32 w1 W Z Zl vb hb rows most (first + n) 1 num e w' := by
  have fa := h.facts
  have hW1 := h.see.size
  rw [← hn] at fa
  have HV := Lib.hid h
  have HL := Lib.hid hv
  have HZl := Lib.hid hZl
  have Hn := Lib.hid hn
  have Ht := Lib.hid ht
  have HZ := Lib.hid h.zlt
  clear h hv hn ht hZl
  go_enter Tryd.func54, Tryd.ntmps54
  go_wp2_with fail
  refine wp_world (fun w2 hw2 => ?_)
  have A2 : BX32 w2 W.heap.size rows back most first (.slice a n c) 1 num := by subst hw2; exact ⟨((((RvAt.new rfl).alloc _).alloc _).alloc _).alloc _, (((HrAt.new (by simp)).alloc _).alloc _).alloc _, ((AcAt32.new (by simp)).alloc _).alloc _, (RvAt.new (by simp)).alloc _, HrAt.new (by simp)⟩
  have S2 : Sees W w2 := by subst hw2; exact (((((Sees.refl W).alloc _).alloc _).alloc _).alloc _).alloc _
  have hz2 : w2.heap.size = W.heap.size + 5 := by subst hw2; simp
  clear hw2
  obtain ⟨Z2, hZ2⟩ : ∃ Z2 : Nat → Prop, Z2 = fun c => Z c ∨ (W.heap.size ≤ c ∧ c < w2.heap.size) := ⟨_, rfl⟩
  have P2 := Lib.hid (HV.out.more S2)
  rw [← hZ2] at P2
  have L2 : Hid (lnEl.Rd (fun c => (Zl c ∨ W.heap.size ≤ c) ∧ Z2 c ∧ c ≠ W.heap.size + 1 + 1 + 1 ∧ c ≠ W.heap.size + 1 + 1 + 1 + 1) w2 (.slice a n c) ls) := Lib.hid ((HL.out.sees S2).mono (fun c _ h => ⟨.inl h, by rw [hZ2]; exact .inl (HZl.out c h), by have := HZ.out c (HZl.out c h); omega, by have := HZ.out c (HZl.out c h); omega⟩))
  have HZ5 : Hid (∀ c, W.heap.size ≤ c → c < W.heap.size + 5 → Z2 c) := Lib.hid (fun c h1 h2 => by rw [hZ2]; exact .inr ⟨h1, by omega⟩)
  have HZa : Hid (∀ c, Z c → Z2 c) := Lib.hid (fun c h => by rw [hZ2]; exact .inl h)
  have HZb : Hid (∀ c, Z2 c → Z c ∨ W.heap.size ≤ c) := Lib.hid (fun c h => by rw [hZ2] at h; rcases h with h | h; exact .inl h; exact .inr h.1)
  have B2 := Lib.hid A2
  have K2 := Lib.hid (Keeps.of_sees (F := Chg w1 Z) S2)
  clear hZ2 A2 S2 hz2 HV HL
  refine wpH_go (K32 w1 Z2 W.heap.size) 10 (by kernel_rfl) (by kernel_rfl) (by rfl) (fun hB w3 hs3 => ?_)
  have B3 := Lib.hid (B2.out.sees hs3)
  have P3 := Lib.hid (P2.out.sees hs3)
  have L3 := Lib.hid (L2.out.sees hs3)
  have K3 := Lib.hid (K2.out.trans (Keeps.of_sees hs3))
  have HKo := Lib.hid (K32.out (w1 := w1) HZ5.out)
  clear hs3 B2 P2 L2 K2
  have hS0 : Keeps (K32 w1 Z2 W.heap.size) w3 w3 := Keeps.refl _ w3
  have hKK : Hid (Keeps (Chg w1 Z2) w3 w3) := Lib.hid (Keeps.refl _ _)
  refine wpH_take (i := 0) (v := .pointer (some ⟨W.heap.size, 0, none⟩)) hB (by rfl) (by kernel_rfl) (fun _ _ _ _ _ h => h) (by rfl) hS0 (fun W hI => by clear hI; go_simp) ?_; (try simp only [Act.put, List.setIfInBounds_toArray, List.set_cons_zero, List.set_cons_succ])
  refine wpH_take (i := 1) (v := .int .i64 rows) hB (by rfl) (by kernel_rfl) (fun _ _ _ _ _ h => h) (by rfl) hS0 (fun W hI => by have q := B3.out.c hI HKo.out; obtain ⟨q0, q1, q2, q3, q4, q5, q6⟩ := q; clear hI; go_simp) ?_; (try simp only [Act.put, List.setIfInBounds_toArray, List.set_cons_zero, List.set_cons_succ])
  refine wpH_take (i := 2) (v := .agg #[.int .i64 rows, .int .i64 0]) hB (by rfl) (by kernel_rfl) (fun _ _ _ _ _ h => h) (by rfl) hS0 (fun W hI => by clear hI; go_simp) ?_; (try simp only [Act.put, List.setIfInBounds_toArray, List.set_cons_zero, List.set_cons_succ])
  refine wpH_take (i := 3) (v := .agg #[.int .i64 most, .int .i64 first, .slice a n c]) hB (by rfl) (by kernel_rfl) (fun _ _ _ _ _ h => h) (by rfl) hS0 (fun W hI => by have q := B3.out.c hI HKo.out; obtain ⟨q0, q1, q2, q3, q4, q5, q6⟩ := q; clear hI; go_simp) ?_; (try simp only [Act.put, List.setIfInBounds_toArray, List.set_cons_zero, List.set_cons_succ])
  refine wpH_take (i := 4) (v := .pointer (some ⟨vb, 0, none⟩)) hB (by rfl) (by kernel_rfl) (fun _ _ _ _ _ h => h) (by rfl) hS0 (fun W hI => by clear hI; go_simp) ?_; (try simp only [Act.put, List.setIfInBounds_toArray, List.set_cons_zero, List.set_cons_succ])
  refine wpH_one (i := 5) (by kernel_rfl) (wpOp_enter (fn := 46) (args := #[.pointer (some ⟨vb, 0, none⟩)]) (by rfl) (by rfl) (by go_simp) ((P3.out.bottom).mono ?_))
  rintro e w5 ⟨rfl, hp, hk⟩
  have hk2 : Keeps (K32 w1 Z2 W.heap.size) _ w5 := hk.mono (fun c _ e => .inl e)
  refine ⟨_, rfl, hS0.trans hk2, ?_⟩
  have P3 := Lib.hid hp
  have L3 := Lib.hid (L3.out.keeps hk (fun c hc e => e.1 hc.2.1))
  have K3 := Lib.hid (K3.out.trans (hk.mono (fun c _ e => ⟨fun h => e.1 (HZa.out c h), e.2⟩)))
  have hKK := Lib.hid (hKK.out.trans hk)
  have hS1 := hS0.trans hk2
  clear hS0 hk hp hk2
  have hS0 := hS1
  clear hS1
  (try simp only [Act.put, List.setIfInBounds_toArray, List.set_cons_zero, List.set_cons_succ])
  refine wpH_take (i := 6) (v := .bool true) hB (by rfl) (by kernel_rfl) (fun _ _ _ _ _ h => h) (by rfl) hS0 (fun W hI => by clear hI; go_simp) ?_; (try simp only [Act.put, List.setIfInBounds_toArray, List.set_cons_zero, List.set_cons_succ])
  have D7 := Lib.hid (B3.out.2.2.2.1.keeps hKK.out (fun e => (e.1 (HZ5.out _ (by omega) (by omega))).elim))
  have D8 := Lib.hid (B3.out.2.2.2.2.keeps hKK.out (fun e => (e.1 (HZ5.out _ (by omega) (by omega))).elim))
  obtain ⟨w8, hw8⟩ : ∃ w8, w8 = w5.setRow (W.heap.size + 1 + 1 + 1) #[.int .i64 rows, .int .i64 0] := ⟨_, rfl⟩
  have Hst8 := Lib.hid (show (Instr.storeAt 86 (.pointer (some ⟨W.heap.size + 1 + 1 + 1, 0, none⟩)) (.agg #[.int .i64 rows, .int .i64 0])).run Tryd.prog w5 = .ok () w8 by rw [hw8]; exact run_storeAt_row (P := Tryd.prog) (W := w5) 86 (W.heap.size + 1 + 1 + 1) _ 86 [.int .i64 rows, .int .i64 0] (fun _ => by kernel_rfl) D7.out rfl (by intro v hv; simp only [List.mem_cons, List.not_mem_nil, or_false] at hv; rcases hv with rfl | rfl <;> rfl))
  have Hk8 := Lib.hid (show Keeps (fun b => b = W.heap.size + 1 + 1 + 1) w5 w8 by rw [hw8]; exact ⟨rfl, rfl, rfl, by simp [World.setRow], fun b hb hne => setRow_other w5 _ b _ (fun e => hne e)⟩)
  have E7 := Lib.hid (show RvAt w8 (W.heap.size + 1 + 1 + 1) rows 0 by rw [hw8]; exact setRow_heap _ _ _ _ _ (0, 0) D7.out)
  have E8 := Lib.hid (D8.out.keeps Hk8.out (fun e => by have e : W.heap.size + 1 + 1 + 1 + 1 = W.heap.size + 1 + 1 + 1 := e; omega))
  clear hw8 D7 D8
  obtain ⟨w9, hw9⟩ : ∃ w9, w9 = w8.setRow (W.heap.size + 1 + 1 + 1 + 1) #[.int .i64 most, .int .i64 first, .slice a n c] := ⟨_, rfl⟩
  have Hst9 := Lib.hid (show (Instr.storeAt 60 (.pointer (some ⟨W.heap.size + 1 + 1 + 1 + 1, 0, none⟩)) (.agg #[.int .i64 most, .int .i64 first, .slice a n c])).run Tryd.prog w8 = .ok () w9 by rw [hw9]; exact run_storeAt_row (P := Tryd.prog) (W := w8) 60 (W.heap.size + 1 + 1 + 1 + 1) _ 60 [.int .i64 most, .int .i64 first, .slice a n c] (fun _ => by kernel_rfl) E8.out rfl (by intro v hv; simp only [List.mem_cons, List.not_mem_nil, or_false] at hv; rcases hv with rfl | rfl | rfl <;> rfl))
  have Hk9 := Lib.hid (show Keeps (fun b => b = W.heap.size + 1 + 1 + 1 + 1) w8 w9 by rw [hw9]; exact ⟨rfl, rfl, rfl, by simp [World.setRow], fun b hb hne => setRow_other w8 _ b _ (fun e => hne e)⟩)
  have G8 := Lib.hid (show HrAt w9 (W.heap.size + 1 + 1 + 1 + 1) most first (.slice a n c) by rw [hw9]; exact setRow_heap _ _ _ _ _ (0, 0) E8.out)
  have G7 := Lib.hid (E7.out.keeps Hk9.out (fun e => by have e : W.heap.size + 1 + 1 + 1 = W.heap.size + 1 + 1 + 1 + 1 := e; omega))
  clear hw9 E8 E7
  have hS8 := hS0.trans (Hk8.out.mono (fun b _ e => (.inr (.inl e) : K32 w1 Z2 W.heap.size b)))
  have hS9 := hS8.trans (Hk9.out.mono (fun b _ e => (.inr (.inr e) : K32 w1 Z2 W.heap.size b)))
  refine wpH_one (i := 7) (by kernel_rfl) (wpOp_skip (w' := w8) (by rfl) (wanted_none (by rfl) _) (exec_store (a := .pointer (some ⟨W.heap.size + 1 + 1 + 1, 0, none⟩)) (v := .agg #[.int .i64 rows, .int .i64 0]) rfl (by go_simp) (by go_simp) Hst8.out) ⟨hS8, ?_⟩)
  (try simp only [Act.put, List.setIfInBounds_toArray, List.set_cons_zero, List.set_cons_succ])
  refine wpH_one (i := 8) (by kernel_rfl) (wpOp_skip (w' := w9) (by rfl) (wanted_none (by rfl) _) (exec_store (a := .pointer (some ⟨W.heap.size + 1 + 1 + 1 + 1, 0, none⟩)) (v := .agg #[.int .i64 most, .int .i64 first, .slice a n c]) rfl (by go_simp) (by go_simp) Hst9.out) ⟨hS9, ?_⟩)
  (try simp only [Act.put, List.setIfInBounds_toArray, List.set_cons_zero, List.set_cons_succ])
  clear hS0
  have hS0 := hS9
  refine wpH_take (i := 9) (v := .bool true) hB (by rfl) (by kernel_rfl) (fun _ _ _ _ _ h => h) (by rfl) hS0 (fun W hI => by clear hI; go_simp) ?_; (try simp only [Act.put, List.setIfInBounds_toArray, List.set_cons_zero, List.set_cons_succ])
  refine wpH_end (by kernel_rfl) ?_
  clear hB hS0 hS8 hS9 Hst8 Hst9
  obtain ⟨z0, z1⟩ := G7.out.c
  obtain ⟨z2, z3, z4⟩ := G8.out.c
  go_wp2
  refine bodyPost_ret_by (v := .tuple #[.agg #[.int .i64 rows, .int .i64 0], .agg #[.int .i64 most, .int .i64 first, .slice a n c], .bool true]) (by simp [results, Tryd.results54, go_sem, z0, z1, z2, z3, z4]) rfl ?_
  exact does32_fin P3.out L3.out K3.out HZa.out HZb.out HZ5.out (Nat.le_refl _) hW1 ((Hk8.out.mono (fun b _ e => .inl e)).trans (Hk9.out.mono (fun b _ e => .inr e))) (.inl rfl) (Nat.zero_le _) (by rw [← Hn.out]; omega)
set_option maxRecDepth 100000 in
set_option maxHeartbeats 4000000 in
theorem does32_resize_lo (ht : Tabs w1) (h : VpSt w1 W Z vb hb rows back most first ls) (hv : lnEl.Rd Zl W (.slice a n c) ls) (hZl : ∀ c, Zl c → Z c) (hn : n = ls.length) (hnm : n ≤ 1000) (hbk : back ≤ n) (hfb : first + n ≤ 1000000) (hx : num < 1) :
    Calls Tryd.prog 54 #[.pointer (some ⟨vb, 0, none⟩), .pointer (some ⟨hb, 0, none⟩), .agg #[.int .i64 rows, .int .i64 back], .agg #[.int .i64 most, .int .i64 first, .slice a n c], .agg #[.int .i64 3, .int .i64 num]] W fun e w' => DoesP32 w1 W Z Zl vb hb rows most (first + n) 3 num e w' := by
  have fa := h.facts
  have hW1 := h.see.size
  rw [← hn] at fa
  have d1 : decide (num < 1) = true := decide_eq_true hx
  have HX : Hid (num < 1 ∨ 1000 < num) := Lib.hid (.inl hx)
  have HV := Lib.hid h
  have HL := Lib.hid hv
  have HZl := Lib.hid hZl
  have Hn := Lib.hid hn
  have Ht := Lib.hid ht
  have HZ := Lib.hid h.zlt
  clear h hv hn ht hZl
  go_enter Tryd.func54, Tryd.ntmps54
  go_wp2_with fail
  refine wp_world (fun w2 hw2 => ?_)
  have A2 : BX32 w2 W.heap.size rows back most first (.slice a n c) 3 num := by subst hw2; exact ⟨((((RvAt.new rfl).alloc _).alloc _).alloc _).alloc _, (((HrAt.new (by simp)).alloc _).alloc _).alloc _, ((AcAt32.new (by simp)).alloc _).alloc _, (RvAt.new (by simp)).alloc _, HrAt.new (by simp)⟩
  have S2 : Sees W w2 := by subst hw2; exact (((((Sees.refl W).alloc _).alloc _).alloc _).alloc _).alloc _
  have hz2 : w2.heap.size = W.heap.size + 5 := by subst hw2; simp
  clear hw2
  obtain ⟨Z2, hZ2⟩ : ∃ Z2 : Nat → Prop, Z2 = fun c => Z c ∨ (W.heap.size ≤ c ∧ c < w2.heap.size) := ⟨_, rfl⟩
  have P2 := Lib.hid (HV.out.more S2)
  rw [← hZ2] at P2
  have L2 : Hid (lnEl.Rd (fun c => (Zl c ∨ W.heap.size ≤ c) ∧ Z2 c ∧ c ≠ W.heap.size + 1 + 1 + 1 ∧ c ≠ W.heap.size + 1 + 1 + 1 + 1) w2 (.slice a n c) ls) := Lib.hid ((HL.out.sees S2).mono (fun c _ h => ⟨.inl h, by rw [hZ2]; exact .inl (HZl.out c h), by have := HZ.out c (HZl.out c h); omega, by have := HZ.out c (HZl.out c h); omega⟩))
  have HZ5 : Hid (∀ c, W.heap.size ≤ c → c < W.heap.size + 5 → Z2 c) := Lib.hid (fun c h1 h2 => by rw [hZ2]; exact .inr ⟨h1, by omega⟩)
  have HZa : Hid (∀ c, Z c → Z2 c) := Lib.hid (fun c h => by rw [hZ2]; exact .inl h)
  have HZb : Hid (∀ c, Z2 c → Z c ∨ W.heap.size ≤ c) := Lib.hid (fun c h => by rw [hZ2] at h; rcases h with h | h; exact .inl h; exact .inr h.1)
  have B2 := Lib.hid A2
  have K2 := Lib.hid (Keeps.of_sees (F := Chg w1 Z) S2)
  clear hZ2 A2 S2 hz2 HV HL
  refine wpH_go (K32 w1 Z2 W.heap.size) 11 (by kernel_rfl) (by kernel_rfl) (by rfl) (fun hB w3 hs3 => ?_)
  have B3 := Lib.hid (B2.out.sees hs3)
  have P3 := Lib.hid (P2.out.sees hs3)
  have L3 := Lib.hid (L2.out.sees hs3)
  have K3 := Lib.hid (K2.out.trans (Keeps.of_sees hs3))
  have HKo := Lib.hid (K32.out (w1 := w1) HZ5.out)
  clear hs3 B2 P2 L2 K2
  have hS0 : Keeps (K32 w1 Z2 W.heap.size) w3 w3 := Keeps.refl _ w3
  have hKK : Hid (Keeps (Chg w1 Z2) w3 w3) := Lib.hid (Keeps.refl _ _)
  refine wpH_take (i := 0) (v := .agg #[.int .i64 rows, .int .i64 back]) hB (by rfl) (by kernel_rfl) (fun _ _ _ _ _ h => h) (by rfl) hS0 (fun W hI => by have q := B3.out.c hI HKo.out; obtain ⟨q0, q1, q2, q3, q4, q5, q6⟩ := q; clear hI; go_simp) ?_; (try simp only [Act.put, List.setIfInBounds_toArray, List.set_cons_zero, List.set_cons_succ])
  refine wpH_take (i := 1) (v := .agg #[.int .i64 most, .int .i64 first, .slice a n c]) hB (by rfl) (by kernel_rfl) (fun _ _ _ _ _ h => h) (by rfl) hS0 (fun W hI => by have q := B3.out.c hI HKo.out; obtain ⟨q0, q1, q2, q3, q4, q5, q6⟩ := q; clear hI; go_simp) ?_; (try simp only [Act.put, List.setIfInBounds_toArray, List.set_cons_zero, List.set_cons_succ])
  refine wpH_take (i := 2) (v := .pointer (some ⟨vb, 0, none⟩)) hB (by rfl) (by kernel_rfl) (fun _ _ _ _ _ h => h) (by rfl) hS0 (fun W hI => by clear hI; go_simp) ?_; (try simp only [Act.put, List.setIfInBounds_toArray, List.set_cons_zero, List.set_cons_succ])
  refine wpH_take (i := 3) (v := .pointer (some ⟨W.heap.size + 1 + 1, 1, none⟩)) hB (by rfl) (by kernel_rfl) (fun _ _ _ _ _ h => h) (by rfl) hS0 (fun W hI => by clear hI; go_simp) ?_; (try simp only [Act.put, List.setIfInBounds_toArray, List.set_cons_zero, List.set_cons_succ])
  refine wpH_take (i := 4) (v := .int .i64 num) hB (by rfl) (by kernel_rfl) (fun _ _ _ _ _ h => h) (by rfl) hS0 (fun W hI => by have q := B3.out.c hI HKo.out; obtain ⟨q0, q1, q2, q3, q4, q5, q6⟩ := q; clear hI; go_simp) ?_; (try simp only [Act.put, List.setIfInBounds_toArray, List.set_cons_zero, List.set_cons_succ])
  refine wpH_take (i := 5) (v := .pointer (some ⟨hb, 0, none⟩)) hB (by rfl) (by kernel_rfl) (fun _ _ _ _ _ h => h) (by rfl) hS0 (fun W hI => by clear hI; go_simp) ?_; (try simp only [Act.put, List.setIfInBounds_toArray, List.set_cons_zero, List.set_cons_succ])
  refine wpH_one (i := 6) (by kernel_rfl) (wpOp_enter (fn := 47) (args := #[.pointer (some ⟨vb, 0, none⟩), .int .i64 num, .pointer (some ⟨hb, 0, none⟩)]) (by rfl) (by rfl) (by go_simp) ((P3.out.resize_arg num HX.out).mono ?_))
  rintro e w5 ⟨rfl, hp, hk⟩
  have hk2 : Keeps (K32 w1 Z2 W.heap.size) _ w5 := hk.mono (fun c _ e => .inl e)
  refine ⟨_, rfl, hS0.trans hk2, ?_⟩
  have P3 := Lib.hid hp
  have L3 := Lib.hid (L3.out.keeps hk (fun c hc e => e.1 hc.2.1))
  have K3 := Lib.hid (K3.out.trans (hk.mono (fun c _ e => ⟨fun h => e.1 (HZa.out c h), e.2⟩)))
  have hKK := Lib.hid (hKK.out.trans hk)
  have hS1 := hS0.trans hk2
  clear hS0 hk hp hk2
  have hS0 := hS1
  clear hS1
  (try simp only [Act.put, List.setIfInBounds_toArray, List.set_cons_zero, List.set_cons_succ])
  refine wpH_take (i := 7) (v := .bool true) hB (by rfl) (by kernel_rfl) (fun _ _ _ _ _ h => h) (by rfl) hS0 (fun W hI => by clear hI; go_simp) ?_; (try simp only [Act.put, List.setIfInBounds_toArray, List.set_cons_zero, List.set_cons_succ])
  have D7 := Lib.hid (B3.out.2.2.2.1.keeps hKK.out (fun e => (e.1 (HZ5.out _ (by omega) (by omega))).elim))
  have D8 := Lib.hid (B3.out.2.2.2.2.keeps hKK.out (fun e => (e.1 (HZ5.out _ (by omega) (by omega))).elim))
  obtain ⟨w8, hw8⟩ : ∃ w8, w8 = w5.setRow (W.heap.size + 1 + 1 + 1) #[.int .i64 rows, .int .i64 back] := ⟨_, rfl⟩
  have Hst8 := Lib.hid (show (Instr.storeAt 86 (.pointer (some ⟨W.heap.size + 1 + 1 + 1, 0, none⟩)) (.agg #[.int .i64 rows, .int .i64 back])).run Tryd.prog w5 = .ok () w8 by rw [hw8]; exact run_storeAt_row (P := Tryd.prog) (W := w5) 86 (W.heap.size + 1 + 1 + 1) _ 86 [.int .i64 rows, .int .i64 back] (fun _ => by kernel_rfl) D7.out rfl (by intro v hv; simp only [List.mem_cons, List.not_mem_nil, or_false] at hv; rcases hv with rfl | rfl <;> rfl))
  have Hk8 := Lib.hid (show Keeps (fun b => b = W.heap.size + 1 + 1 + 1) w5 w8 by rw [hw8]; exact ⟨rfl, rfl, rfl, by simp [World.setRow], fun b hb hne => setRow_other w5 _ b _ (fun e => hne e)⟩)
  have E7 := Lib.hid (show RvAt w8 (W.heap.size + 1 + 1 + 1) rows back by rw [hw8]; exact setRow_heap _ _ _ _ _ (0, 0) D7.out)
  have E8 := Lib.hid (D8.out.keeps Hk8.out (fun e => by have e : W.heap.size + 1 + 1 + 1 + 1 = W.heap.size + 1 + 1 + 1 := e; omega))
  clear hw8 D7 D8
  obtain ⟨w9, hw9⟩ : ∃ w9, w9 = w8.setRow (W.heap.size + 1 + 1 + 1 + 1) #[.int .i64 most, .int .i64 first, .slice a n c] := ⟨_, rfl⟩
  have Hst9 := Lib.hid (show (Instr.storeAt 60 (.pointer (some ⟨W.heap.size + 1 + 1 + 1 + 1, 0, none⟩)) (.agg #[.int .i64 most, .int .i64 first, .slice a n c])).run Tryd.prog w8 = .ok () w9 by rw [hw9]; exact run_storeAt_row (P := Tryd.prog) (W := w8) 60 (W.heap.size + 1 + 1 + 1 + 1) _ 60 [.int .i64 most, .int .i64 first, .slice a n c] (fun _ => by kernel_rfl) E8.out rfl (by intro v hv; simp only [List.mem_cons, List.not_mem_nil, or_false] at hv; rcases hv with rfl | rfl | rfl <;> rfl))
  have Hk9 := Lib.hid (show Keeps (fun b => b = W.heap.size + 1 + 1 + 1 + 1) w8 w9 by rw [hw9]; exact ⟨rfl, rfl, rfl, by simp [World.setRow], fun b hb hne => setRow_other w8 _ b _ (fun e => hne e)⟩)
  have G8 := Lib.hid (show HrAt w9 (W.heap.size + 1 + 1 + 1 + 1) most first (.slice a n c) by rw [hw9]; exact setRow_heap _ _ _ _ _ (0, 0) E8.out)
  have G7 := Lib.hid (E7.out.keeps Hk9.out (fun e => by have e : W.heap.size + 1 + 1 + 1 = W.heap.size + 1 + 1 + 1 + 1 := e; omega))
  clear hw9 E8 E7
  have hS8 := hS0.trans (Hk8.out.mono (fun b _ e => (.inr (.inl e) : K32 w1 Z2 W.heap.size b)))
  have hS9 := hS8.trans (Hk9.out.mono (fun b _ e => (.inr (.inr e) : K32 w1 Z2 W.heap.size b)))
  refine wpH_one (i := 8) (by kernel_rfl) (wpOp_skip (w' := w8) (by rfl) (wanted_none (by rfl) _) (exec_store (a := .pointer (some ⟨W.heap.size + 1 + 1 + 1, 0, none⟩)) (v := .agg #[.int .i64 rows, .int .i64 back]) rfl (by go_simp) (by go_simp) Hst8.out) ⟨hS8, ?_⟩)
  (try simp only [Act.put, List.setIfInBounds_toArray, List.set_cons_zero, List.set_cons_succ])
  refine wpH_one (i := 9) (by kernel_rfl) (wpOp_skip (w' := w9) (by rfl) (wanted_none (by rfl) _) (exec_store (a := .pointer (some ⟨W.heap.size + 1 + 1 + 1 + 1, 0, none⟩)) (v := .agg #[.int .i64 most, .int .i64 first, .slice a n c]) rfl (by go_simp) (by go_simp) Hst9.out) ⟨hS9, ?_⟩)
  (try simp only [Act.put, List.setIfInBounds_toArray, List.set_cons_zero, List.set_cons_succ])
  clear hS0
  have hS0 := hS9
  refine wpH_take (i := 10) (v := .bool true) hB (by rfl) (by kernel_rfl) (fun _ _ _ _ _ h => h) (by rfl) hS0 (fun W hI => by clear hI; go_simp) ?_; (try simp only [Act.put, List.setIfInBounds_toArray, List.set_cons_zero, List.set_cons_succ])
  refine wpH_end (by kernel_rfl) ?_
  clear hB hS0 hS8 hS9 Hst8 Hst9
  obtain ⟨z0, z1⟩ := G7.out.c
  obtain ⟨z2, z3, z4⟩ := G8.out.c
  go_wp2
  refine bodyPost_ret_by (v := .tuple #[.agg #[.int .i64 rows, .int .i64 back], .agg #[.int .i64 most, .int .i64 first, .slice a n c], .bool true]) (by simp [results, Tryd.results54, go_sem, z0, z1, z2, z3, z4]) rfl ?_
  exact does32_fin P3.out L3.out K3.out HZa.out HZb.out HZ5.out (Nat.le_refl _) hW1 ((Hk8.out.mono (fun b _ e => .inl e)).trans (Hk9.out.mono (fun b _ e => .inr e))) (.inl rfl) (by rw [← Hn.out]; omega) (by rw [← Hn.out]; omega)
set_option maxRecDepth 100000 in
set_option maxHeartbeats 4000000 in
theorem does32_resize_hi (ht : Tabs w1) (h : VpSt w1 W Z vb hb rows back most first ls) (hv : lnEl.Rd Zl W (.slice a n c) ls) (hZl : ∀ c, Zl c → Z c) (hn : n = ls.length) (hnm : n ≤ 1000) (hbk : back ≤ n) (hfb : first + n ≤ 1000000) (hx : 1000 < num) :
    Calls Tryd.prog 54 #[.pointer (some ⟨vb, 0, none⟩), .pointer (some ⟨hb, 0, none⟩), .agg #[.int .i64 rows, .int .i64 back], .agg #[.int .i64 most, .int .i64 first, .slice a n c], .agg #[.int .i64 3, .int .i64 num]] W fun e w' => DoesP32 w1 W Z Zl vb hb rows most (first + n) 3 num e w' := by
  have fa := h.facts
  have hW1 := h.see.size
  rw [← hn] at fa
  have d1 : decide (num < 1) = false := decide_eq_false (by omega)
  have d2 : decide (num > 1000) = true := decide_eq_true (by omega)
  have HX : Hid (num < 1 ∨ 1000 < num) := Lib.hid (.inr hx)
  have HV := Lib.hid h
  have HL := Lib.hid hv
  have HZl := Lib.hid hZl
  have Hn := Lib.hid hn
  have Ht := Lib.hid ht
  have HZ := Lib.hid h.zlt
  clear h hv hn ht hZl
  go_enter Tryd.func54, Tryd.ntmps54
  go_wp2_with fail
  refine wp_world (fun w2 hw2 => ?_)
  have A2 : BX32 w2 W.heap.size rows back most first (.slice a n c) 3 num := by subst hw2; exact ⟨((((RvAt.new rfl).alloc _).alloc _).alloc _).alloc _, (((HrAt.new (by simp)).alloc _).alloc _).alloc _, ((AcAt32.new (by simp)).alloc _).alloc _, (RvAt.new (by simp)).alloc _, HrAt.new (by simp)⟩
  have S2 : Sees W w2 := by subst hw2; exact (((((Sees.refl W).alloc _).alloc _).alloc _).alloc _).alloc _
  have hz2 : w2.heap.size = W.heap.size + 5 := by subst hw2; simp
  clear hw2
  obtain ⟨Z2, hZ2⟩ : ∃ Z2 : Nat → Prop, Z2 = fun c => Z c ∨ (W.heap.size ≤ c ∧ c < w2.heap.size) := ⟨_, rfl⟩
  have P2 := Lib.hid (HV.out.more S2)
  rw [← hZ2] at P2
  have L2 : Hid (lnEl.Rd (fun c => (Zl c ∨ W.heap.size ≤ c) ∧ Z2 c ∧ c ≠ W.heap.size + 1 + 1 + 1 ∧ c ≠ W.heap.size + 1 + 1 + 1 + 1) w2 (.slice a n c) ls) := Lib.hid ((HL.out.sees S2).mono (fun c _ h => ⟨.inl h, by rw [hZ2]; exact .inl (HZl.out c h), by have := HZ.out c (HZl.out c h); omega, by have := HZ.out c (HZl.out c h); omega⟩))
  have HZ5 : Hid (∀ c, W.heap.size ≤ c → c < W.heap.size + 5 → Z2 c) := Lib.hid (fun c h1 h2 => by rw [hZ2]; exact .inr ⟨h1, by omega⟩)
  have HZa : Hid (∀ c, Z c → Z2 c) := Lib.hid (fun c h => by rw [hZ2]; exact .inl h)
  have HZb : Hid (∀ c, Z2 c → Z c ∨ W.heap.size ≤ c) := Lib.hid (fun c h => by rw [hZ2] at h; rcases h with h | h; exact .inl h; exact .inr h.1)
  have B2 := Lib.hid A2
  have K2 := Lib.hid (Keeps.of_sees (F := Chg w1 Z) S2)
  clear hZ2 A2 S2 hz2 HV HL
  refine wpH_go (K32 w1 Z2 W.heap.size) 11 (by kernel_rfl) (by kernel_rfl) (by rfl) (fun hB w3 hs3 => ?_)
  have B3 := Lib.hid (B2.out.sees hs3)
  have P3 := Lib.hid (P2.out.sees hs3)
  have L3 := Lib.hid (L2.out.sees hs3)
  have K3 := Lib.hid (K2.out.trans (Keeps.of_sees hs3))
  have HKo := Lib.hid (K32.out (w1 := w1) HZ5.out)
  clear hs3 B2 P2 L2 K2
  have hS0 : Keeps (K32 w1 Z2 W.heap.size) w3 w3 := Keeps.refl _ w3
  have hKK : Hid (Keeps (Chg w1 Z2) w3 w3) := Lib.hid (Keeps.refl _ _)
  refine wpH_take (i := 0) (v := .agg #[.int .i64 rows, .int .i64 back]) hB (by rfl) (by kernel_rfl) (fun _ _ _ _ _ h => h) (by rfl) hS0 (fun W hI => by have q := B3.out.c hI HKo.out; obtain ⟨q0, q1, q2, q3, q4, q5, q6⟩ := q; clear hI; go_simp) ?_; (try simp only [Act.put, List.setIfInBounds_toArray, List.set_cons_zero, List.set_cons_succ])
  refine wpH_take (i := 1) (v := .agg #[.int .i64 most, .int .i64 first, .slice a n c]) hB (by rfl) (by kernel_rfl) (fun _ _ _ _ _ h => h) (by rfl) hS0 (fun W hI => by have q := B3.out.c hI HKo.out; obtain ⟨q0, q1, q2, q3, q4, q5, q6⟩ := q; clear hI; go_simp) ?_; (try simp only [Act.put, List.setIfInBounds_toArray, List.set_cons_zero, List.set_cons_succ])
  refine wpH_take (i := 2) (v := .pointer (some ⟨vb, 0, none⟩)) hB (by rfl) (by kernel_rfl) (fun _ _ _ _ _ h => h) (by rfl) hS0 (fun W hI => by clear hI; go_simp) ?_; (try simp only [Act.put, List.setIfInBounds_toArray, List.set_cons_zero, List.set_cons_succ])
  refine wpH_take (i := 3) (v := .pointer (some ⟨W.heap.size + 1 + 1, 1, none⟩)) hB (by rfl) (by kernel_rfl) (fun _ _ _ _ _ h => h) (by rfl) hS0 (fun W hI => by clear hI; go_simp) ?_; (try simp only [Act.put, List.setIfInBounds_toArray, List.set_cons_zero, List.set_cons_succ])
  refine wpH_take (i := 4) (v := .int .i64 num) hB (by rfl) (by kernel_rfl) (fun _ _ _ _ _ h => h) (by rfl) hS0 (fun W hI => by have q := B3.out.c hI HKo.out; obtain ⟨q0, q1, q2, q3, q4, q5, q6⟩ := q; clear hI; go_simp) ?_; (try simp only [Act.put, List.setIfInBounds_toArray, List.set_cons_zero, List.set_cons_succ])
  refine wpH_take (i := 5) (v := .pointer (some ⟨hb, 0, none⟩)) hB (by rfl) (by kernel_rfl) (fun _ _ _ _ _ h => h) (by rfl) hS0 (fun W hI => by clear hI; go_simp) ?_; (try simp only [Act.put, List.setIfInBounds_toArray, List.set_cons_zero, List.set_cons_succ])
  refine wpH_one (i := 6) (by kernel_rfl) (wpOp_enter (fn := 47) (args := #[.pointer (some ⟨vb, 0, none⟩), .int .i64 num, .pointer (some ⟨hb, 0, none⟩)]) (by rfl) (by rfl) (by go_simp) ((P3.out.resize_arg num HX.out).mono ?_))
  rintro e w5 ⟨rfl, hp, hk⟩
  have hk2 : Keeps (K32 w1 Z2 W.heap.size) _ w5 := hk.mono (fun c _ e => .inl e)
  refine ⟨_, rfl, hS0.trans hk2, ?_⟩
  have P3 := Lib.hid hp
  have L3 := Lib.hid (L3.out.keeps hk (fun c hc e => e.1 hc.2.1))
  have K3 := Lib.hid (K3.out.trans (hk.mono (fun c _ e => ⟨fun h => e.1 (HZa.out c h), e.2⟩)))
  have hKK := Lib.hid (hKK.out.trans hk)
  have hS1 := hS0.trans hk2
  clear hS0 hk hp hk2
  have hS0 := hS1
  clear hS1
  (try simp only [Act.put, List.setIfInBounds_toArray, List.set_cons_zero, List.set_cons_succ])
  refine wpH_take (i := 7) (v := .bool true) hB (by rfl) (by kernel_rfl) (fun _ _ _ _ _ h => h) (by rfl) hS0 (fun W hI => by clear hI; go_simp) ?_; (try simp only [Act.put, List.setIfInBounds_toArray, List.set_cons_zero, List.set_cons_succ])
  have D7 := Lib.hid (B3.out.2.2.2.1.keeps hKK.out (fun e => (e.1 (HZ5.out _ (by omega) (by omega))).elim))
  have D8 := Lib.hid (B3.out.2.2.2.2.keeps hKK.out (fun e => (e.1 (HZ5.out _ (by omega) (by omega))).elim))
  obtain ⟨w8, hw8⟩ : ∃ w8, w8 = w5.setRow (W.heap.size + 1 + 1 + 1) #[.int .i64 rows, .int .i64 back] := ⟨_, rfl⟩
  have Hst8 := Lib.hid (show (Instr.storeAt 86 (.pointer (some ⟨W.heap.size + 1 + 1 + 1, 0, none⟩)) (.agg #[.int .i64 rows, .int .i64 back])).run Tryd.prog w5 = .ok () w8 by rw [hw8]; exact run_storeAt_row (P := Tryd.prog) (W := w5) 86 (W.heap.size + 1 + 1 + 1) _ 86 [.int .i64 rows, .int .i64 back] (fun _ => by kernel_rfl) D7.out rfl (by intro v hv; simp only [List.mem_cons, List.not_mem_nil, or_false] at hv; rcases hv with rfl | rfl <;> rfl))
  have Hk8 := Lib.hid (show Keeps (fun b => b = W.heap.size + 1 + 1 + 1) w5 w8 by rw [hw8]; exact ⟨rfl, rfl, rfl, by simp [World.setRow], fun b hb hne => setRow_other w5 _ b _ (fun e => hne e)⟩)
  have E7 := Lib.hid (show RvAt w8 (W.heap.size + 1 + 1 + 1) rows back by rw [hw8]; exact setRow_heap _ _ _ _ _ (0, 0) D7.out)
  have E8 := Lib.hid (D8.out.keeps Hk8.out (fun e => by have e : W.heap.size + 1 + 1 + 1 + 1 = W.heap.size + 1 + 1 + 1 := e; omega))
  clear hw8 D7 D8
  obtain ⟨w9, hw9⟩ : ∃ w9, w9 = w8.setRow (W.heap.size + 1 + 1 + 1 + 1) #[.int .i64 most, .int .i64 first, .slice a n c] := ⟨_, rfl⟩
  have Hst9 := Lib.hid (show (Instr.storeAt 60 (.pointer (some ⟨W.heap.size + 1 + 1 + 1 + 1, 0, none⟩)) (.agg #[.int .i64 most, .int .i64 first, .slice a n c])).run Tryd.prog w8 = .ok () w9 by rw [hw9]; exact run_storeAt_row (P := Tryd.prog) (W := w8) 60 (W.heap.size + 1 + 1 + 1 + 1) _ 60 [.int .i64 most, .int .i64 first, .slice a n c] (fun _ => by kernel_rfl) E8.out rfl (by intro v hv; simp only [List.mem_cons, List.not_mem_nil, or_false] at hv; rcases hv with rfl | rfl | rfl <;> rfl))
  have Hk9 := Lib.hid (show Keeps (fun b => b = W.heap.size + 1 + 1 + 1 + 1) w8 w9 by rw [hw9]; exact ⟨rfl, rfl, rfl, by simp [World.setRow], fun b hb hne => setRow_other w8 _ b _ (fun e => hne e)⟩)
  have G8 := Lib.hid (show HrAt w9 (W.heap.size + 1 + 1 + 1 + 1) most first (.slice a n c) by rw [hw9]; exact setRow_heap _ _ _ _ _ (0, 0) E8.out)
  have G7 := Lib.hid (E7.out.keeps Hk9.out (fun e => by have e : W.heap.size + 1 + 1 + 1 = W.heap.size + 1 + 1 + 1 + 1 := e; omega))
  clear hw9 E8 E7
  have hS8 := hS0.trans (Hk8.out.mono (fun b _ e => (.inr (.inl e) : K32 w1 Z2 W.heap.size b)))
  have hS9 := hS8.trans (Hk9.out.mono (fun b _ e => (.inr (.inr e) : K32 w1 Z2 W.heap.size b)))
  refine wpH_one (i := 8) (by kernel_rfl) (wpOp_skip (w' := w8) (by rfl) (wanted_none (by rfl) _) (exec_store (a := .pointer (some ⟨W.heap.size + 1 + 1 + 1, 0, none⟩)) (v := .agg #[.int .i64 rows, .int .i64 back]) rfl (by go_simp) (by go_simp) Hst8.out) ⟨hS8, ?_⟩)
  (try simp only [Act.put, List.setIfInBounds_toArray, List.set_cons_zero, List.set_cons_succ])
  refine wpH_one (i := 9) (by kernel_rfl) (wpOp_skip (w' := w9) (by rfl) (wanted_none (by rfl) _) (exec_store (a := .pointer (some ⟨W.heap.size + 1 + 1 + 1 + 1, 0, none⟩)) (v := .agg #[.int .i64 most, .int .i64 first, .slice a n c]) rfl (by go_simp) (by go_simp) Hst9.out) ⟨hS9, ?_⟩)
  (try simp only [Act.put, List.setIfInBounds_toArray, List.set_cons_zero, List.set_cons_succ])
  clear hS0
  have hS0 := hS9
  refine wpH_take (i := 10) (v := .bool true) hB (by rfl) (by kernel_rfl) (fun _ _ _ _ _ h => h) (by rfl) hS0 (fun W hI => by clear hI; go_simp) ?_; (try simp only [Act.put, List.setIfInBounds_toArray, List.set_cons_zero, List.set_cons_succ])
  refine wpH_end (by kernel_rfl) ?_
  clear hB hS0 hS8 hS9 Hst8 Hst9
  obtain ⟨z0, z1⟩ := G7.out.c
  obtain ⟨z2, z3, z4⟩ := G8.out.c
  go_wp2
  refine bodyPost_ret_by (v := .tuple #[.agg #[.int .i64 rows, .int .i64 back], .agg #[.int .i64 most, .int .i64 first, .slice a n c], .bool true]) (by simp [results, Tryd.results54, go_sem, z0, z1, z2, z3, z4]) rfl ?_
  exact does32_fin P3.out L3.out K3.out HZa.out HZb.out HZ5.out (Nat.le_refl _) hW1 ((Hk8.out.mono (fun b _ e => .inl e)).trans (Hk9.out.mono (fun b _ e => .inr e))) (.inl rfl) (by rw [← Hn.out]; omega) (by rw [← Hn.out]; omega)
set_option maxRecDepth 100000 in
set_option maxHeartbeats 4000000 in
theorem does32_resize (r2 : Nat) (ht : Tabs w1) (h : VpSt w1 W Z vb hb rows back most first ls) (hv : lnEl.Rd Zl W (.slice a n c) ls) (hZl : ∀ c, Zl c → Z c) (hn : n = ls.length) (hnm : n ≤ 1000) (hbk : back ≤ n) (hfb : first + n ≤ 1000000) (hx1 : 1 ≤ r2) (hx2 : r2 ≤ 1000) :
    Calls Tryd.prog 54 #[.pointer (some ⟨vb, 0, none⟩), .pointer (some ⟨hb, 0, none⟩), .agg #[.int .i64 rows, .int .i64 back], .agg #[.int .i64 most, .int .i64 first, .slice a n c], .agg #[.int .i64 3, .int .i64 (r2 : Int)]] W fun e w' => DoesP32 w1 W Z Zl vb hb rows most (first + n) 3 (r2 : Int) e w' := by
  have fa := h.facts
  have hW1 := h.see.size
  rw [← hn] at fa
  have d1 : decide ((r2 : Int) < 1) = false := decide_eq_false (by omega)
  have d2 : decide ((r2 : Int) > 1000) = false := decide_eq_false (by omega)
  obtain ⟨k, hk, hkn⟩ := clampV_nat back n
  have Hk := Lib.hid hk
  clear hk
  have HV := Lib.hid h
  have HL := Lib.hid hv
  have HZl := Lib.hid hZl
  have Hn := Lib.hid hn
  have Ht := Lib.hid ht
  have HZ := Lib.hid h.zlt
  clear h hv hn ht hZl
  go_enter Tryd.func54, Tryd.ntmps54
  go_wp2_with fail
  refine wp_world (fun w2 hw2 => ?_)
  have A2 : BX32 w2 W.heap.size rows back most first (.slice a n c) 3 (r2 : Int) := by subst hw2; exact ⟨((((RvAt.new rfl).alloc _).alloc _).alloc _).alloc _, (((HrAt.new (by simp)).alloc _).alloc _).alloc _, ((AcAt32.new (by simp)).alloc _).alloc _, (RvAt.new (by simp)).alloc _, HrAt.new (by simp)⟩
  have S2 : Sees W w2 := by subst hw2; exact (((((Sees.refl W).alloc _).alloc _).alloc _).alloc _).alloc _
  have hz2 : w2.heap.size = W.heap.size + 5 := by subst hw2; simp
  clear hw2
  obtain ⟨Z2, hZ2⟩ : ∃ Z2 : Nat → Prop, Z2 = fun c => Z c ∨ (W.heap.size ≤ c ∧ c < w2.heap.size) := ⟨_, rfl⟩
  have P2 := Lib.hid (HV.out.more S2)
  rw [← hZ2] at P2
  have L2 : Hid (lnEl.Rd (fun c => (Zl c ∨ W.heap.size ≤ c) ∧ Z2 c ∧ c ≠ W.heap.size + 1 + 1 + 1 ∧ c ≠ W.heap.size + 1 + 1 + 1 + 1) w2 (.slice a n c) ls) := Lib.hid ((HL.out.sees S2).mono (fun c _ h => ⟨.inl h, by rw [hZ2]; exact .inl (HZl.out c h), by have := HZ.out c (HZl.out c h); omega, by have := HZ.out c (HZl.out c h); omega⟩))
  have HZ5 : Hid (∀ c, W.heap.size ≤ c → c < W.heap.size + 5 → Z2 c) := Lib.hid (fun c h1 h2 => by rw [hZ2]; exact .inr ⟨h1, by omega⟩)
  have HZa : Hid (∀ c, Z c → Z2 c) := Lib.hid (fun c h => by rw [hZ2]; exact .inl h)
  have HZb : Hid (∀ c, Z2 c → Z c ∨ W.heap.size ≤ c) := Lib.hid (fun c h => by rw [hZ2] at h; rcases h with h | h; exact .inl h; exact .inr h.1)
  have B2 := Lib.hid A2
  have K2 := Lib.hid (Keeps.of_sees (F := Chg w1 Z) S2)
  clear hZ2 A2 S2 hz2 HV HL
  refine wpH_go (K32 w1 Z2 W.heap.size) 15 (by kernel_rfl) (by kernel_rfl) (by rfl) (fun hB w3 hs3 => ?_)
  have B3 := Lib.hid (B2.out.sees hs3)
  have P3 := Lib.hid (P2.out.sees hs3)
  have L3 := Lib.hid (L2.out.sees hs3)
  have K3 := Lib.hid (K2.out.trans (Keeps.of_sees hs3))
  have HKo := Lib.hid (K32.out (w1 := w1) HZ5.out)
  clear hs3 B2 P2 L2 K2
  have hS0 : Keeps (K32 w1 Z2 W.heap.size) w3 w3 := Keeps.refl _ w3
  have hKK : Hid (Keeps (Chg w1 Z2) w3 w3) := Lib.hid (Keeps.refl _ _)
  refine wpH_take (i := 0) (v := .agg #[.int .i64 rows, .int .i64 back]) hB (by rfl) (by kernel_rfl) (fun _ _ _ _ _ h => h) (by rfl) hS0 (fun W hI => by have q := B3.out.c hI HKo.out; obtain ⟨q0, q1, q2, q3, q4, q5, q6⟩ := q; clear hI; go_simp) ?_; (try simp only [Act.put, List.setIfInBounds_toArray, List.set_cons_zero, List.set_cons_succ])
  refine wpH_take (i := 1) (v := .pointer (some ⟨W.heap.size + 1 + 1, 1, none⟩)) hB (by rfl) (by kernel_rfl) (fun _ _ _ _ _ h => h) (by rfl) hS0 (fun W hI => by clear hI; go_simp) ?_; (try simp only [Act.put, List.setIfInBounds_toArray, List.set_cons_zero, List.set_cons_succ])
  refine wpH_take (i := 2) (v := .int .i64 (r2 : Int)) hB (by rfl) (by kernel_rfl) (fun _ _ _ _ _ h => h) (by rfl) hS0 (fun W hI => by have q := B3.out.c hI HKo.out; obtain ⟨q0, q1, q2, q3, q4, q5, q6⟩ := q; clear hI; go_simp) ?_; (try simp only [Act.put, List.setIfInBounds_toArray, List.set_cons_zero, List.set_cons_succ])
  refine wpH_take (i := 3) (v := .agg #[.int .i64 most, .int .i64 first, .slice a n c]) hB (by rfl) (by kernel_rfl) (fun _ _ _ _ _ h => h) (by rfl) hS0 (fun W hI => by have q := B3.out.c hI HKo.out; obtain ⟨q0, q1, q2, q3, q4, q5, q6⟩ := q; clear hI; go_simp) ?_; (try simp only [Act.put, List.setIfInBounds_toArray, List.set_cons_zero, List.set_cons_succ])
  refine wpH_take (i := 5) (v := .agg #[.int .i64 most, .int .i64 first, .slice a n c]) hB (by rfl) (by kernel_rfl) (fun _ _ _ _ _ h => h) (by rfl) hS0 (fun W hI => by have q := B3.out.c hI HKo.out; obtain ⟨q0, q1, q2, q3, q4, q5, q6⟩ := q; clear hI; go_simp) ?_; (try simp only [Act.put, List.setIfInBounds_toArray, List.set_cons_zero, List.set_cons_succ])
  refine wpH_take (i := 6) (v := .pointer (some ⟨vb, 0, none⟩)) hB (by rfl) (by kernel_rfl) (fun _ _ _ _ _ h => h) (by rfl) hS0 (fun W hI => by clear hI; go_simp) ?_; (try simp only [Act.put, List.setIfInBounds_toArray, List.set_cons_zero, List.set_cons_succ])
  refine wpH_take (i := 7) (v := .pointer (some ⟨W.heap.size + 1 + 1, 1, none⟩)) hB (by rfl) (by kernel_rfl) (fun _ _ _ _ _ h => h) (by rfl) hS0 (fun W hI => by clear hI; go_simp) ?_; (try simp only [Act.put, List.setIfInBounds_toArray, List.set_cons_zero, List.set_cons_succ])
  refine wpH_take (i := 8) (v := .int .i64 (r2 : Int)) hB (by rfl) (by kernel_rfl) (fun _ _ _ _ _ h => h) (by rfl) hS0 (fun W hI => by have q := B3.out.c hI HKo.out; obtain ⟨q0, q1, q2, q3, q4, q5, q6⟩ := q; clear hI; go_simp) ?_; (try simp only [Act.put, List.setIfInBounds_toArray, List.set_cons_zero, List.set_cons_succ])
  refine wpH_take (i := 9) (v := .pointer (some ⟨hb, 0, none⟩)) hB (by rfl) (by kernel_rfl) (fun _ _ _ _ _ h => h) (by rfl) hS0 (fun W hI => by clear hI; go_simp) ?_; (try simp only [Act.put, List.setIfInBounds_toArray, List.set_cons_zero, List.set_cons_succ])
  refine wpH_one (i := 4) (by kernel_rfl) (wpOp_enter (fn := 82) (args := #[.agg #[.int .i64 rows, .int .i64 back], .int .i64 (r2 : Int), .agg #[.int .i64 most, .int .i64 first, .slice a n c]]) (by rfl) (by rfl) (by go_simp) ((refResize32 rows r2 back k most first a n c w3 Hk.out).mono ?_))
  rintro e w4 ⟨rfl, hs⟩
  refine ⟨_, rfl, hS0.trans (Keeps.of_sees hs), ?_⟩
  have P3 := Lib.hid (P3.out.sees hs)
  have L3 := Lib.hid (L3.out.sees hs)
  have K3 := Lib.hid (K3.out.trans (Keeps.of_sees hs))
  have hKK := Lib.hid (hKK.out.trans (Keeps.of_sees hs))
  have hS1 := hS0.trans (Keeps.of_sees hs)
  clear hS0 hs
  have hS0 := hS1
  clear hS1
  (try simp only [Act.put, List.setIfInBounds_toArray, List.set_cons_zero, List.set_cons_succ])
  refine wpH_one (i := 10) (by kernel_rfl) (wpOp_enter (fn := 47) (args := #[.pointer (some ⟨vb, 0, none⟩), .int .i64 (r2 : Int), .pointer (some ⟨hb, 0, none⟩)]) (by rfl) (by rfl) (by go_simp) ((P3.out.resize r2 hx1 hx2 k (by rw [← Hn.out]; exact Hk.out)).mono ?_))
  rintro e w5 ⟨rfl, hp, hk⟩
  have hk2 : Keeps (K32 w1 Z2 W.heap.size) _ w5 := hk.mono (fun c _ e => .inl e)
  refine ⟨_, rfl, hS0.trans hk2, ?_⟩
  have P3 := Lib.hid hp
  have L3 := Lib.hid (L3.out.keeps hk (fun c hc e => e.1 hc.2.1))
  have K3 := Lib.hid (K3.out.trans (hk.mono (fun c _ e => ⟨fun h => e.1 (HZa.out c h), e.2⟩)))
  have hKK := Lib.hid (hKK.out.trans hk)
  have hS1 := hS0.trans hk2
  clear hS0 hk hp hk2
  have hS0 := hS1
  clear hS1
  (try simp only [Act.put, List.setIfInBounds_toArray, List.set_cons_zero, List.set_cons_succ])
  refine wpH_take (i := 11) (v := .bool true) hB (by rfl) (by kernel_rfl) (fun _ _ _ _ _ h => h) (by rfl) hS0 (fun W hI => by clear hI; go_simp) ?_; (try simp only [Act.put, List.setIfInBounds_toArray, List.set_cons_zero, List.set_cons_succ])
  have D7 := Lib.hid (B3.out.2.2.2.1.keeps hKK.out (fun e => (e.1 (HZ5.out _ (by omega) (by omega))).elim))
  have D8 := Lib.hid (B3.out.2.2.2.2.keeps hKK.out (fun e => (e.1 (HZ5.out _ (by omega) (by omega))).elim))
  obtain ⟨w8, hw8⟩ : ∃ w8, w8 = w5.setRow (W.heap.size + 1 + 1 + 1) #[.int .i64 r2, .int .i64 k] := ⟨_, rfl⟩
  have Hst8 := Lib.hid (show (Instr.storeAt 86 (.pointer (some ⟨W.heap.size + 1 + 1 + 1, 0, none⟩)) (.agg #[.int .i64 r2, .int .i64 k])).run Tryd.prog w5 = .ok () w8 by rw [hw8]; exact run_storeAt_row (P := Tryd.prog) (W := w5) 86 (W.heap.size + 1 + 1 + 1) _ 86 [.int .i64 r2, .int .i64 k] (fun _ => by kernel_rfl) D7.out rfl (by intro v hv; simp only [List.mem_cons, List.not_mem_nil, or_false] at hv; rcases hv with rfl | rfl <;> rfl))
  have Hk8 := Lib.hid (show Keeps (fun b => b = W.heap.size + 1 + 1 + 1) w5 w8 by rw [hw8]; exact ⟨rfl, rfl, rfl, by simp [World.setRow], fun b hb hne => setRow_other w5 _ b _ (fun e => hne e)⟩)
  have E7 := Lib.hid (show RvAt w8 (W.heap.size + 1 + 1 + 1) r2 k by rw [hw8]; exact setRow_heap _ _ _ _ _ (0, 0) D7.out)
  have E8 := Lib.hid (D8.out.keeps Hk8.out (fun e => by have e : W.heap.size + 1 + 1 + 1 + 1 = W.heap.size + 1 + 1 + 1 := e; omega))
  clear hw8 D7 D8
  obtain ⟨w9, hw9⟩ : ∃ w9, w9 = w8.setRow (W.heap.size + 1 + 1 + 1 + 1) #[.int .i64 most, .int .i64 first, .slice a n c] := ⟨_, rfl⟩
  have Hst9 := Lib.hid (show (Instr.storeAt 60 (.pointer (some ⟨W.heap.size + 1 + 1 + 1 + 1, 0, none⟩)) (.agg #[.int .i64 most, .int .i64 first, .slice a n c])).run Tryd.prog w8 = .ok () w9 by rw [hw9]; exact run_storeAt_row (P := Tryd.prog) (W := w8) 60 (W.heap.size + 1 + 1 + 1 + 1) _ 60 [.int .i64 most, .int .i64 first, .slice a n c] (fun _ => by kernel_rfl) E8.out rfl (by intro v hv; simp only [List.mem_cons, List.not_mem_nil, or_false] at hv; rcases hv with rfl | rfl | rfl <;> rfl))
  have Hk9 := Lib.hid (show Keeps (fun b => b = W.heap.size + 1 + 1 + 1 + 1) w8 w9 by rw [hw9]; exact ⟨rfl, rfl, rfl, by simp [World.setRow], fun b hb hne => setRow_other w8 _ b _ (fun e => hne e)⟩)
  have G8 := Lib.hid (show HrAt w9 (W.heap.size + 1 + 1 + 1 + 1) most first (.slice a n c) by rw [hw9]; exact setRow_heap _ _ _ _ _ (0, 0) E8.out)
  have G7 := Lib.hid (E7.out.keeps Hk9.out (fun e => by have e : W.heap.size + 1 + 1 + 1 = W.heap.size + 1 + 1 + 1 + 1 := e; omega))
  clear hw9 E8 E7
  have hS8 := hS0.trans (Hk8.out.mono (fun b _ e => (.inr (.inl e) : K32 w1 Z2 W.heap.size b)))
  have hS9 := hS8.trans (Hk9.out.mono (fun b _ e => (.inr (.inr e) : K32 w1 Z2 W.heap.size b)))
  refine wpH_one (i := 12) (by kernel_rfl) (wpOp_skip (w' := w8) (by rfl) (wanted_none (by rfl) _) (exec_store (a := .pointer (some ⟨W.heap.size + 1 + 1 + 1, 0, none⟩)) (v := .agg #[.int .i64 r2, .int .i64 k]) rfl (by go_simp) (by go_simp) Hst8.out) ⟨hS8, ?_⟩)
  (try simp only [Act.put, List.setIfInBounds_toArray, List.set_cons_zero, List.set_cons_succ])
  refine wpH_one (i := 13) (by kernel_rfl) (wpOp_skip (w' := w9) (by rfl) (wanted_none (by rfl) _) (exec_store (a := .pointer (some ⟨W.heap.size + 1 + 1 + 1 + 1, 0, none⟩)) (v := .agg #[.int .i64 most, .int .i64 first, .slice a n c]) rfl (by go_simp) (by go_simp) Hst9.out) ⟨hS9, ?_⟩)
  (try simp only [Act.put, List.setIfInBounds_toArray, List.set_cons_zero, List.set_cons_succ])
  clear hS0
  have hS0 := hS9
  refine wpH_take (i := 14) (v := .bool true) hB (by rfl) (by kernel_rfl) (fun _ _ _ _ _ h => h) (by rfl) hS0 (fun W hI => by clear hI; go_simp) ?_; (try simp only [Act.put, List.setIfInBounds_toArray, List.set_cons_zero, List.set_cons_succ])
  refine wpH_end (by kernel_rfl) ?_
  clear hB hS0 hS8 hS9 Hst8 Hst9
  obtain ⟨z0, z1⟩ := G7.out.c
  obtain ⟨z2, z3, z4⟩ := G8.out.c
  go_wp2
  refine bodyPost_ret_by (v := .tuple #[.agg #[.int .i64 r2, .int .i64 k], .agg #[.int .i64 most, .int .i64 first, .slice a n c], .bool true]) (by simp [results, Tryd.results54, go_sem, z0, z1, z2, z3, z4]) rfl ?_
  exact does32_fin P3.out L3.out K3.out HZa.out HZb.out HZ5.out (Nat.le_refl _) hW1 ((Hk8.out.mono (fun b _ e => .inl e)).trans (Hk9.out.mono (fun b _ e => .inr e))) (.inr ⟨rfl, rfl⟩) (by rw [← Hn.out]; exact hkn) (by rw [← Hn.out]; omega)
set_option maxRecDepth 100000 in
set_option maxHeartbeats 4000000 in
theorem does32_pushed_bad (ht : Tabs w1) (h : VpSt w1 W Z vb hb rows back most first ls) (hv : lnEl.Rd Zl W (.slice a n c) ls) (hZl : ∀ c, Zl c → Z c) (hn : n = ls.length) (hnm : n ≤ 1000) (hbk : back ≤ n) (hfb : first + n ≤ 1000000) (hx : num < 0) :
    Calls Tryd.prog 54 #[.pointer (some ⟨vb, 0, none⟩), .pointer (some ⟨hb, 0, none⟩), .agg #[.int .i64 rows, .int .i64 back], .agg #[.int .i64 most, .int .i64 first, .slice a n c], .agg #[.int .i64 5, .int .i64 num]] W fun e w' => DoesP32 w1 W Z Zl vb hb rows most (first + n) 5 num e w' := by
  have fa := h.facts
  have hW1 := h.see.size
  rw [← hn] at fa
  have d1 : decide (num < 0) = true := decide_eq_true hx
  have HX := Lib.hid hx
  have HV := Lib.hid h
  have HL := Lib.hid hv
  have HZl := Lib.hid hZl
  have Hn := Lib.hid hn
  have Ht := Lib.hid ht
  have HZ := Lib.hid h.zlt
  clear h hv hn ht hZl
  go_enter Tryd.func54, Tryd.ntmps54
  go_wp2_with fail
  refine wp_world (fun w2 hw2 => ?_)
  have A2 : BX32 w2 W.heap.size rows back most first (.slice a n c) 5 num := by subst hw2; exact ⟨((((RvAt.new rfl).alloc _).alloc _).alloc _).alloc _, (((HrAt.new (by simp)).alloc _).alloc _).alloc _, ((AcAt32.new (by simp)).alloc _).alloc _, (RvAt.new (by simp)).alloc _, HrAt.new (by simp)⟩
  have S2 : Sees W w2 := by subst hw2; exact (((((Sees.refl W).alloc _).alloc _).alloc _).alloc _).alloc _
  have hz2 : w2.heap.size = W.heap.size + 5 := by subst hw2; simp
  clear hw2
  obtain ⟨Z2, hZ2⟩ : ∃ Z2 : Nat → Prop, Z2 = fun c => Z c ∨ (W.heap.size ≤ c ∧ c < w2.heap.size) := ⟨_, rfl⟩
  have P2 := Lib.hid (HV.out.more S2)
  rw [← hZ2] at P2
  have L2 : Hid (lnEl.Rd (fun c => (Zl c ∨ W.heap.size ≤ c) ∧ Z2 c ∧ c ≠ W.heap.size + 1 + 1 + 1 ∧ c ≠ W.heap.size + 1 + 1 + 1 + 1) w2 (.slice a n c) ls) := Lib.hid ((HL.out.sees S2).mono (fun c _ h => ⟨.inl h, by rw [hZ2]; exact .inl (HZl.out c h), by have := HZ.out c (HZl.out c h); omega, by have := HZ.out c (HZl.out c h); omega⟩))
  have HZ5 : Hid (∀ c, W.heap.size ≤ c → c < W.heap.size + 5 → Z2 c) := Lib.hid (fun c h1 h2 => by rw [hZ2]; exact .inr ⟨h1, by omega⟩)
  have HZa : Hid (∀ c, Z c → Z2 c) := Lib.hid (fun c h => by rw [hZ2]; exact .inl h)
  have HZb : Hid (∀ c, Z2 c → Z c ∨ W.heap.size ≤ c) := Lib.hid (fun c h => by rw [hZ2] at h; rcases h with h | h; exact .inl h; exact .inr h.1)
  have B2 := Lib.hid A2
  have K2 := Lib.hid (Keeps.of_sees (F := Chg w1 Z) S2)
  clear hZ2 A2 S2 hz2 HV HL
  refine wpH_go (K32 w1 Z2 W.heap.size) 11 (by kernel_rfl) (by kernel_rfl) (by rfl) (fun hB w3 hs3 => ?_)
  have B3 := Lib.hid (B2.out.sees hs3)
  have P3 := Lib.hid (P2.out.sees hs3)
  have L3 := Lib.hid (L2.out.sees hs3)
  have K3 := Lib.hid (K2.out.trans (Keeps.of_sees hs3))
  have HKo := Lib.hid (K32.out (w1 := w1) HZ5.out)
  clear hs3 B2 P2 L2 K2
  have hS0 : Keeps (K32 w1 Z2 W.heap.size) w3 w3 := Keeps.refl _ w3
  have hKK : Hid (Keeps (Chg w1 Z2) w3 w3) := Lib.hid (Keeps.refl _ _)
  refine wpH_take (i := 0) (v := .agg #[.int .i64 rows, .int .i64 back]) hB (by rfl) (by kernel_rfl) (fun _ _ _ _ _ h => h) (by rfl) hS0 (fun W hI => by have q := B3.out.c hI HKo.out; obtain ⟨q0, q1, q2, q3, q4, q5, q6⟩ := q; clear hI; go_simp) ?_; (try simp only [Act.put, List.setIfInBounds_toArray, List.set_cons_zero, List.set_cons_succ])
  refine wpH_take (i := 1) (v := .agg #[.int .i64 most, .int .i64 first, .slice a n c]) hB (by rfl) (by kernel_rfl) (fun _ _ _ _ _ h => h) (by rfl) hS0 (fun W hI => by have q := B3.out.c hI HKo.out; obtain ⟨q0, q1, q2, q3, q4, q5, q6⟩ := q; clear hI; go_simp) ?_; (try simp only [Act.put, List.setIfInBounds_toArray, List.set_cons_zero, List.set_cons_succ])
  refine wpH_take (i := 2) (v := .pointer (some ⟨vb, 0, none⟩)) hB (by rfl) (by kernel_rfl) (fun _ _ _ _ _ h => h) (by rfl) hS0 (fun W hI => by clear hI; go_simp) ?_; (try simp only [Act.put, List.setIfInBounds_toArray, List.set_cons_zero, List.set_cons_succ])
  refine wpH_take (i := 3) (v := .pointer (some ⟨W.heap.size + 1 + 1, 1, none⟩)) hB (by rfl) (by kernel_rfl) (fun _ _ _ _ _ h => h) (by rfl) hS0 (fun W hI => by clear hI; go_simp) ?_; (try simp only [Act.put, List.setIfInBounds_toArray, List.set_cons_zero, List.set_cons_succ])
  refine wpH_take (i := 4) (v := .int .i64 num) hB (by rfl) (by kernel_rfl) (fun _ _ _ _ _ h => h) (by rfl) hS0 (fun W hI => by have q := B3.out.c hI HKo.out; obtain ⟨q0, q1, q2, q3, q4, q5, q6⟩ := q; clear hI; go_simp) ?_; (try simp only [Act.put, List.setIfInBounds_toArray, List.set_cons_zero, List.set_cons_succ])
  refine wpH_take (i := 5) (v := .pointer (some ⟨hb, 0, none⟩)) hB (by rfl) (by kernel_rfl) (fun _ _ _ _ _ h => h) (by rfl) hS0 (fun W hI => by clear hI; go_simp) ?_; (try simp only [Act.put, List.setIfInBounds_toArray, List.set_cons_zero, List.set_cons_succ])
  refine wpH_one (i := 6) (by kernel_rfl) (wpOp_enter (fn := 44) (args := #[.pointer (some ⟨vb, 0, none⟩), .int .i64 num, .pointer (some ⟨hb, 0, none⟩)]) (by rfl) (by rfl) (by go_simp) ((P3.out.pushed_arg num HX.out).mono ?_))
  rintro e w5 ⟨rfl, hp, hk⟩
  have hk2 : Keeps (K32 w1 Z2 W.heap.size) _ w5 := hk.mono (fun c _ e => .inl e)
  refine ⟨_, rfl, hS0.trans hk2, ?_⟩
  have P3 := Lib.hid hp
  have L3 := Lib.hid (L3.out.keeps hk (fun c hc e => e.1 hc.2.1))
  have K3 := Lib.hid (K3.out.trans (hk.mono (fun c _ e => ⟨fun h => e.1 (HZa.out c h), e.2⟩)))
  have hKK := Lib.hid (hKK.out.trans hk)
  have hS1 := hS0.trans hk2
  clear hS0 hk hp hk2
  have hS0 := hS1
  clear hS1
  (try simp only [Act.put, List.setIfInBounds_toArray, List.set_cons_zero, List.set_cons_succ])
  refine wpH_take (i := 7) (v := .bool true) hB (by rfl) (by kernel_rfl) (fun _ _ _ _ _ h => h) (by rfl) hS0 (fun W hI => by clear hI; go_simp) ?_; (try simp only [Act.put, List.setIfInBounds_toArray, List.set_cons_zero, List.set_cons_succ])
  have D7 := Lib.hid (B3.out.2.2.2.1.keeps hKK.out (fun e => (e.1 (HZ5.out _ (by omega) (by omega))).elim))
  have D8 := Lib.hid (B3.out.2.2.2.2.keeps hKK.out (fun e => (e.1 (HZ5.out _ (by omega) (by omega))).elim))
  obtain ⟨w8, hw8⟩ : ∃ w8, w8 = w5.setRow (W.heap.size + 1 + 1 + 1) #[.int .i64 rows, .int .i64 back] := ⟨_, rfl⟩
  have Hst8 := Lib.hid (show (Instr.storeAt 86 (.pointer (some ⟨W.heap.size + 1 + 1 + 1, 0, none⟩)) (.agg #[.int .i64 rows, .int .i64 back])).run Tryd.prog w5 = .ok () w8 by rw [hw8]; exact run_storeAt_row (P := Tryd.prog) (W := w5) 86 (W.heap.size + 1 + 1 + 1) _ 86 [.int .i64 rows, .int .i64 back] (fun _ => by kernel_rfl) D7.out rfl (by intro v hv; simp only [List.mem_cons, List.not_mem_nil, or_false] at hv; rcases hv with rfl | rfl <;> rfl))
  have Hk8 := Lib.hid (show Keeps (fun b => b = W.heap.size + 1 + 1 + 1) w5 w8 by rw [hw8]; exact ⟨rfl, rfl, rfl, by simp [World.setRow], fun b hb hne => setRow_other w5 _ b _ (fun e => hne e)⟩)
  have E7 := Lib.hid (show RvAt w8 (W.heap.size + 1 + 1 + 1) rows back by rw [hw8]; exact setRow_heap _ _ _ _ _ (0, 0) D7.out)
  have E8 := Lib.hid (D8.out.keeps Hk8.out (fun e => by have e : W.heap.size + 1 + 1 + 1 + 1 = W.heap.size + 1 + 1 + 1 := e; omega))
  clear hw8 D7 D8
  obtain ⟨w9, hw9⟩ : ∃ w9, w9 = w8.setRow (W.heap.size + 1 + 1 + 1 + 1) #[.int .i64 most, .int .i64 first, .slice a n c] := ⟨_, rfl⟩
  have Hst9 := Lib.hid (show (Instr.storeAt 60 (.pointer (some ⟨W.heap.size + 1 + 1 + 1 + 1, 0, none⟩)) (.agg #[.int .i64 most, .int .i64 first, .slice a n c])).run Tryd.prog w8 = .ok () w9 by rw [hw9]; exact run_storeAt_row (P := Tryd.prog) (W := w8) 60 (W.heap.size + 1 + 1 + 1 + 1) _ 60 [.int .i64 most, .int .i64 first, .slice a n c] (fun _ => by kernel_rfl) E8.out rfl (by intro v hv; simp only [List.mem_cons, List.not_mem_nil, or_false] at hv; rcases hv with rfl | rfl | rfl <;> rfl))
  have Hk9 := Lib.hid (show Keeps (fun b => b = W.heap.size + 1 + 1 + 1 + 1) w8 w9 by rw [hw9]; exact ⟨rfl, rfl, rfl, by simp [World.setRow], fun b hb hne => setRow_other w8 _ b _ (fun e => hne e)⟩)
  have G8 := Lib.hid (show HrAt w9 (W.heap.size + 1 + 1 + 1 + 1) most first (.slice a n c) by rw [hw9]; exact setRow_heap _ _ _ _ _ (0, 0) E8.out)
  have G7 := Lib.hid (E7.out.keeps Hk9.out (fun e => by have e : W.heap.size + 1 + 1 + 1 = W.heap.size + 1 + 1 + 1 + 1 := e; omega))
  clear hw9 E8 E7
  have hS8 := hS0.trans (Hk8.out.mono (fun b _ e => (.inr (.inl e) : K32 w1 Z2 W.heap.size b)))
  have hS9 := hS8.trans (Hk9.out.mono (fun b _ e => (.inr (.inr e) : K32 w1 Z2 W.heap.size b)))
  refine wpH_one (i := 8) (by kernel_rfl) (wpOp_skip (w' := w8) (by rfl) (wanted_none (by rfl) _) (exec_store (a := .pointer (some ⟨W.heap.size + 1 + 1 + 1, 0, none⟩)) (v := .agg #[.int .i64 rows, .int .i64 back]) rfl (by go_simp) (by go_simp) Hst8.out) ⟨hS8, ?_⟩)
  (try simp only [Act.put, List.setIfInBounds_toArray, List.set_cons_zero, List.set_cons_succ])
  refine wpH_one (i := 9) (by kernel_rfl) (wpOp_skip (w' := w9) (by rfl) (wanted_none (by rfl) _) (exec_store (a := .pointer (some ⟨W.heap.size + 1 + 1 + 1 + 1, 0, none⟩)) (v := .agg #[.int .i64 most, .int .i64 first, .slice a n c]) rfl (by go_simp) (by go_simp) Hst9.out) ⟨hS9, ?_⟩)
  (try simp only [Act.put, List.setIfInBounds_toArray, List.set_cons_zero, List.set_cons_succ])
  clear hS0
  have hS0 := hS9
  refine wpH_take (i := 10) (v := .bool true) hB (by rfl) (by kernel_rfl) (fun _ _ _ _ _ h => h) (by rfl) hS0 (fun W hI => by clear hI; go_simp) ?_; (try simp only [Act.put, List.setIfInBounds_toArray, List.set_cons_zero, List.set_cons_succ])
  refine wpH_end (by kernel_rfl) ?_
  clear hB hS0 hS8 hS9 Hst8 Hst9
  obtain ⟨z0, z1⟩ := G7.out.c
  obtain ⟨z2, z3, z4⟩ := G8.out.c
  go_wp2
  refine bodyPost_ret_by (v := .tuple #[.agg #[.int .i64 rows, .int .i64 back], .agg #[.int .i64 most, .int .i64 first, .slice a n c], .bool true]) (by simp [results, Tryd.results54, go_sem, z0, z1, z2, z3, z4]) rfl ?_
  exact does32_fin P3.out L3.out K3.out HZa.out HZb.out HZ5.out (Nat.le_refl _) hW1 ((Hk8.out.mono (fun b _ e => .inl e)).trans (Hk9.out.mono (fun b _ e => .inr e))) (.inl rfl) (by rw [← Hn.out]; omega) (by rw [← Hn.out]; omega)
set_option maxRecDepth 100000 in
set_option maxHeartbeats 4000000 in
theorem does32_pushed (ht : Tabs w1) (h : VpSt w1 W Z vb hb rows back most first ls) (hv : lnEl.Rd Zl W (.slice a n c) ls) (hZl : ∀ c, Zl c → Z c) (hn : n = ls.length) (hnm : n ≤ 1000) (hbk : back ≤ n) (hfb : first + n ≤ 1000000) (hx : 0 ≤ num) :
    Calls Tryd.prog 54 #[.pointer (some ⟨vb, 0, none⟩), .pointer (some ⟨hb, 0, none⟩), .agg #[.int .i64 rows, .int .i64 back], .agg #[.int .i64 most, .int .i64 first, .slice a n c], .agg #[.int .i64 5, .int .i64 num]] W fun e w' => DoesP32 w1 W Z Zl vb hb rows most (first + n) 5 num e w' := by
  have fa := h.facts
  have hW1 := h.see.size
  rw [← hn] at fa
  have d1 : decide (num < 0) = false := decide_eq_false (by omega)
  obtain ⟨k, hk, hkn⟩ := clampV_nat (if 0 < back then (back : Int) + min (num : Int) 1048576 else 0) n
  have Hk := Lib.hid hk
  clear hk
  have HV := Lib.hid h
  have HL := Lib.hid hv
  have HZl := Lib.hid hZl
  have Hn := Lib.hid hn
  have Ht := Lib.hid ht
  have HZ := Lib.hid h.zlt
  clear h hv hn ht hZl
  go_enter Tryd.func54, Tryd.ntmps54
  go_wp2_with fail
  refine wp_world (fun w2 hw2 => ?_)
  have A2 : BX32 w2 W.heap.size rows back most first (.slice a n c) 5 num := by subst hw2; exact ⟨((((RvAt.new rfl).alloc _).alloc _).alloc _).alloc _, (((HrAt.new (by simp)).alloc _).alloc _).alloc _, ((AcAt32.new (by simp)).alloc _).alloc _, (RvAt.new (by simp)).alloc _, HrAt.new (by simp)⟩
  have S2 : Sees W w2 := by subst hw2; exact (((((Sees.refl W).alloc _).alloc _).alloc _).alloc _).alloc _
  have hz2 : w2.heap.size = W.heap.size + 5 := by subst hw2; simp
  clear hw2
  obtain ⟨Z2, hZ2⟩ : ∃ Z2 : Nat → Prop, Z2 = fun c => Z c ∨ (W.heap.size ≤ c ∧ c < w2.heap.size) := ⟨_, rfl⟩
  have P2 := Lib.hid (HV.out.more S2)
  rw [← hZ2] at P2
  have L2 : Hid (lnEl.Rd (fun c => (Zl c ∨ W.heap.size ≤ c) ∧ Z2 c ∧ c ≠ W.heap.size + 1 + 1 + 1 ∧ c ≠ W.heap.size + 1 + 1 + 1 + 1) w2 (.slice a n c) ls) := Lib.hid ((HL.out.sees S2).mono (fun c _ h => ⟨.inl h, by rw [hZ2]; exact .inl (HZl.out c h), by have := HZ.out c (HZl.out c h); omega, by have := HZ.out c (HZl.out c h); omega⟩))
  have HZ5 : Hid (∀ c, W.heap.size ≤ c → c < W.heap.size + 5 → Z2 c) := Lib.hid (fun c h1 h2 => by rw [hZ2]; exact .inr ⟨h1, by omega⟩)
  have HZa : Hid (∀ c, Z c → Z2 c) := Lib.hid (fun c h => by rw [hZ2]; exact .inl h)
  have HZb : Hid (∀ c, Z2 c → Z c ∨ W.heap.size ≤ c) := Lib.hid (fun c h => by rw [hZ2] at h; rcases h with h | h; exact .inl h; exact .inr h.1)
  have B2 := Lib.hid A2
  have K2 := Lib.hid (Keeps.of_sees (F := Chg w1 Z) S2)
  clear hZ2 A2 S2 hz2 HV HL
  refine wpH_go (K32 w1 Z2 W.heap.size) 15 (by kernel_rfl) (by kernel_rfl) (by rfl) (fun hB w3 hs3 => ?_)
  have B3 := Lib.hid (B2.out.sees hs3)
  have P3 := Lib.hid (P2.out.sees hs3)
  have L3 := Lib.hid (L2.out.sees hs3)
  have K3 := Lib.hid (K2.out.trans (Keeps.of_sees hs3))
  have HKo := Lib.hid (K32.out (w1 := w1) HZ5.out)
  clear hs3 B2 P2 L2 K2
  have hS0 : Keeps (K32 w1 Z2 W.heap.size) w3 w3 := Keeps.refl _ w3
  have hKK : Hid (Keeps (Chg w1 Z2) w3 w3) := Lib.hid (Keeps.refl _ _)
  refine wpH_take (i := 0) (v := .agg #[.int .i64 rows, .int .i64 back]) hB (by rfl) (by kernel_rfl) (fun _ _ _ _ _ h => h) (by rfl) hS0 (fun W hI => by have q := B3.out.c hI HKo.out; obtain ⟨q0, q1, q2, q3, q4, q5, q6⟩ := q; clear hI; go_simp) ?_; (try simp only [Act.put, List.setIfInBounds_toArray, List.set_cons_zero, List.set_cons_succ])
  refine wpH_take (i := 1) (v := .pointer (some ⟨W.heap.size + 1 + 1, 1, none⟩)) hB (by rfl) (by kernel_rfl) (fun _ _ _ _ _ h => h) (by rfl) hS0 (fun W hI => by clear hI; go_simp) ?_; (try simp only [Act.put, List.setIfInBounds_toArray, List.set_cons_zero, List.set_cons_succ])
  refine wpH_take (i := 2) (v := .int .i64 num) hB (by rfl) (by kernel_rfl) (fun _ _ _ _ _ h => h) (by rfl) hS0 (fun W hI => by have q := B3.out.c hI HKo.out; obtain ⟨q0, q1, q2, q3, q4, q5, q6⟩ := q; clear hI; go_simp) ?_; (try simp only [Act.put, List.setIfInBounds_toArray, List.set_cons_zero, List.set_cons_succ])
  refine wpH_take (i := 3) (v := .agg #[.int .i64 most, .int .i64 first, .slice a n c]) hB (by rfl) (by kernel_rfl) (fun _ _ _ _ _ h => h) (by rfl) hS0 (fun W hI => by have q := B3.out.c hI HKo.out; obtain ⟨q0, q1, q2, q3, q4, q5, q6⟩ := q; clear hI; go_simp) ?_; (try simp only [Act.put, List.setIfInBounds_toArray, List.set_cons_zero, List.set_cons_succ])
  refine wpH_take (i := 5) (v := .agg #[.int .i64 most, .int .i64 first, .slice a n c]) hB (by rfl) (by kernel_rfl) (fun _ _ _ _ _ h => h) (by rfl) hS0 (fun W hI => by have q := B3.out.c hI HKo.out; obtain ⟨q0, q1, q2, q3, q4, q5, q6⟩ := q; clear hI; go_simp) ?_; (try simp only [Act.put, List.setIfInBounds_toArray, List.set_cons_zero, List.set_cons_succ])
  refine wpH_take (i := 6) (v := .pointer (some ⟨vb, 0, none⟩)) hB (by rfl) (by kernel_rfl) (fun _ _ _ _ _ h => h) (by rfl) hS0 (fun W hI => by clear hI; go_simp) ?_; (try simp only [Act.put, List.setIfInBounds_toArray, List.set_cons_zero, List.set_cons_succ])
  refine wpH_take (i := 7) (v := .pointer (some ⟨W.heap.size + 1 + 1, 1, none⟩)) hB (by rfl) (by kernel_rfl) (fun _ _ _ _ _ h => h) (by rfl) hS0 (fun W hI => by clear hI; go_simp) ?_; (try simp only [Act.put, List.setIfInBounds_toArray, List.set_cons_zero, List.set_cons_succ])
  refine wpH_take (i := 8) (v := .int .i64 num) hB (by rfl) (by kernel_rfl) (fun _ _ _ _ _ h => h) (by rfl) hS0 (fun W hI => by have q := B3.out.c hI HKo.out; obtain ⟨q0, q1, q2, q3, q4, q5, q6⟩ := q; clear hI; go_simp) ?_; (try simp only [Act.put, List.setIfInBounds_toArray, List.set_cons_zero, List.set_cons_succ])
  refine wpH_take (i := 9) (v := .pointer (some ⟨hb, 0, none⟩)) hB (by rfl) (by kernel_rfl) (fun _ _ _ _ _ h => h) (by rfl) hS0 (fun W hI => by clear hI; go_simp) ?_; (try simp only [Act.put, List.setIfInBounds_toArray, List.set_cons_zero, List.set_cons_succ])
  refine wpH_one (i := 4) (by kernel_rfl) (wpOp_enter (fn := 81) (args := #[.agg #[.int .i64 rows, .int .i64 back], .int .i64 num, .agg #[.int .i64 most, .int .i64 first, .slice a n c]]) (by rfl) (by rfl) (by go_simp) ((refPushed32_any rows num k most first back a n c w3 (by omega) (by omega) hx Hk.out).mono ?_))
  rintro e w4 ⟨rfl, hs⟩
  refine ⟨_, rfl, hS0.trans (Keeps.of_sees hs), ?_⟩
  have P3 := Lib.hid (P3.out.sees hs)
  have L3 := Lib.hid (L3.out.sees hs)
  have K3 := Lib.hid (K3.out.trans (Keeps.of_sees hs))
  have hKK := Lib.hid (hKK.out.trans (Keeps.of_sees hs))
  have hS1 := hS0.trans (Keeps.of_sees hs)
  clear hS0 hs
  have hS0 := hS1
  clear hS1
  (try simp only [Act.put, List.setIfInBounds_toArray, List.set_cons_zero, List.set_cons_succ])
  refine wpH_one (i := 10) (by kernel_rfl) (wpOp_enter (fn := 44) (args := #[.pointer (some ⟨vb, 0, none⟩), .int .i64 num, .pointer (some ⟨hb, 0, none⟩)]) (by rfl) (by rfl) (by go_simp) ((P3.out.pushed num hx k (by rw [← Hn.out]; exact Hk.out)).mono ?_))
  rintro e w5 ⟨rfl, hp, hk⟩
  have hk2 : Keeps (K32 w1 Z2 W.heap.size) _ w5 := hk.mono (fun c _ e => .inl e)
  refine ⟨_, rfl, hS0.trans hk2, ?_⟩
  have P3 := Lib.hid hp
  have L3 := Lib.hid (L3.out.keeps hk (fun c hc e => e.1 hc.2.1))
  have K3 := Lib.hid (K3.out.trans (hk.mono (fun c _ e => ⟨fun h => e.1 (HZa.out c h), e.2⟩)))
  have hKK := Lib.hid (hKK.out.trans hk)
  have hS1 := hS0.trans hk2
  clear hS0 hk hp hk2
  have hS0 := hS1
  clear hS1
  (try simp only [Act.put, List.setIfInBounds_toArray, List.set_cons_zero, List.set_cons_succ])
  refine wpH_take (i := 11) (v := .bool true) hB (by rfl) (by kernel_rfl) (fun _ _ _ _ _ h => h) (by rfl) hS0 (fun W hI => by clear hI; go_simp) ?_; (try simp only [Act.put, List.setIfInBounds_toArray, List.set_cons_zero, List.set_cons_succ])
  have D7 := Lib.hid (B3.out.2.2.2.1.keeps hKK.out (fun e => (e.1 (HZ5.out _ (by omega) (by omega))).elim))
  have D8 := Lib.hid (B3.out.2.2.2.2.keeps hKK.out (fun e => (e.1 (HZ5.out _ (by omega) (by omega))).elim))
  obtain ⟨w8, hw8⟩ : ∃ w8, w8 = w5.setRow (W.heap.size + 1 + 1 + 1) #[.int .i64 rows, .int .i64 k] := ⟨_, rfl⟩
  have Hst8 := Lib.hid (show (Instr.storeAt 86 (.pointer (some ⟨W.heap.size + 1 + 1 + 1, 0, none⟩)) (.agg #[.int .i64 rows, .int .i64 k])).run Tryd.prog w5 = .ok () w8 by rw [hw8]; exact run_storeAt_row (P := Tryd.prog) (W := w5) 86 (W.heap.size + 1 + 1 + 1) _ 86 [.int .i64 rows, .int .i64 k] (fun _ => by kernel_rfl) D7.out rfl (by intro v hv; simp only [List.mem_cons, List.not_mem_nil, or_false] at hv; rcases hv with rfl | rfl <;> rfl))
  have Hk8 := Lib.hid (show Keeps (fun b => b = W.heap.size + 1 + 1 + 1) w5 w8 by rw [hw8]; exact ⟨rfl, rfl, rfl, by simp [World.setRow], fun b hb hne => setRow_other w5 _ b _ (fun e => hne e)⟩)
  have E7 := Lib.hid (show RvAt w8 (W.heap.size + 1 + 1 + 1) rows k by rw [hw8]; exact setRow_heap _ _ _ _ _ (0, 0) D7.out)
  have E8 := Lib.hid (D8.out.keeps Hk8.out (fun e => by have e : W.heap.size + 1 + 1 + 1 + 1 = W.heap.size + 1 + 1 + 1 := e; omega))
  clear hw8 D7 D8
  obtain ⟨w9, hw9⟩ : ∃ w9, w9 = w8.setRow (W.heap.size + 1 + 1 + 1 + 1) #[.int .i64 most, .int .i64 first, .slice a n c] := ⟨_, rfl⟩
  have Hst9 := Lib.hid (show (Instr.storeAt 60 (.pointer (some ⟨W.heap.size + 1 + 1 + 1 + 1, 0, none⟩)) (.agg #[.int .i64 most, .int .i64 first, .slice a n c])).run Tryd.prog w8 = .ok () w9 by rw [hw9]; exact run_storeAt_row (P := Tryd.prog) (W := w8) 60 (W.heap.size + 1 + 1 + 1 + 1) _ 60 [.int .i64 most, .int .i64 first, .slice a n c] (fun _ => by kernel_rfl) E8.out rfl (by intro v hv; simp only [List.mem_cons, List.not_mem_nil, or_false] at hv; rcases hv with rfl | rfl | rfl <;> rfl))
  have Hk9 := Lib.hid (show Keeps (fun b => b = W.heap.size + 1 + 1 + 1 + 1) w8 w9 by rw [hw9]; exact ⟨rfl, rfl, rfl, by simp [World.setRow], fun b hb hne => setRow_other w8 _ b _ (fun e => hne e)⟩)
  have G8 := Lib.hid (show HrAt w9 (W.heap.size + 1 + 1 + 1 + 1) most first (.slice a n c) by rw [hw9]; exact setRow_heap _ _ _ _ _ (0, 0) E8.out)
  have G7 := Lib.hid (E7.out.keeps Hk9.out (fun e => by have e : W.heap.size + 1 + 1 + 1 = W.heap.size + 1 + 1 + 1 + 1 := e; omega))
  clear hw9 E8 E7
  have hS8 := hS0.trans (Hk8.out.mono (fun b _ e => (.inr (.inl e) : K32 w1 Z2 W.heap.size b)))
  have hS9 := hS8.trans (Hk9.out.mono (fun b _ e => (.inr (.inr e) : K32 w1 Z2 W.heap.size b)))
  refine wpH_one (i := 12) (by kernel_rfl) (wpOp_skip (w' := w8) (by rfl) (wanted_none (by rfl) _) (exec_store (a := .pointer (some ⟨W.heap.size + 1 + 1 + 1, 0, none⟩)) (v := .agg #[.int .i64 rows, .int .i64 k]) rfl (by go_simp) (by go_simp) Hst8.out) ⟨hS8, ?_⟩)
  (try simp only [Act.put, List.setIfInBounds_toArray, List.set_cons_zero, List.set_cons_succ])
  refine wpH_one (i := 13) (by kernel_rfl) (wpOp_skip (w' := w9) (by rfl) (wanted_none (by rfl) _) (exec_store (a := .pointer (some ⟨W.heap.size + 1 + 1 + 1 + 1, 0, none⟩)) (v := .agg #[.int .i64 most, .int .i64 first, .slice a n c]) rfl (by go_simp) (by go_simp) Hst9.out) ⟨hS9, ?_⟩)
  (try simp only [Act.put, List.setIfInBounds_toArray, List.set_cons_zero, List.set_cons_succ])
  clear hS0
  have hS0 := hS9
  refine wpH_take (i := 14) (v := .bool true) hB (by rfl) (by kernel_rfl) (fun _ _ _ _ _ h => h) (by rfl) hS0 (fun W hI => by clear hI; go_simp) ?_; (try simp only [Act.put, List.setIfInBounds_toArray, List.set_cons_zero, List.set_cons_succ])
  refine wpH_end (by kernel_rfl) ?_
  clear hB hS0 hS8 hS9 Hst8 Hst9
  obtain ⟨z0, z1⟩ := G7.out.c
  obtain ⟨z2, z3, z4⟩ := G8.out.c
  go_wp2
  refine bodyPost_ret_by (v := .tuple #[.agg #[.int .i64 rows, .int .i64 k], .agg #[.int .i64 most, .int .i64 first, .slice a n c], .bool true]) (by simp [results, Tryd.results54, go_sem, z0, z1, z2, z3, z4]) rfl ?_
  exact does32_fin P3.out L3.out K3.out HZa.out HZb.out HZ5.out (Nat.le_refl _) hW1 ((Hk8.out.mono (fun b _ e => .inl e)).trans (Hk9.out.mono (fun b _ e => .inr e))) (.inl rfl) (by rw [← Hn.out]; exact hkn) (by rw [← Hn.out]; omega)
set_option maxRecDepth 100000 in
set_option maxHeartbeats 4000000 in
theorem does32_push (ht : Tabs w1) (h : VpSt w1 W Z vb hb rows back most first ls) (hv : lnEl.Rd Zl W (.slice a n c) ls) (hZl : ∀ c, Zl c → Z c) (hn : n = ls.length) (hnm : n ≤ 1000) (hbk : back ≤ n) (hfb : first + n ≤ 1000000)  :
    Calls Tryd.prog 54 #[.pointer (some ⟨vb, 0, none⟩), .pointer (some ⟨hb, 0, none⟩), .agg #[.int .i64 rows, .int .i64 back], .agg #[.int .i64 most, .int .i64 first, .slice a n c], .agg #[.int .i64 2, .int .i64 num]] W fun e w' => DoesP32 w1 W Z Zl vb hb rows most (first + n) 2 num e w' := by
  have fa := h.facts
  have hW1 := h.see.size
  rw [← hn] at fa
  obtain ⟨z, hz⟩ : ∃ z : Int, z = max 0 num := ⟨_, rfl⟩
  have hz0 : 0 ≤ z := by omega
  have hm1 : (if (0 : Int) < num then num else 0) = z := by split <;> omega
  have hm2 : (if num < (0 : Int) then 0 else num) = z := by split <;> omega
  obtain ⟨q, hq⟩ : ∃ q : Nat, (q : Int) = z % 7 := ⟨(z % 7).toNat, by omega⟩
  have hq1 : z % 7 = (q : Int) := hq.symm
  have hq2 : z.tmod 7 = (q : Int) := by rw [Int.tmod_eq_emod_of_nonneg hz0]; exact hq.symm
  have hq6 : q ≤ 6 := by omega
  obtain ⟨s, hs⟩ : ∃ s, s = (ByteArray.mk #[97, 98, 99, 100, 101, 102]).extract 0 q := ⟨_, rfl⟩
  have Hsl : Hid ((rowsOf s).length = q) := Lib.hid (by rw [hs]; exact rows32_size _ _ hq6)
  have Hss : Hid (s.size ≤ 1000) := Lib.hid (by rw [hs, extract_size _ _ hq6]; omega)
  have Hok : Hid (∀ l ∈ rowsOf s, lnOk l.cells = true) := Lib.hid (by rw [hs]; exact rows32_take _ _ (by kernel_rfl))
  have hX1 : ∀ W, (Instr.sliceAt 9 (.string ⟨#[97, 98, 99, 100, 101, 102]⟩) none (some (.int .i64 q)) none).run Tryd.prog W = .ok (.string s) W := by rw [hs]; exact cut_const64 _ q hq6
  obtain ⟨k, hk⟩ : ∃ k, k = n + q - most.toNat := ⟨_, rfl⟩
  have hkb : k ≤ n + q := by omega
  obtain ⟨n7, hn7⟩ : ∃ n7, n7 = n + q - k := ⟨_, rfl⟩
  have hbk7 : back ≤ n7 ∧ n7 ≤ 1048576 := by omega
  have hbb : back ≤ 1048576 := by omega
  obtain ⟨k2, hk2, hk2n⟩ := clampV_nat (if 0 < back then (back : Int) + min (q : Int) 1048576 else 0) n7
  obtain ⟨f2, hf2⟩ : ∃ f2 : Int, f2 = first + k := ⟨_, rfl⟩
  have hft : f2 + n7 ≤ first + n + 6 := by omega
  have Hk := Lib.hid hk
  have Hk2 := Lib.hid hk2
  have Hf2 := Lib.hid hf2
  have Hn7 := Lib.hid hn7
  clear hz hq hs hk hn7 hk2 hf2
  have HV := Lib.hid h
  have HL := Lib.hid hv
  have HZl := Lib.hid hZl
  have Hn := Lib.hid hn
  have Ht := Lib.hid ht
  have HZ := Lib.hid h.zlt
  clear h hv hn ht hZl
  go_enter Tryd.func54, Tryd.ntmps54
  go_wp2_with fail
  refine calls_world (fun w2 hw2 => ?_)
  have A2 : BX32 w2 W.heap.size rows back most first (.slice a n c) 2 num := by subst hw2; exact ⟨((((RvAt.new rfl).alloc _).alloc _).alloc _).alloc _, (((HrAt.new (by simp)).alloc _).alloc _).alloc _, ((AcAt32.new (by simp)).alloc _).alloc _, (RvAt.new (by simp)).alloc _, HrAt.new (by simp)⟩
  have S2 : Sees W w2 := by subst hw2; exact (((((Sees.refl W).alloc _).alloc _).alloc _).alloc _).alloc _
  have hz2 : w2.heap.size = W.heap.size + 5 := by subst hw2; simp
  clear hw2
  refine (list32_any s w2 Hss.out).mono ?_
  rintro e w4 ⟨v4, rfl, ho, hs4⟩
  obtain ⟨ua, uc, rfl, _⟩ := ho.slice
  rw [Hsl.out] at ho ⊢
  have B4 := Lib.hid (A2.sees hs4)
  have S4 := Lib.hid (S2.trans hs4)
  have U4 := Lib.hid ho.rd
  have hz4 := hs4.size
  clear A2 S2 ho hs4
  obtain ⟨x0, x1, x2, x3, x4, x5, x6⟩ := B4.out.c (Keeps.refl (fun _ => False) w4) (fun _ h => h.elim)
  go_wp2_with fail
  refine (refPush31 (fun c => Zl c ∨ w2.heap.size ≤ c) most first _ _ ls (rowsOf s) k w4 (by omega) (by omega) (by omega) (by rw [← Hn.out, Hsl.out]; omega) (by rw [← Hn.out]; omega) (by rw [Hsl.out]; omega) ((HL.out.sees S4.out).mono (fun _ _ h => .inl h)) (U4.out.mono (fun _ _ h => .inr h)) (by rw [← Hn.out, Hsl.out]; exact Hk.out)).mono ?_
  rintro e w5 ⟨⟨v7, rfl, hv7⟩, hs5⟩
  obtain ⟨a7, c7, rfl, _⟩ := hv7.slice'
  obtain ⟨L7, hL7⟩ : ∃ L7, L7 = (ls ++ rowsOf s).drop k := ⟨_, rfl⟩
  have HL7 := Lib.hid hL7
  have HL7l : Hid (L7.length = n7) := Lib.hid (by rw [hL7, List.length_drop, List.length_append, ← Hn.out, Hsl.out, Hn7.out])
  rw [← hL7] at hv7 ⊢
  rw [← Hf2.out]
  rw [HL7l.out] at hv7 ⊢
  have HV7 := Lib.hid hv7
  have B5 := Lib.hid (B4.out.sees hs5)
  have S5 := Lib.hid (S4.out.trans hs5)
  have U5 := Lib.hid (U4.out.sees hs5)
  have hz5 := hs5.size
  clear hv7 hs5 hL7 B4 S4 U4 x0 x1 x2 x3 x4 x5 x6
  obtain ⟨x0, x1, x2, x3, x4, x5, x6⟩ := B5.out.c (Keeps.refl (fun _ => False) w5) (fun _ h => h.elim)
  have fy := B5.out.2.1.fr
  go_wp2_with fail
  refine wp_world (fun w6 hw6 => ?_)
  have hk6 : Keeps (fun b => b = W.heap.size + 1) w5 w6 := by
    subst hw6
    exact (((Keeps.refl (fun b => b = W.heap.size + 1) w5).setCell (p := ⟨W.heap.size + 1, 0, none⟩) (fun _ => rfl) _).setCell (p := ⟨W.heap.size + 1, 1, none⟩) (fun _ => rfl) _).setCell (p := ⟨W.heap.size + 1, 2, none⟩) (fun _ => rfl) _
  have hr6 : HrAt w6 (W.heap.size + 1) most f2 (.slice a7 n7 c7) := by subst hw6; exact B5.out.2.1.set3 _ _ _
  have hz6 : w6.heap.size = w5.heap.size := by subst hw6; simp
  have B2 : Hid (BX32 w6 W.heap.size rows back most f2 (.slice a7 n7 c7) 2 num) := Lib.hid ⟨B5.out.1.keeps hk6 (fun e => by have e : W.heap.size = W.heap.size + 1 := e; omega), hr6, B5.out.2.2.1.keeps hk6 (fun e => by have e : W.heap.size + 1 + 1 = W.heap.size + 1 := e; omega), B5.out.2.2.2.1.keeps hk6 (fun e => by have e : W.heap.size + 1 + 1 + 1 = W.heap.size + 1 := e; omega), B5.out.2.2.2.2.keeps hk6 (fun e => by have e : W.heap.size + 1 + 1 + 1 + 1 = W.heap.size + 1 := e; omega)⟩
  obtain ⟨Z2, hZ2⟩ : ∃ Z2 : Nat → Prop, Z2 = fun c => Z c ∨ (W.heap.size ≤ c ∧ c < w5.heap.size) := ⟨_, rfl⟩
  have P2 : Hid (VpSt w1 w6 Z2 vb hb rows back most first ls) := Lib.hid (by rw [hZ2]; exact (HV.out.more S5.out).keeps hk6 (fun c e => by have e : c = W.heap.size + 1 := e; exact ⟨.inr (by omega), by omega⟩))
  have L2 : Hid (lnEl.Rd (fun c => (Zl c ∨ W.heap.size ≤ c) ∧ Z2 c ∧ c ≠ W.heap.size + 1 + 1 + 1 ∧ c ≠ W.heap.size + 1 + 1 + 1 + 1) w6 (.slice a7 n7 c7) L7) := Lib.hid ((HV7.out.mono (G := fun c => (Zl c ∨ w2.heap.size ≤ c) ∧ c < w5.heap.size) (fun c hc h => by rcases h with h | h; exact ⟨h.1, hc⟩; exact ⟨.inr (by omega), hc⟩)).keeps hk6 (fun c hc e => by have e : c = W.heap.size + 1 := e; rcases hc.1 with h | h; have := HZ.out c (HZl.out c h); omega; omega) |>.mono (fun c _ h => by rw [hZ2]; rcases h.1 with h1 | h1; have := HZ.out c (HZl.out c h1); exact ⟨.inl h1, .inl (HZl.out c h1), by omega, by omega⟩; exact ⟨.inr (by omega), .inr ⟨by omega, h.2⟩, by omega, by omega⟩))
  have U2 : Hid (lnEl.Rd Z2 w6 (.slice ua q uc) (rowsOf s)) := Lib.hid ((U5.out.mono (G := fun c => w2.heap.size ≤ c ∧ c < w5.heap.size) (fun c hc h => ⟨h, hc⟩)).keeps hk6 (fun c hc e => by have e : c = W.heap.size + 1 := e; have := hc.1; omega) |>.mono (fun c _ h => by rw [hZ2]; exact .inr ⟨by have := h.1; omega, h.2⟩))
  have HZ5 : Hid (∀ c, W.heap.size ≤ c → c < W.heap.size + 5 → Z2 c) := Lib.hid (fun c h1 h2 => by rw [hZ2]; exact .inr ⟨h1, by omega⟩)
  have HZa : Hid (∀ c, Z c → Z2 c) := Lib.hid (fun c h => by rw [hZ2]; exact .inl h)
  have HZb : Hid (∀ c, Z2 c → Z c ∨ W.heap.size ≤ c) := Lib.hid (fun c h => by rw [hZ2] at h; rcases h with h | h; exact .inl h; exact .inr h.1)
  have K2 : Hid (Keeps (Chg w1 Z) W w6) := Lib.hid ((Keeps.of_sees (F := Chg w1 Z) S5.out).trans' hk6 (fun b hb e => by have e : b = W.heap.size + 1 := e; omega))
  clear hZ2 hk6 hr6 hw6 S5 U5 B5 HV7 HV HL x0 x1 x2 x3 x4 x5 x6 fy hX1
  refine wpH_go (K32 w1 Z2 W.heap.size) 21 (by kernel_rfl) (by kernel_rfl) (by rfl) (fun hB w3 hs3 => ?_)
  have B3 := Lib.hid (B2.out.sees hs3)
  have P3 := Lib.hid (P2.out.sees hs3)
  have L3 := Lib.hid (L2.out.sees hs3)
  have K3 := Lib.hid (K2.out.trans (Keeps.of_sees hs3))
  have HKo := Lib.hid (K32.out (w1 := w1) HZ5.out)
  have U3 := Lib.hid (U2.out.sees hs3)
  clear hs3 B2 P2 L2 K2 U2
  have hS0 : Keeps (K32 w1 Z2 W.heap.size) w3 w3 := Keeps.refl _ w3
  have hKK : Hid (Keeps (Chg w1 Z2) w3 w3) := Lib.hid (Keeps.refl _ _)
  refine wpH_take (i := 0) (v := .agg #[.int .i64 rows, .int .i64 back]) hB (by rfl) (by kernel_rfl) (fun _ _ _ _ _ h => h) (by rfl) hS0 (fun W hI => by have q := B3.out.c hI HKo.out; obtain ⟨q0, q1, q2, q3, q4, q5, q6⟩ := q; clear hI; go_simp) ?_; (try simp only [Act.put, List.setIfInBounds_toArray, List.set_cons_zero, List.set_cons_succ])
  refine wpH_take (i := 1) (v := .slice ua q uc) hB (by rfl) (by kernel_rfl) (fun _ _ _ _ _ h => h) (by rfl) hS0 (fun W hI => by clear hI; go_simp) ?_; (try simp only [Act.put, List.setIfInBounds_toArray, List.set_cons_zero, List.set_cons_succ])
  refine wpH_take (i := 2) (v := .int .i64 q) hB (by rfl) (by kernel_rfl) (fun _ _ _ _ _ h => h) (by rfl) hS0 (fun W hI => by clear hI; go_simp) ?_; (try simp only [Act.put, List.setIfInBounds_toArray, List.set_cons_zero, List.set_cons_succ])
  refine wpH_take (i := 3) (v := .agg #[.int .i64 most, .int .i64 f2, .slice a7 n7 c7]) hB (by rfl) (by kernel_rfl) (fun _ _ _ _ _ h => h) (by rfl) hS0 (fun W hI => by have q := B3.out.c hI HKo.out; obtain ⟨q0, q1, q2, q3, q4, q5, q6⟩ := q; clear hI; go_simp) ?_; (try simp only [Act.put, List.setIfInBounds_toArray, List.set_cons_zero, List.set_cons_succ])
  refine wpH_take (i := 5) (v := .agg #[.int .i64 most, .int .i64 f2, .slice a7 n7 c7]) hB (by rfl) (by kernel_rfl) (fun _ _ _ _ _ h => h) (by rfl) hS0 (fun W hI => by have q := B3.out.c hI HKo.out; obtain ⟨q0, q1, q2, q3, q4, q5, q6⟩ := q; clear hI; go_simp) ?_; (try simp only [Act.put, List.setIfInBounds_toArray, List.set_cons_zero, List.set_cons_succ])
  refine wpH_take (i := 6) (v := .pointer (some ⟨hb, 0, none⟩)) hB (by rfl) (by kernel_rfl) (fun _ _ _ _ _ h => h) (by rfl) hS0 (fun W hI => by clear hI; go_simp) ?_; (try simp only [Act.put, List.setIfInBounds_toArray, List.set_cons_zero, List.set_cons_succ])
  refine wpH_take (i := 7) (v := .slice ua q uc) hB (by rfl) (by kernel_rfl) (fun _ _ _ _ _ h => h) (by rfl) hS0 (fun W hI => by clear hI; go_simp) ?_; (try simp only [Act.put, List.setIfInBounds_toArray, List.set_cons_zero, List.set_cons_succ])
  refine wpH_one (i := 4) (by kernel_rfl) (wpOp_enter (fn := 81) (args := #[.agg #[.int .i64 rows, .int .i64 back], .int .i64 q, .agg #[.int .i64 most, .int .i64 f2, .slice a7 n7 c7]]) (by rfl) (by rfl) (by go_simp) ((refPushed32_any rows q k2 most f2 back a7 n7 c7 w3 hbb hbk7.2 (by omega) Hk2.out).mono ?_))
  rintro e w7 ⟨rfl, hs⟩
  refine ⟨_, rfl, hS0.trans (Keeps.of_sees hs), ?_⟩
  have P3 := Lib.hid (P3.out.sees hs)
  have L3 := Lib.hid (L3.out.sees hs)
  have K3 := Lib.hid (K3.out.trans (Keeps.of_sees hs))
  have U3 := Lib.hid (U3.out.sees hs)
  have hKK := Lib.hid (hKK.out.trans (Keeps.of_sees hs))
  have hS1 := hS0.trans (Keeps.of_sees hs)
  clear hS0 hs
  have hS0 := hS1
  clear hS1
  (try simp only [Act.put, List.setIfInBounds_toArray, List.set_cons_zero, List.set_cons_succ])
  refine wpH_one (i := 8) (by kernel_rfl) (wpOp_enter (fn := 18) (args := #[.pointer (some ⟨hb, 0, none⟩), .slice ua q uc]) (by rfl) (by rfl) (by go_simp) ((P3.out.push Ht.out _ (rowsOf s) U3.out Hok.out (by rw [← Hn.out, Hsl.out]; omega) k (by rw [← Hn.out, Hsl.out]; exact Hk.out)).mono ?_))
  rintro e w8_ ⟨rfl, hp, hk⟩
  rw [← HL7.out, ← Hf2.out] at hp
  have hk2 : Keeps (K32 w1 Z2 W.heap.size) _ w8_ := hk.mono (fun c _ e => .inl e)
  refine ⟨_, rfl, hS0.trans hk2, ?_⟩
  have P3 := Lib.hid hp
  have L3 := Lib.hid (L3.out.keeps hk (fun c hc e => e.1 hc.2.1))
  have K3 := Lib.hid (K3.out.trans (hk.mono (fun c _ e => ⟨fun h => e.1 (HZa.out c h), e.2⟩)))
  have hKK := Lib.hid (hKK.out.trans hk)
  have hS1 := hS0.trans hk2
  clear hS0 hk hp hk2
  have hS0 := hS1
  clear hS1
  (try simp only [Act.put, List.setIfInBounds_toArray, List.set_cons_zero, List.set_cons_succ])
  refine wpH_take (i := 9) (v := .bool true) hB (by rfl) (by kernel_rfl) (fun _ _ _ _ _ h => h) (by rfl) hS0 (fun W hI => by clear hI; go_simp) ?_; (try simp only [Act.put, List.setIfInBounds_toArray, List.set_cons_zero, List.set_cons_succ])
  refine wpH_take (i := 10) (v := .bool true) hB (by rfl) (by kernel_rfl) (fun _ _ _ _ _ h => h) (by rfl) hS0 (fun W hI => by clear hI; go_simp) ?_; (try simp only [Act.put, List.setIfInBounds_toArray, List.set_cons_zero, List.set_cons_succ])
  refine wpH_takeG (i := 11) (v := .pointer (some ⟨vb, 0, none⟩)) hB (by rfl) (by kernel_rfl) (fun _ _ _ _ _ h => h) (by go_simp) hS0 (fun W hI => by clear hI; go_simp) ?_; (try simp only [Act.put, List.setIfInBounds_toArray, List.set_cons_zero, List.set_cons_succ])
  refine wpH_takeG (i := 12) (v := .slice ua q uc) hB (by rfl) (by kernel_rfl) (fun _ _ _ _ _ h => h) (by go_simp) hS0 (fun W hI => by clear hI; go_simp) ?_; (try simp only [Act.put, List.setIfInBounds_toArray, List.set_cons_zero, List.set_cons_succ])
  refine wpH_takeG (i := 13) (v := .int .i64 q) hB (by rfl) (by kernel_rfl) (fun _ _ _ _ _ h => h) (by go_simp) hS0 (fun W hI => by clear hI; go_simp) ?_; (try simp only [Act.put, List.setIfInBounds_toArray, List.set_cons_zero, List.set_cons_succ])
  refine wpH_takeG (i := 14) (v := .pointer (some ⟨hb, 0, none⟩)) hB (by rfl) (by kernel_rfl) (fun _ _ _ _ _ h => h) (by go_simp) hS0 (fun W hI => by clear hI; go_simp) ?_; (try simp only [Act.put, List.setIfInBounds_toArray, List.set_cons_zero, List.set_cons_succ])
  refine wpH_one (i := 15) (by kernel_rfl) (wpOp_enterG (fn := 44) (args := #[.pointer (some ⟨vb, 0, none⟩), .int .i64 q, .pointer (some ⟨hb, 0, none⟩)]) (by rfl) (by go_simp) (by go_simp) ((P3.out.pushed q (by omega) k2 (by rw [HL7l.out]; exact Hk2.out)).mono ?_))
  rintro e w10 ⟨rfl, hp, hk⟩
  have hk2 : Keeps (K32 w1 Z2 W.heap.size) _ w10 := hk.mono (fun c _ e => .inl e)
  refine ⟨_, rfl, hS0.trans hk2, ?_⟩
  have P3 := Lib.hid hp
  have L3 := Lib.hid (L3.out.keeps hk (fun c hc e => e.1 hc.2.1))
  have K3 := Lib.hid (K3.out.trans (hk.mono (fun c _ e => ⟨fun h => e.1 (HZa.out c h), e.2⟩)))
  have hKK := Lib.hid (hKK.out.trans hk)
  have hS1 := hS0.trans hk2
  clear hS0 hk hp hk2
  have hS0 := hS1
  clear hS1
  (try simp only [Act.put, List.setIfInBounds_toArray, List.set_cons_zero, List.set_cons_succ])
  refine wpH_takeG (i := 16) (v := .bool true) hB (by rfl) (by kernel_rfl) (fun _ _ _ _ _ h => h) (by go_simp) hS0 (fun W hI => by clear hI; go_simp) ?_; (try simp only [Act.put, List.setIfInBounds_toArray, List.set_cons_zero, List.set_cons_succ])
  refine wpH_take (i := 17) (v := .bool true) hB (by rfl) (by kernel_rfl) (fun _ _ _ _ _ h => h) (by rfl) hS0 (fun W hI => by clear hI; go_simp) ?_; (try simp only [Act.put, List.setIfInBounds_toArray, List.set_cons_zero, List.set_cons_succ])
  have D7 := Lib.hid (B3.out.2.2.2.1.keeps hKK.out (fun e => (e.1 (HZ5.out _ (by omega) (by omega))).elim))
  have D8 := Lib.hid (B3.out.2.2.2.2.keeps hKK.out (fun e => (e.1 (HZ5.out _ (by omega) (by omega))).elim))
  obtain ⟨w8, hw8⟩ : ∃ w8, w8 = w10.setRow (W.heap.size + 1 + 1 + 1) #[.int .i64 rows, .int .i64 k2] := ⟨_, rfl⟩
  have Hst8 := Lib.hid (show (Instr.storeAt 86 (.pointer (some ⟨W.heap.size + 1 + 1 + 1, 0, none⟩)) (.agg #[.int .i64 rows, .int .i64 k2])).run Tryd.prog w10 = .ok () w8 by rw [hw8]; exact run_storeAt_row (P := Tryd.prog) (W := w10) 86 (W.heap.size + 1 + 1 + 1) _ 86 [.int .i64 rows, .int .i64 k2] (fun _ => by kernel_rfl) D7.out rfl (by intro v hv; simp only [List.mem_cons, List.not_mem_nil, or_false] at hv; rcases hv with rfl | rfl <;> rfl))
  have Hk8 := Lib.hid (show Keeps (fun b => b = W.heap.size + 1 + 1 + 1) w10 w8 by rw [hw8]; exact ⟨rfl, rfl, rfl, by simp [World.setRow], fun b hb hne => setRow_other w10 _ b _ (fun e => hne e)⟩)
  have E7 := Lib.hid (show RvAt w8 (W.heap.size + 1 + 1 + 1) rows k2 by rw [hw8]; exact setRow_heap _ _ _ _ _ (0, 0) D7.out)
  have E8 := Lib.hid (D8.out.keeps Hk8.out (fun e => by have e : W.heap.size + 1 + 1 + 1 + 1 = W.heap.size + 1 + 1 + 1 := e; omega))
  clear hw8 D7 D8
  obtain ⟨w9, hw9⟩ : ∃ w9, w9 = w8.setRow (W.heap.size + 1 + 1 + 1 + 1) #[.int .i64 most, .int .i64 f2, .slice a7 n7 c7] := ⟨_, rfl⟩
  have Hst9 := Lib.hid (show (Instr.storeAt 60 (.pointer (some ⟨W.heap.size + 1 + 1 + 1 + 1, 0, none⟩)) (.agg #[.int .i64 most, .int .i64 f2, .slice a7 n7 c7])).run Tryd.prog w8 = .ok () w9 by rw [hw9]; exact run_storeAt_row (P := Tryd.prog) (W := w8) 60 (W.heap.size + 1 + 1 + 1 + 1) _ 60 [.int .i64 most, .int .i64 f2, .slice a7 n7 c7] (fun _ => by kernel_rfl) E8.out rfl (by intro v hv; simp only [List.mem_cons, List.not_mem_nil, or_false] at hv; rcases hv with rfl | rfl | rfl <;> rfl))
  have Hk9 := Lib.hid (show Keeps (fun b => b = W.heap.size + 1 + 1 + 1 + 1) w8 w9 by rw [hw9]; exact ⟨rfl, rfl, rfl, by simp [World.setRow], fun b hb hne => setRow_other w8 _ b _ (fun e => hne e)⟩)
  have G8 := Lib.hid (show HrAt w9 (W.heap.size + 1 + 1 + 1 + 1) most f2 (.slice a7 n7 c7) by rw [hw9]; exact setRow_heap _ _ _ _ _ (0, 0) E8.out)
  have G7 := Lib.hid (E7.out.keeps Hk9.out (fun e => by have e : W.heap.size + 1 + 1 + 1 = W.heap.size + 1 + 1 + 1 + 1 := e; omega))
  clear hw9 E8 E7
  have hS8 := hS0.trans (Hk8.out.mono (fun b _ e => (.inr (.inl e) : K32 w1 Z2 W.heap.size b)))
  have hS9 := hS8.trans (Hk9.out.mono (fun b _ e => (.inr (.inr e) : K32 w1 Z2 W.heap.size b)))
  refine wpH_one (i := 18) (by kernel_rfl) (wpOp_skip (w' := w8) (by rfl) (wanted_none (by rfl) _) (exec_store (a := .pointer (some ⟨W.heap.size + 1 + 1 + 1, 0, none⟩)) (v := .agg #[.int .i64 rows, .int .i64 k2]) rfl (by go_simp) (by go_simp) Hst8.out) ⟨hS8, ?_⟩)
  (try simp only [Act.put, List.setIfInBounds_toArray, List.set_cons_zero, List.set_cons_succ])
  refine wpH_one (i := 19) (by kernel_rfl) (wpOp_skip (w' := w9) (by rfl) (wanted_none (by rfl) _) (exec_store (a := .pointer (some ⟨W.heap.size + 1 + 1 + 1 + 1, 0, none⟩)) (v := .agg #[.int .i64 most, .int .i64 f2, .slice a7 n7 c7]) rfl (by go_simp) (by go_simp) Hst9.out) ⟨hS9, ?_⟩)
  (try simp only [Act.put, List.setIfInBounds_toArray, List.set_cons_zero, List.set_cons_succ])
  clear hS0
  have hS0 := hS9
  refine wpH_take (i := 20) (v := .bool true) hB (by rfl) (by kernel_rfl) (fun _ _ _ _ _ h => h) (by rfl) hS0 (fun W hI => by clear hI; go_simp) ?_; (try simp only [Act.put, List.setIfInBounds_toArray, List.set_cons_zero, List.set_cons_succ])
  refine wpH_end (by kernel_rfl) ?_
  clear hB hS0 hS8 hS9 Hst8 Hst9
  obtain ⟨z0, z1⟩ := G7.out.c
  obtain ⟨z2, z3, z4⟩ := G8.out.c
  go_wp2
  refine bodyPost_ret_by (v := .tuple #[.agg #[.int .i64 rows, .int .i64 k2], .agg #[.int .i64 most, .int .i64 f2, .slice a7 n7 c7], .bool true]) (by simp [results, Tryd.results54, go_sem, z0, z1, z2, z3, z4]) rfl ?_
  exact does32_fin P3.out L3.out K3.out HZa.out HZb.out HZ5.out (Nat.le_refl _) hW1 ((Hk8.out.mono (fun b _ e => .inl e)).trans (Hk9.out.mono (fun b _ e => .inr e))) (.inl rfl) (by rw [HL7l.out]; exact hk2n) (by rw [HL7l.out]; exact hft)
set_option maxRecDepth 100000 in
set_option maxHeartbeats 4000000 in
theorem does32_pull (ht : Tabs w1) (h : VpSt w1 W Z vb hb rows back most first ls) (hv : lnEl.Rd Zl W (.slice a n c) ls) (hZl : ∀ c, Zl c → Z c) (hn : n = ls.length) (hnm : n ≤ 1000) (hbk : back ≤ n) (hfb : first + n ≤ 1000000)  :
    Calls Tryd.prog 54 #[.pointer (some ⟨vb, 0, none⟩), .pointer (some ⟨hb, 0, none⟩), .agg #[.int .i64 rows, .int .i64 back], .agg #[.int .i64 most, .int .i64 first, .slice a n c], .agg #[.int .i64 4, .int .i64 num]] W fun e w' => DoesP32 w1 W Z Zl vb hb rows most (first + n) 4 num e w' := by
  have fa := h.facts
  have hW1 := h.see.size
  rw [← hn] at fa
  obtain ⟨z, hz⟩ : ∃ z : Int, z = max 0 num := ⟨_, rfl⟩
  have hm1 : (if (0 : Int) < num then num else 0) = z := by split <;> omega
  have hm2 : (if num < (0 : Int) then 0 else num) = z := by split <;> omega
  obtain ⟨q, hq⟩ : ∃ q : Nat, (q : Int) = min z n := ⟨(min z n).toNat, by omega⟩
  have hm3 : (if z < (n : Int) then z else (n : Int)) = (q : Int) := by split <;> omega
  have hm4 : (if (n : Int) < z then (n : Int) else z) = (q : Int) := by split <;> omega
  have hqn : q ≤ n := by omega
  obtain ⟨n7, hn7⟩ : ∃ n7, n7 = n - q := ⟨_, rfl⟩
  have hn7b : n7 ≤ n := by omega
  obtain ⟨k2, hk2, hk2n⟩ := clampV_nat (if 0 < back then (back : Int) + min (0 : Int) 1048576 else 0) n7
  have Hk2 := Lib.hid hk2
  have Hn7 := Lib.hid hn7
  clear hz hq hn7 hk2
  have HV := Lib.hid h
  have HL := Lib.hid hv
  have HZl := Lib.hid hZl
  have Hn := Lib.hid hn
  have Ht := Lib.hid ht
  have HZ := Lib.hid h.zlt
  clear h hv hn ht hZl
  go_enter Tryd.func54, Tryd.ntmps54
  go_wp2_with fail
  refine calls_world (fun w2 hw2 => ?_)
  have A2 : BX32 w2 W.heap.size rows back most first (.slice a n c) 4 num := by subst hw2; exact ⟨((((RvAt.new rfl).alloc _).alloc _).alloc _).alloc _, (((HrAt.new (by simp)).alloc _).alloc _).alloc _, ((AcAt32.new (by simp)).alloc _).alloc _, (RvAt.new (by simp)).alloc _, HrAt.new (by simp)⟩
  have S2 : Sees W w2 := by subst hw2; exact (((((Sees.refl W).alloc _).alloc _).alloc _).alloc _).alloc _
  have hz2 : w2.heap.size = W.heap.size + 5 := by subst hw2; simp
  clear hw2
  obtain ⟨Za, hZa⟩ : ∃ Za : Nat → Prop, Za = fun c => Z c ∨ (W.heap.size ≤ c ∧ c < w2.heap.size) := ⟨_, rfl⟩
  have P1 := HV.out.more S2
  rw [← hZa] at P1
  refine (P1.pull q (by rw [← Hn.out]; exact hqn) (by omega)).mono ?_
  rintro e w4 ⟨pa, pm, pc, rfl, hp, hk⟩
  have hz4 := hk.size
  have B4 := Lib.hid (A2.keeps hk (fun b e => by by_cases h1 : b < W.heap.size; exact .inl h1; by_cases h2 : b < W.heap.size + 5; exact absurd (by rw [hZa]; exact .inr ⟨by omega, by omega⟩ : Za b) e.1; exact .inr (by omega)))
  have P4 := Lib.hid hp
  have L4 := Lib.hid ((HL.out.sees S2).keeps hk (fun c hc e => e.1 (by rw [hZa]; exact .inl (HZl.out c hc))))
  have K4 : Hid (Keeps (Chg w1 Z) W w4) := Lib.hid ((Keeps.of_sees (F := Chg w1 Z) S2).trans' hk (fun b _ e => ⟨fun h => e.1 (by rw [hZa]; exact .inl h), e.2⟩))
  have HZA := Lib.hid hZa
  clear A2 S2 P1 hp hk hZa HV HL
  obtain ⟨x0, x1, x2, x3, x4, x5, x6⟩ := B4.out.c (Keeps.refl (fun _ => False) w4) (fun _ h => h.elim)
  go_wp2_with fail
  refine (refPull31 Zl most first _ ls q w4 (by rw [← Hn.out]; exact hqn) (by rw [← Hn.out]; omega) L4.out).mono ?_
  rintro e w5 ⟨⟨v7, rfl, hv7⟩, hs5⟩
  obtain ⟨a7, c7, rfl, _⟩ := hv7.slice'
  obtain ⟨L7, hL7⟩ : ∃ L7, L7 = ls.take (ls.length - q) := ⟨_, rfl⟩
  have HL7 := Lib.hid hL7
  have HL7l : Hid (L7.length = n7) := Lib.hid (by rw [hL7, List.length_take, ← Hn.out, Hn7.out]; omega)
  have P4 : Hid (VpSt w1 w4 Za vb hb rows back most first L7) := Lib.hid (by rw [hL7]; exact P4.out)
  rw [← hL7] at hv7 ⊢
  rw [HL7l.out] at hv7 ⊢
  have HV7 := Lib.hid hv7
  have B5 := Lib.hid (B4.out.sees hs5)
  have K5 := Lib.hid (K4.out.trans (Keeps.of_sees hs5))
  have P5 := Lib.hid (P4.out.more hs5)
  have hz5 := hs5.size
  clear hv7 hs5 hL7 B4 K4 P4 L4 x0 x1 x2 x3 x4 x5 x6
  obtain ⟨x0, x1, x2, x3, x4, x5, x6⟩ := B5.out.c (Keeps.refl (fun _ => False) w5) (fun _ h => h.elim)
  have fy := B5.out.2.1.fr
  go_wp2_with fail
  refine wp_world (fun w6 hw6 => ?_)
  have hk6 : Keeps (fun b => b = W.heap.size + 1) w5 w6 := by
    subst hw6
    exact (((Keeps.refl (fun b => b = W.heap.size + 1) w5).setCell (p := ⟨W.heap.size + 1, 0, none⟩) (fun _ => rfl) _).setCell (p := ⟨W.heap.size + 1, 1, none⟩) (fun _ => rfl) _).setCell (p := ⟨W.heap.size + 1, 2, none⟩) (fun _ => rfl) _
  have hr6 : HrAt w6 (W.heap.size + 1) most first (.slice a7 n7 c7) := by subst hw6; exact B5.out.2.1.set3 _ _ _
  have hz6 : w6.heap.size = w5.heap.size := by subst hw6; simp
  have B2 : Hid (BX32 w6 W.heap.size rows back most first (.slice a7 n7 c7) 4 num) := Lib.hid ⟨B5.out.1.keeps hk6 (fun e => by have e : W.heap.size = W.heap.size + 1 := e; omega), hr6, B5.out.2.2.1.keeps hk6 (fun e => by have e : W.heap.size + 1 + 1 = W.heap.size + 1 := e; omega), B5.out.2.2.2.1.keeps hk6 (fun e => by have e : W.heap.size + 1 + 1 + 1 = W.heap.size + 1 := e; omega), B5.out.2.2.2.2.keeps hk6 (fun e => by have e : W.heap.size + 1 + 1 + 1 + 1 = W.heap.size + 1 := e; omega)⟩
  obtain ⟨Z2, hZ2⟩ : ∃ Z2 : Nat → Prop, Z2 = fun c => Za c ∨ (w4.heap.size ≤ c ∧ c < w5.heap.size) := ⟨_, rfl⟩
  have hZi : ∀ c, Z2 c ↔ (Z c ∨ (W.heap.size ≤ c ∧ c < w2.heap.size)) ∨ (w4.heap.size ≤ c ∧ c < w5.heap.size) := fun c => by rw [hZ2, HZA.out]
  have P2 : Hid (VpSt w1 w6 Z2 vb hb rows back most first L7) := Lib.hid (by rw [hZ2]; exact P5.out.keeps hk6 (fun c e => by have e : c = W.heap.size + 1 := e; exact ⟨.inl (by rw [HZA.out]; exact .inr (by omega)), by omega⟩))
  have L2 : Hid (lnEl.Rd (fun c => (Zl c ∨ W.heap.size ≤ c) ∧ Z2 c ∧ c ≠ W.heap.size + 1 + 1 + 1 ∧ c ≠ W.heap.size + 1 + 1 + 1 + 1) w6 (.slice a7 n7 c7) L7) := Lib.hid ((HV7.out.mono (G := fun c => (Zl c ∨ w4.heap.size ≤ c) ∧ c < w5.heap.size) (fun c hc h => by rcases h with h | h; exact ⟨.inl h.1, hc⟩; exact ⟨.inr h, hc⟩)).keeps hk6 (fun c hc e => by have e : c = W.heap.size + 1 := e; rcases hc.1 with h | h; have := HZ.out c (HZl.out c h); omega; omega) |>.mono (fun c _ h => by rw [hZi]; rcases h.1 with h1 | h1; have := HZ.out c (HZl.out c h1); exact ⟨.inl h1, .inl (.inl (HZl.out c h1)), by omega, by omega⟩; exact ⟨.inr (by omega), .inr ⟨h1, h.2⟩, by omega, by omega⟩))
  have HZ5 : Hid (∀ c, W.heap.size ≤ c → c < W.heap.size + 5 → Z2 c) := Lib.hid (fun c h1 h2 => by rw [hZi]; exact .inl (.inr ⟨h1, by omega⟩))
  have HZa : Hid (∀ c, Z c → Z2 c) := Lib.hid (fun c h => by rw [hZi]; exact .inl (.inl h))
  have HZb : Hid (∀ c, Z2 c → Z c ∨ W.heap.size ≤ c) := Lib.hid (fun c h => by rw [hZi] at h; rcases h with (h | h) | h; exact .inl h; exact .inr h.1; exact .inr (by omega))
  have K2 : Hid (Keeps (Chg w1 Z) W w6) := Lib.hid (K5.out.trans' hk6 (fun b hb e => by have e : b = W.heap.size + 1 := e; omega))
  clear hZ2 hZi hk6 hr6 hw6 K5 P5 B5 HV7 HZA x0 x1 x2 x3 x4 x5 x6 fy
  refine wpH_go (K32 w1 Z2 W.heap.size) 15 (by kernel_rfl) (by kernel_rfl) (by rfl) (fun hB w3 hs3 => ?_)
  have B3 := Lib.hid (B2.out.sees hs3)
  have P3 := Lib.hid (P2.out.sees hs3)
  have L3 := Lib.hid (L2.out.sees hs3)
  have K3 := Lib.hid (K2.out.trans (Keeps.of_sees hs3))
  have HKo := Lib.hid (K32.out (w1 := w1) HZ5.out)
  clear hs3 B2 P2 L2 K2
  have hS0 : Keeps (K32 w1 Z2 W.heap.size) w3 w3 := Keeps.refl _ w3
  have hKK : Hid (Keeps (Chg w1 Z2) w3 w3) := Lib.hid (Keeps.refl _ _)
  refine wpH_take (i := 0) (v := .agg #[.int .i64 rows, .int .i64 back]) hB (by rfl) (by kernel_rfl) (fun _ _ _ _ _ h => h) (by rfl) hS0 (fun W hI => by have q := B3.out.c hI HKo.out; obtain ⟨q0, q1, q2, q3, q4, q5, q6⟩ := q; clear hI; go_simp) ?_; (try simp only [Act.put, List.setIfInBounds_toArray, List.set_cons_zero, List.set_cons_succ])
  refine wpH_take (i := 1) (v := .agg #[.int .i64 most, .int .i64 first, .slice a7 n7 c7]) hB (by rfl) (by kernel_rfl) (fun _ _ _ _ _ h => h) (by rfl) hS0 (fun W hI => by have q := B3.out.c hI HKo.out; obtain ⟨q0, q1, q2, q3, q4, q5, q6⟩ := q; clear hI; go_simp) ?_; (try simp only [Act.put, List.setIfInBounds_toArray, List.set_cons_zero, List.set_cons_succ])
  refine wpH_take (i := 3) (v := .agg #[.int .i64 most, .int .i64 first, .slice a7 n7 c7]) hB (by rfl) (by kernel_rfl) (fun _ _ _ _ _ h => h) (by rfl) hS0 (fun W hI => by have q := B3.out.c hI HKo.out; obtain ⟨q0, q1, q2, q3, q4, q5, q6⟩ := q; clear hI; go_simp) ?_; (try simp only [Act.put, List.setIfInBounds_toArray, List.set_cons_zero, List.set_cons_succ])
  refine wpH_take (i := 4) (v := .int .i64 0) hB (by rfl) (by kernel_rfl) (fun _ _ _ _ _ h => h) (by rfl) hS0 (fun W hI => by clear hI; go_simp) ?_; (try simp only [Act.put, List.setIfInBounds_toArray, List.set_cons_zero, List.set_cons_succ])
  refine wpH_take (i := 5) (v := .bool true) hB (by rfl) (by kernel_rfl) (fun _ _ _ _ _ h => h) (by rfl) hS0 (fun W hI => by clear hI; go_simp) ?_; (try simp only [Act.put, List.setIfInBounds_toArray, List.set_cons_zero, List.set_cons_succ])
  refine wpH_one (i := 2) (by kernel_rfl) (wpOp_enter (fn := 81) (args := #[.agg #[.int .i64 rows, .int .i64 back], .int .i64 0, .agg #[.int .i64 most, .int .i64 first, .slice a7 n7 c7]]) (by rfl) (by rfl) (by go_simp) ((refPushed32_any rows 0 k2 most first back a7 n7 c7 w3 (by omega) (by omega) (by omega) Hk2.out).mono ?_))
  rintro e w7 ⟨rfl, hs⟩
  refine ⟨_, rfl, hS0.trans (Keeps.of_sees hs), ?_⟩
  have P3 := Lib.hid (P3.out.sees hs)
  have L3 := Lib.hid (L3.out.sees hs)
  have K3 := Lib.hid (K3.out.trans (Keeps.of_sees hs))
  have hKK := Lib.hid (hKK.out.trans (Keeps.of_sees hs))
  have hS1 := hS0.trans (Keeps.of_sees hs)
  clear hS0 hs
  have hS0 := hS1
  clear hS1
  (try simp only [Act.put, List.setIfInBounds_toArray, List.set_cons_zero, List.set_cons_succ])
  refine wpH_take (i := 6) (v := .bool true) hB (by rfl) (by kernel_rfl) (fun _ _ _ _ _ h => h) (by rfl) hS0 (fun W hI => by clear hI; go_simp) ?_; (try simp only [Act.put, List.setIfInBounds_toArray, List.set_cons_zero, List.set_cons_succ])
  refine wpH_takeG (i := 7) (v := .pointer (some ⟨vb, 0, none⟩)) hB (by rfl) (by kernel_rfl) (fun _ _ _ _ _ h => h) (by go_simp) hS0 (fun W hI => by clear hI; go_simp) ?_; (try simp only [Act.put, List.setIfInBounds_toArray, List.set_cons_zero, List.set_cons_succ])
  refine wpH_takeG (i := 8) (v := .pointer (some ⟨hb, 0, none⟩)) hB (by rfl) (by kernel_rfl) (fun _ _ _ _ _ h => h) (by go_simp) hS0 (fun W hI => by clear hI; go_simp) ?_; (try simp only [Act.put, List.setIfInBounds_toArray, List.set_cons_zero, List.set_cons_succ])
  refine wpH_one (i := 9) (by kernel_rfl) (wpOp_enterG (fn := 44) (args := #[.pointer (some ⟨vb, 0, none⟩), .int .i64 0, .pointer (some ⟨hb, 0, none⟩)]) (by rfl) (by go_simp) (by go_simp) ((P3.out.pushed 0 (by omega) k2 (by rw [HL7l.out]; exact Hk2.out)).mono ?_))
  rintro e w10 ⟨rfl, hp, hk⟩
  have hk2 : Keeps (K32 w1 Z2 W.heap.size) _ w10 := hk.mono (fun c _ e => .inl e)
  refine ⟨_, rfl, hS0.trans hk2, ?_⟩
  have P3 := Lib.hid hp
  have L3 := Lib.hid (L3.out.keeps hk (fun c hc e => e.1 hc.2.1))
  have K3 := Lib.hid (K3.out.trans (hk.mono (fun c _ e => ⟨fun h => e.1 (HZa.out c h), e.2⟩)))
  have hKK := Lib.hid (hKK.out.trans hk)
  have hS1 := hS0.trans hk2
  clear hS0 hk hp hk2
  have hS0 := hS1
  clear hS1
  (try simp only [Act.put, List.setIfInBounds_toArray, List.set_cons_zero, List.set_cons_succ])
  refine wpH_takeG (i := 10) (v := .bool true) hB (by rfl) (by kernel_rfl) (fun _ _ _ _ _ h => h) (by go_simp) hS0 (fun W hI => by clear hI; go_simp) ?_; (try simp only [Act.put, List.setIfInBounds_toArray, List.set_cons_zero, List.set_cons_succ])
  refine wpH_take (i := 11) (v := .bool true) hB (by rfl) (by kernel_rfl) (fun _ _ _ _ _ h => h) (by rfl) hS0 (fun W hI => by clear hI; go_simp) ?_; (try simp only [Act.put, List.setIfInBounds_toArray, List.set_cons_zero, List.set_cons_succ])
  have D7 := Lib.hid (B3.out.2.2.2.1.keeps hKK.out (fun e => (e.1 (HZ5.out _ (by omega) (by omega))).elim))
  have D8 := Lib.hid (B3.out.2.2.2.2.keeps hKK.out (fun e => (e.1 (HZ5.out _ (by omega) (by omega))).elim))
  obtain ⟨w8, hw8⟩ : ∃ w8, w8 = w10.setRow (W.heap.size + 1 + 1 + 1) #[.int .i64 rows, .int .i64 k2] := ⟨_, rfl⟩
  have Hst8 := Lib.hid (show (Instr.storeAt 86 (.pointer (some ⟨W.heap.size + 1 + 1 + 1, 0, none⟩)) (.agg #[.int .i64 rows, .int .i64 k2])).run Tryd.prog w10 = .ok () w8 by rw [hw8]; exact run_storeAt_row (P := Tryd.prog) (W := w10) 86 (W.heap.size + 1 + 1 + 1) _ 86 [.int .i64 rows, .int .i64 k2] (fun _ => by kernel_rfl) D7.out rfl (by intro v hv; simp only [List.mem_cons, List.not_mem_nil, or_false] at hv; rcases hv with rfl | rfl <;> rfl))
  have Hk8 := Lib.hid (show Keeps (fun b => b = W.heap.size + 1 + 1 + 1) w10 w8 by rw [hw8]; exact ⟨rfl, rfl, rfl, by simp [World.setRow], fun b hb hne => setRow_other w10 _ b _ (fun e => hne e)⟩)
  have E7 := Lib.hid (show RvAt w8 (W.heap.size + 1 + 1 + 1) rows k2 by rw [hw8]; exact setRow_heap _ _ _ _ _ (0, 0) D7.out)
  have E8 := Lib.hid (D8.out.keeps Hk8.out (fun e => by have e : W.heap.size + 1 + 1 + 1 + 1 = W.heap.size + 1 + 1 + 1 := e; omega))
  clear hw8 D7 D8
  obtain ⟨w9, hw9⟩ : ∃ w9, w9 = w8.setRow (W.heap.size + 1 + 1 + 1 + 1) #[.int .i64 most, .int .i64 first, .slice a7 n7 c7] := ⟨_, rfl⟩
  have Hst9 := Lib.hid (show (Instr.storeAt 60 (.pointer (some ⟨W.heap.size + 1 + 1 + 1 + 1, 0, none⟩)) (.agg #[.int .i64 most, .int .i64 first, .slice a7 n7 c7])).run Tryd.prog w8 = .ok () w9 by rw [hw9]; exact run_storeAt_row (P := Tryd.prog) (W := w8) 60 (W.heap.size + 1 + 1 + 1 + 1) _ 60 [.int .i64 most, .int .i64 first, .slice a7 n7 c7] (fun _ => by kernel_rfl) E8.out rfl (by intro v hv; simp only [List.mem_cons, List.not_mem_nil, or_false] at hv; rcases hv with rfl | rfl | rfl <;> rfl))
  have Hk9 := Lib.hid (show Keeps (fun b => b = W.heap.size + 1 + 1 + 1 + 1) w8 w9 by rw [hw9]; exact ⟨rfl, rfl, rfl, by simp [World.setRow], fun b hb hne => setRow_other w8 _ b _ (fun e => hne e)⟩)
  have G8 := Lib.hid (show HrAt w9 (W.heap.size + 1 + 1 + 1 + 1) most first (.slice a7 n7 c7) by rw [hw9]; exact setRow_heap _ _ _ _ _ (0, 0) E8.out)
  have G7 := Lib.hid (E7.out.keeps Hk9.out (fun e => by have e : W.heap.size + 1 + 1 + 1 = W.heap.size + 1 + 1 + 1 + 1 := e; omega))
  clear hw9 E8 E7
  have hS8 := hS0.trans (Hk8.out.mono (fun b _ e => (.inr (.inl e) : K32 w1 Z2 W.heap.size b)))
  have hS9 := hS8.trans (Hk9.out.mono (fun b _ e => (.inr (.inr e) : K32 w1 Z2 W.heap.size b)))
  refine wpH_one (i := 12) (by kernel_rfl) (wpOp_skip (w' := w8) (by rfl) (wanted_none (by rfl) _) (exec_store (a := .pointer (some ⟨W.heap.size + 1 + 1 + 1, 0, none⟩)) (v := .agg #[.int .i64 rows, .int .i64 k2]) rfl (by go_simp) (by go_simp) Hst8.out) ⟨hS8, ?_⟩)
  (try simp only [Act.put, List.setIfInBounds_toArray, List.set_cons_zero, List.set_cons_succ])
  refine wpH_one (i := 13) (by kernel_rfl) (wpOp_skip (w' := w9) (by rfl) (wanted_none (by rfl) _) (exec_store (a := .pointer (some ⟨W.heap.size + 1 + 1 + 1 + 1, 0, none⟩)) (v := .agg #[.int .i64 most, .int .i64 first, .slice a7 n7 c7]) rfl (by go_simp) (by go_simp) Hst9.out) ⟨hS9, ?_⟩)
  (try simp only [Act.put, List.setIfInBounds_toArray, List.set_cons_zero, List.set_cons_succ])
  clear hS0
  have hS0 := hS9
  refine wpH_take (i := 14) (v := .bool true) hB (by rfl) (by kernel_rfl) (fun _ _ _ _ _ h => h) (by rfl) hS0 (fun W hI => by clear hI; go_simp) ?_; (try simp only [Act.put, List.setIfInBounds_toArray, List.set_cons_zero, List.set_cons_succ])
  refine wpH_end (by kernel_rfl) ?_
  clear hB hS0 hS8 hS9 Hst8 Hst9
  obtain ⟨z0, z1⟩ := G7.out.c
  obtain ⟨z2, z3, z4⟩ := G8.out.c
  go_wp2
  refine bodyPost_ret_by (v := .tuple #[.agg #[.int .i64 rows, .int .i64 k2], .agg #[.int .i64 most, .int .i64 first, .slice a7 n7 c7], .bool true]) (by simp [results, Tryd.results54, go_sem, z0, z1, z2, z3, z4]) rfl ?_
  exact does32_fin P3.out L3.out K3.out HZa.out HZb.out HZ5.out (Nat.le_refl _) hW1 ((Hk8.out.mono (fun b _ e => .inl e)).trans (Hk9.out.mono (fun b _ e => .inr e))) (.inl rfl) (by rw [HL7l.out]; exact hk2n) (by rw [HL7l.out]; omega)
/-- Whatever the call is. -/
theorem does32_any (what : Int) (hw0 : 0 ≤ what) (hw5 : what ≤ 5) (ht : Tabs w1) (h : VpSt w1 W Z vb hb rows back most first ls) (hv : lnEl.Rd Zl W (.slice a n c) ls) (hZl : ∀ c, Zl c → Z c) (hn : n = ls.length) (hnm : n ≤ 1000) (hbk : back ≤ n) (hfb : first + n ≤ 1000000) :
    Calls Tryd.prog 54 #[.pointer (some ⟨vb, 0, none⟩), .pointer (some ⟨hb, 0, none⟩), .agg #[.int .i64 rows, .int .i64 back], .agg #[.int .i64 most, .int .i64 first, .slice a n c], .agg #[.int .i64 what, .int .i64 num]] W fun e w' => DoesP32 w1 W Z Zl vb hb rows most (first + n) what num e w' := by
  by_cases h0 : what = 0
  · subst h0; exact does32_scroll ht h hv hZl hn hnm hbk hfb
  by_cases h1 : what = 1
  · subst h1; exact does32_bottom ht h hv hZl hn hnm hbk hfb
  by_cases h2 : what = 2
  · subst h2; exact does32_push ht h hv hZl hn hnm hbk hfb
  by_cases h3 : what = 3
  · subst h3
    by_cases hx : num < 1
    · exact does32_resize_lo ht h hv hZl hn hnm hbk hfb hx
    · by_cases hy : 1000 < num
      · exact does32_resize_hi ht h hv hZl hn hnm hbk hfb hy
      · obtain ⟨r2, rfl⟩ := Int.eq_ofNat_of_zero_le (show 0 ≤ num by omega)
        exact does32_resize r2 ht h hv hZl hn hnm hbk hfb (by omega) (by omega)
  by_cases h4 : what = 4
  · subst h4; exact does32_pull ht h hv hZl hn hnm hbk hfb
  · obtain rfl : what = 5 := by omega
    by_cases hx : num < 0
    · exact does32_pushed_bad ht h hv hZl hn hnm hbk hfb hx
    · exact does32_pushed ht h hv hZl hn hnm hbk hfb (by omega)
end
end Go.Proofs.YtpicffaghoggdaaDoor
