/- The order of two places, and which are within. No condition. -/
import Derived.Test.YtoljdfaghomjkaaDoorPlF
namespace Go.Proofs.YtoljdfaghomjkaaDoor
set_option linter.unusedVariables false
set_option linter.unusedSimpArgs false
open Go.RowKit

set_option maxHeartbeats 2000000 in
theorem order_any (l c m d : Int) (w : World) :
    Calls Tryd.prog 12 #[pl l c, pl m d] w fun e w' => e = .returned (.tuple (if cmpP l c m d > 0 then #[pl m d, pl l c] else #[pl l c, pl m d])) ∧ Sees w w' := by
  have hw := Sees.refl w
  obtain ⟨k, hk⟩ : ∃ k, k = cmpP l c m d := ⟨_, rfl⟩
  rw [← hk]
  obtain ⟨r, hr⟩ : ∃ r, r = (if k > 0 then #[pl m d, pl l c] else #[pl l c, pl m d]) := ⟨_, rfl⟩
  rw [← hr]
  go_enter Tryd.func12, Tryd.ntmps12
  go_wp2_with fail
  refine calls_world (fun w0 hw0 => ?_)
  have hS0 : Sees w w0 := by rw [hw0]; exact (((hw.alloc _).alloc _).alloc _).alloc _
  have A0 : PlAt w0 w.heap.size l c := by rw [hw0]; exact ((((PlAt.new w l c).sees ((Sees.refl _).alloc _)).sees ((Sees.refl _).alloc _)).sees ((Sees.refl _).alloc _))
  have hz1 : (w.alloc (.cells #[.int .i64 l, .int .i64 c] 23)).heap.size = w.heap.size + 1 := by simp
  have hz2 : ((w.alloc (.cells #[.int .i64 l, .int .i64 c] 23)).alloc (.cells #[.int .i64 m, .int .i64 d] 23)).heap.size = w.heap.size + 1 + 1 := by simp
  have hz3 : (((w.alloc (.cells #[.int .i64 l, .int .i64 c] 23)).alloc (.cells #[.int .i64 m, .int .i64 d] 23)).alloc (.cells #[.int .i64 0, .int .i64 0] 23)).heap.size = w.heap.size + 1 + 1 + 1 := by simp
  have B0 : PlAt w0 (w.heap.size + 1) m d := by rw [hw0, ← hz1]; exact (((PlAt.new _ m d).sees ((Sees.refl _).alloc _)).sees ((Sees.refl _).alloc _))
  have C0 : PlAt w0 (w.heap.size + 1 + 1) 0 0 := by rw [hw0, ← hz2]; exact ((PlAt.new _ 0 0).sees ((Sees.refl _).alloc _))
  have D0 : PlAt w0 (w.heap.size + 1 + 1 + 1) 0 0 := by rw [hw0, ← hz3]; exact PlAt.new _ 0 0
  clear hw0 hz1 hz2 hz3
  refine (compare_any l c m d _).mono ?_
  rintro e w1 ⟨rfl, s1⟩
  rw [← hk]
  have hS := hS0.trans s1
  have A := A0.sees s1
  have B := B0.sees s1
  have C := C0.sees s1
  have D := D0.sees s1
  clear s1 A0 B0 C0 D0 hS0
  have HA := Lib.hid A
  have HB := Lib.hid B
  obtain ⟨a0, a1⟩ := A.cs
  obtain ⟨b0, b1⟩ := B.cs
  obtain ⟨c0, c1⟩ := C.cs
  obtain ⟨d0, d1⟩ := D.cs
  obtain ⟨f0, f1⟩ := C.fr
  obtain ⟨f2, f3⟩ := D.fr
  have hl := D.lt
  clear A B C D
  by_cases h : k > 0
  · rw [if_pos h] at hr
    subst hr
    have t : decide (k > 0) = true := decide_eq_true h
    have t' : decide (0 < k) = true := decide_eq_true h
    go_wp2_with fail
    go_region
    all_goals
      go_wp2
      refine bodyPost_ret_by (v := .tuple #[pl m d, pl l c]) (by simp [results, Tryd.results12, go_sem, a0, a1, b0, b1, c0, c1, d0, d1]) rfl ⟨rfl, ?_⟩
      repeat (first | exact hS | refine Sees.setCell ?_ (by first | exact Nat.le_refl _ | exact Nat.le_succ _ | (simp; done) | (simp; omega)) _ | refine Sees.alloc ?_ _ | refine Sees.drew ?_)
  · rw [if_neg h] at hr
    subst hr
    have t : decide (k > 0) = false := decide_eq_false h
    have t' : decide (0 < k) = false := decide_eq_false h
    go_wp2_with fail
    go_region
    all_goals
      go_wp2
      refine bodyPost_ret_by (v := .tuple #[pl l c, pl m d]) (by simp [results, Tryd.results12, go_sem, a0, a1, b0, b1, c0, c1, d0, d1]) rfl ⟨rfl, ?_⟩
      repeat (first | exact hS | refine Sees.setCell ?_ (by first | exact Nat.le_refl _ | exact Nat.le_succ _ | (simp; done) | (simp; omega)) _ | refine Sees.alloc ?_ _ | refine Sees.drew ?_)
theorem within_any (l c m d x y : Int) (w : World) :
    Calls Tryd.prog 13 #[pl l c, pl m d, pl x y] w fun e w' => e = .returned (.bool (decide (cmpP m d l c ≤ 0) && decide (cmpP l c x y < 0))) ∧ Sees w w' := by
  have hw := Sees.refl w
  rcases Bool.eq_false_or_eq_true (decide (cmpP m d l c ≤ 0)) with h1 | h1 <;> rcases Bool.eq_false_or_eq_true (decide (cmpP l c x y < 0)) with h2 | h2
  all_goals
    rw [h1, h2]
    go_enter Tryd.func13, Tryd.ntmps13
    go_wp2_with fail
    refine calls_world (fun w0 hw0 => ?_)
    have hS0 : Sees w w0 := by rw [hw0]; exact ((hw.alloc _).alloc _).alloc _
    have hz1 : ((w.alloc (.cells #[.int .i64 l, .int .i64 c] 23)).alloc (.cells #[.int .i64 m, .int .i64 d] 23)).heap.size = w.heap.size + 1 + 1 := by simp
    obtain ⟨a0, a1⟩ : w0.cell? ⟨w.heap.size, 0, none⟩ = some (.int .i64 l) ∧ w0.cell? ⟨w.heap.size, 1, none⟩ = some (.int .i64 c) := by rw [hw0]; exact (((PlAt.new w l c).sees ((Sees.refl _).alloc _)).sees ((Sees.refl _).alloc _)).cs
    obtain ⟨b0, b1⟩ : w0.cell? ⟨w.heap.size + 1 + 1, 0, none⟩ = some (.int .i64 x) ∧ w0.cell? ⟨w.heap.size + 1 + 1, 1, none⟩ = some (.int .i64 y) := by rw [hw0, ← hz1]; exact (PlAt.new _ x y).cs
    clear hz1
    clear hw0
    refine (compare_any m d l c _).mono ?_
    rintro e w1 ⟨rfl, s1⟩
    have hS := hS0.trans s1
    have c0 := s1.cell a0
    have c1 := s1.cell a1
    have c2 := s1.cell b0
    have c3 := s1.cell b1
    clear s1 a0 a1 b0 b1 hS0
    first
    | (go_wp2; go_ret; exact ⟨rfl, hS⟩)
    | (go_wp2_with fail
       refine (compare_any l c x y _).mono ?_
       rintro e w2 ⟨rfl, s2⟩
       have hS2 := hS.trans s2
       clear s2
       go_wp2
       go_ret
       exact ⟨rfl, hS2⟩)
end Go.Proofs.YtoljdfaghomjkaaDoor
