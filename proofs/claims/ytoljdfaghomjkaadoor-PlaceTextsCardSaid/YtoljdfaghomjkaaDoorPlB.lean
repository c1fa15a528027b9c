/- Comparing places. No condition. -/
import Derived.Test.YtoljdfaghomjkaaDoorPlA
namespace Go.Proofs.YtoljdfaghomjkaaDoor
set_option linter.unusedVariables false
set_option linter.unusedSimpArgs false
open Go.RowKit

/-- As the library compares numbers. -/
def cmpI (a b : Int) : Int := if a < b then -1 else if b < a then 1 else 0
def cmpP (l c m d : Int) : Int := if cmpI l m ≠ 0 then cmpI l m else cmpI c d
theorem cmpI_eq (a b : Int) : cmpI a b = -1 ∨ cmpI a b = 0 ∨ cmpI a b = 1 := by unfold cmpI; split <;> (try split) <;> simp
theorem isNaN_any (x : Int) (w : World) : Calls Tryd.prog 38 #[.int .i64 x] w fun e w' => e = .returned (.bool false) ∧ Sees w w' := by
  have hw := Sees.refl w
  have h : (x == x) = true := by simp
  go_enter Tryd.func38, Tryd.ntmps38
  go_wp2
  go_ret
  exact ⟨rfl, hw⟩
theorem or2 (a b : Int) (blk : Nat) (w : World) (c0 : w.cell? ⟨blk, 0, none⟩ = some (.int .i64 a)) (c1 : w.cell? ⟨blk, 1, none⟩ = some (.int .i64 b)) :
    Calls Tryd.prog 29 #[.slice (some ⟨blk, 0, none⟩) 2 2] w fun e w' => e = .returned (.int .i64 (if a ≠ 0 then a else b)) ∧ Sees w w' := by
  have hw := Sees.refl w
  by_cases ha : a = 0
  · subst ha
    by_cases hb : b = 0
    · subst hb
      go_enter Tryd.func29, Tryd.ntmps29
      go_wp2
      refine wp_loop_rounds 3 ?_
      repeat any_goals (rw [rounds_succ]; go_wp2)
      go_ret
      exact ⟨by simp, hw⟩
    · have h2 : (b == 0) = false := by simp [hb]
      go_enter Tryd.func29, Tryd.ntmps29
      go_wp2
      refine wp_loop_rounds 3 ?_
      repeat any_goals (rw [rounds_succ]; go_wp2)
      go_ret
      exact ⟨by simp, hw⟩
  · have h2 : (a == 0) = false := by simp [ha]
    go_enter Tryd.func29, Tryd.ntmps29
    go_wp2
    refine wp_loop_rounds 3 ?_
    repeat any_goals (rw [rounds_succ]; go_wp2)
    go_ret
    exact ⟨by simp [ha], hw⟩
theorem cmp_any (a b : Int) (w : World) : Calls Tryd.prog 30 #[.int .i64 a, .int .i64 b] w fun e w' => e = .returned (.int .i64 (cmpI a b)) ∧ Sees w w' := by
  have hw := Sees.refl w
  unfold cmpI
  have e2 : decide (a > b) = decide (b < a) := rfl
  rcases Bool.eq_false_or_eq_true (decide (a < b)) with h1 | h1 <;> rcases Bool.eq_false_or_eq_true (decide (b < a)) with h2 | h2 <;> rw [h2] at e2
  all_goals
    have q1 : (if a < b then (-1 : Int) else if b < a then 1 else 0) = (if decide (a < b) = true then (-1 : Int) else if decide (b < a) = true then 1 else 0) := by simp
    rw [q1, h1, h2]
    clear q1
    go_enter Tryd.func30, Tryd.ntmps30
    go_wp2_with fail
    refine (isNaN_any a _).mono ?_
    rintro e w1 ⟨rfl, s1⟩
    go_wp2_with fail
    refine (isNaN_any b _).mono ?_
    rintro e w2 ⟨rfl, s2⟩
    have hS := s1.trans s2
    clear s1 s2
    go_wp2
    go_ret
    exact ⟨by simp, hS⟩
set_option maxHeartbeats 1000000 in
theorem compare_any (l c m d : Int) (w : World) : Calls Tryd.prog 11 #[pl l c, pl m d] w fun e w' => e = .returned (.int .i64 (cmpP l c m d)) ∧ Sees w w' := by
  have hw := Sees.refl w
  go_enter Tryd.func11, Tryd.ntmps11
  go_wp2_with fail
  refine wp_world (fun w1 hw1 => ?_)
  have hS : Sees w w1 := by subst hw1; exact (hw.alloc _).alloc _
  have a0 : w1.cell? ⟨w.heap.size, 0, none⟩ = some (.int .i64 l) := by subst hw1; simp
  have a1 : w1.cell? ⟨w.heap.size, 1, none⟩ = some (.int .i64 c) := by subst hw1; simp
  have b0 : w1.cell? ⟨w.heap.size + 1, 0, none⟩ = some (.int .i64 m) := by subst hw1; simp
  have b1 : w1.cell? ⟨w.heap.size + 1, 1, none⟩ = some (.int .i64 d) := by subst hw1; simp
  clear hw1
  have HC : Hid (∀ W, Sees w1 W → W.cell? ⟨w.heap.size, 0, none⟩ = some (.int .i64 l) ∧ W.cell? ⟨w.heap.size, 1, none⟩ = some (.int .i64 c) ∧ W.cell? ⟨w.heap.size + 1, 0, none⟩ = some (.int .i64 m) ∧ W.cell? ⟨w.heap.size + 1, 1, none⟩ = some (.int .i64 d)) :=
    Lib.hid fun W h => ⟨h.cell a0, h.cell a1, h.cell b0, h.cell b1⟩
  clear a0 a1 b0 b1
  refine wpFrom_go (by kernel_rfl) (by kernel_rfl) (fun hB w2 hw2 => ?_)
  have hst : segStay (Sees w2) [.is (.pointer (some ⟨w.heap.size, 0, none⟩)), .is (.int .i64 l), .is (.pointer (some ⟨w.heap.size + 1, 0, none⟩)), .is (.int .i64 m), .is (.int .i64 (cmpI l m)),
      .is (.pointer (some ⟨w.heap.size, 1, none⟩)), .is (.int .i64 c), .is (.pointer (some ⟨w.heap.size + 1, 1, none⟩)), .is (.int .i64 d), .is (.int .i64 (cmpI c d))] := trivial
  have hval : ∀ x v, (Spec.is x).val v = x := fun _ _ => rfl
  refine wpFrom_any 10 _ hB (by kernel_rfl) rfl hst (by simp only [List.cons_append, List.nil_append, List.drop_succ_cons, List.drop_zero, List.take_succ_cons, List.take_zero, Nat.reduceSub]; rfl) ?_
  refine ⟨fun vs W hI hV => .inl ⟨by go_simp, .inl (by go_simp)⟩, ?_⟩
  refine ⟨fun vs W hI hV => .inl ⟨by go_simp, .inl (by have q := HC.out _ (hw2.trans hI); obtain ⟨q0, q1, q2, q3⟩ := q; clear hI hV; go_simp)⟩, ?_⟩
  refine ⟨fun vs W hI hV => .inl ⟨by go_simp, .inl (by go_simp)⟩, ?_⟩
  refine ⟨fun vs W hI hV => .inl ⟨by go_simp, .inl (by have q := HC.out _ (hw2.trans hI); obtain ⟨q0, q1, q2, q3⟩ := q; clear hI hV; go_simp)⟩, ?_⟩
  refine ⟨fun vs W hI hV => .inl ⟨by clear hV; go_simp, .inr (.inr ⟨30, #[.int .i64 l, .int .i64 m], by clear hI hV; go_simp, cmp_any l m W⟩)⟩, ?_⟩
  refine ⟨fun vs W hI hV => .inl ⟨by go_simp, .inl (by go_simp)⟩, ?_⟩
  refine ⟨fun vs W hI hV => .inl ⟨by go_simp, .inl (by have q := HC.out _ (hw2.trans hI); obtain ⟨q0, q1, q2, q3⟩ := q; clear hI hV; go_simp)⟩, ?_⟩
  refine ⟨fun vs W hI hV => .inl ⟨by go_simp, .inl (by go_simp)⟩, ?_⟩
  refine ⟨fun vs W hI hV => .inl ⟨by go_simp, .inl (by have q := HC.out _ (hw2.trans hI); obtain ⟨q0, q1, q2, q3⟩ := q; clear hI hV; go_simp)⟩, ?_⟩
  refine ⟨fun vs W hI hV => .inl ⟨by clear hV; go_simp, .inr (.inr ⟨30, #[.int .i64 c, .int .i64 d], by clear hI hV; go_simp, cmp_any c d W⟩)⟩, ?_⟩
  intro vs w3 hI hV
  have hS3 := hS.trans (hw2.trans hI)
  clear hI hV hst
  go_simp
  refine wpFrom_to 13 hB (fun _ _ _ _ _ h => h) (by kernel_rfl) (by simp only [List.cons_append, List.nil_append, List.drop_succ_cons, List.drop_zero, List.take_succ_cons, List.take_zero, Nat.reduceSub]; rfl) ?_
  go_wp2_with fail
  refine (or2 (cmpI l m) (cmpI c d) w3.heap.size _ (by simp) (by simp)).mono ?_
  rintro e w4 ⟨rfl, s4⟩
  rw [show (if cmpI l m ≠ 0 then cmpI l m else cmpI c d) = cmpP l c m d from rfl]
  have hS4 := hS3.trans (((Sees.refl w3).alloc _).trans s4)
  go_wp2
  refine wpFrom_end rfl ?_; go_wp2
  go_ret
  exact ⟨rfl, hS4⟩
theorem before_any (l c m d : Int) (w : World) : Calls Tryd.prog 8 #[pl l c, pl m d] w fun e w' => e = .returned (.bool (decide (l < m) || (l == m && decide (c < d)))) ∧ Sees w w' := by
  have hw := Sees.refl w
  rcases Bool.eq_false_or_eq_true (decide (l < m)) with h1 | h1 <;> rcases Bool.eq_false_or_eq_true (l == m) with h2 | h2 <;> rcases Bool.eq_false_or_eq_true (decide (c < d)) with h3 | h3
  all_goals
    rw [h1, h2, h3]
    go_enter Tryd.func8, Tryd.ntmps8
    go_wp2
    go_ret
    exact ⟨rfl, (hw.alloc _).alloc _⟩
theorem at_any (l c : Int) (w : World) : Calls Tryd.prog 31 #[.int .i64 l, .int .i64 c] w fun e w' => e = .returned (pl l c) ∧ Sees w w' := by
  have hw := Sees.refl w
  go_enter Tryd.func31, Tryd.ntmps31
  go_wp2
  refine bodyPost_ret_by (v := pl l c) (by simp [results, Tryd.results31, go_sem]) rfl ⟨rfl, hw.alloc _⟩
end Go.Proofs.YtoljdfaghomjkaaDoor
