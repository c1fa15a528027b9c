/- Places some cells behind others. No condition. -/
import Derived.Test.YtoljdfaghomjkaaDoorPlC
namespace Go.Proofs.YtoljdfaghomjkaaDoor
set_option linter.unusedVariables false
set_option linter.unusedSimpArgs false
open Go.RowKit

theorem in_ok {l c n : Int} (h : inB l c n = true) : (1 ≤ n ∧ n ≤ 1000) ∧ (0 ≤ l ∧ l ≤ 1099511627776) ∧ 0 ≤ c ∧ c < n := by
  unfold inB wideB vP at h
  simp at h
  omega
theorem in_mk {l c n : Int} (h : (1 ≤ n ∧ n ≤ 1000) ∧ (0 ≤ l ∧ l ≤ 1099511627776) ∧ 0 ≤ c ∧ c < n) : inB l c n = true := by
  unfold inB wideB vP
  simp
  omega
theorem mul_in {l n : Int} (hl : 0 ≤ l ∧ l ≤ 1099511627776) (hn : 1 ≤ n ∧ n ≤ 1000) : 0 ≤ l * n ∧ l * n ≤ 1099511627776 * n ∧ l * n ≤ 1099511627776000 := by
  have h1 : 0 ≤ l * n := Int.mul_nonneg hl.1 (by omega)
  have h2 : l * n ≤ 1099511627776 * n := Int.mul_le_mul_of_nonneg_right hl.2 (by omega)
  exact ⟨h1, h2, by omega⟩
/-- The place so many cells behind, and the error. -/
def stR (l c n cols : Int) : (Int × Int) × Int :=
  if inB l c cols = true then
    if 0 ≤ l * cols + c + n ∧ l * cols + c + n < 1099511627777 * cols then (((l * cols + c + n) / cols, (l * cols + c + n) % cols), 0) else ((0, 0), 3)
  else ((0, 0), 2)

set_option maxHeartbeats 2000000 in
theorem step_any (l c n cols : Int) (hn : I64 n) (w : World) :
    Calls Tryd.prog 26 #[pl l c, .int .i64 n, .int .i64 cols] w fun e w' => e = .returned (.tuple #[pl (stR l c n cols).1.1 (stR l c n cols).1.2, .int .i64 (stR l c n cols).2]) ∧ Sees w w' := by
  have hw := Sees.refl w
  obtain ⟨r, hr⟩ : ∃ r, r = stR l c n cols := ⟨_, rfl⟩
  rw [← hr]
  unfold stR at hr
  go_enter Tryd.func26, Tryd.ntmps26
  go_wp2_with fail
  refine (in_any l c cols _).mono ?_
  rintro e w1 ⟨rfl, s1⟩
  have hS := ((hw.alloc _).alloc _).trans s1
  have R := ((PlAt.new w l c).sees ((Sees.refl _).alloc _)).sees s1
  have T := (PlAt.new (w.alloc (.cells #[.int .i64 l, .int .i64 c] 23)) 0 0).sees s1
  rw [show (w.alloc (.cells #[.int .i64 l, .int .i64 c] 23)).heap.size = w.heap.size + 1 by simp] at T
  clear s1
  obtain ⟨d0, d1⟩ := R.cs
  obtain ⟨e0, e1⟩ := R.fr
  obtain ⟨d2, d3⟩ := T.cs
  obtain ⟨f0, f1⟩ := T.fr
  have hlt := R.lt
  have hlt2 := T.lt
  clear R T
  by_cases hin : inB l c cols = true
  · rw [if_pos hin] at hr
    obtain ⟨b1, b2, b3, b4⟩ := in_ok hin
    obtain ⟨m1, m2, m3⟩ := mul_in b2 b1
    obtain ⟨b5, b6⟩ := b1
    rw [hin]
    by_cases g1 : n < -(l * cols + c)
    · rw [if_neg (by omega)] at hr
      subst hr
      have t1 : decide (n < -(l * cols + c)) = true := decide_eq_true g1
      go_wp2
      refine bodyPost_ret_by (v := .tuple #[pl 0 0, .int .i64 3]) (by simp [results, Tryd.results26, go_sem, d0, d1, d2, d3]) rfl ⟨rfl, ?_⟩
      repeat (first | exact hS | refine Sees.setCell ?_ (by first | exact Nat.le_refl _ | exact Nat.le_succ _ | (simp; done) | (simp; omega)) _ | refine Sees.alloc ?_ _)
    have t1 : decide (n < -(l * cols + c)) = false := decide_eq_false g1
    by_cases g2 : 1099511627777 * cols - (l * cols + c) ≤ n
    · rw [if_neg (by omega)] at hr
      subst hr
      have t2 : decide (n ≥ 1099511627777 * cols - (l * cols + c)) = true := decide_eq_true g2
      have t2' : decide (1099511627777 * cols - (l * cols + c) ≤ n) = true := decide_eq_true g2
      go_wp2
      refine bodyPost_ret_by (v := .tuple #[pl 0 0, .int .i64 3]) (by simp [results, Tryd.results26, go_sem, d0, d1, d2, d3]) rfl ⟨rfl, ?_⟩
      repeat (first | exact hS | refine Sees.setCell ?_ (by first | exact Nat.le_refl _ | exact Nat.le_succ _ | (simp; done) | (simp; omega)) _ | refine Sees.alloc ?_ _)
    have t2 : decide (n ≥ 1099511627777 * cols - (l * cols + c)) = false := decide_eq_false g2
    have t2' : decide (1099511627777 * cols - (l * cols + c) ≤ n) = false := decide_eq_false g2
    rw [if_pos (by omega)] at hr
    go_wp2_with fail
    obtain ⟨X, hX⟩ : ∃ X, X = l * cols + c + n := ⟨_, rfl⟩
    rw [← hX] at hr ⊢
    have x0 : 0 ≤ X := by omega
    have x1 : X ≤ 9000000000000000000 := by omega
    have hq : IntKind.i64.wrap (X.tdiv cols) = X / cols := IntWalk.i64_quo X cols ⟨x0, by omega, b5⟩
    have hm : X.tmod cols = X % cols := IntWalk.rem_in X cols x0
    have hm2 : 0 ≤ X % cols ∧ X % cols < cols := ⟨Int.emod_nonneg _ (by omega), Int.emod_lt_of_pos _ (by omega)⟩
    have hm3 : IntKind.i64.wrap (X % cols) = X % cols := IntWalk.i64_in _ (by omega)
    have hc0 : cols ≠ 0 := by omega
    have hc1 : (cols == 0) = false := by simp [hc0]
    clear hX m1 m2 m3 t1 t2 t2' g1 g2
    refine wpFrom_go (by kernel_rfl) (by kernel_rfl) (fun hB w2 hw2 => ?_)
    have hst : segStay (Sees w2) [.is (.int .i64 X), .is (.int .i64 cols), .is (.int .i64 (X / cols)), .is (.int .i64 X), .is (.int .i64 cols), .is (.int .i64 (X % cols))] := trivial
    have hval : ∀ x v, (Spec.is x).val v = x := fun _ _ => rfl
    refine wpFrom_any 6 _ hB (by kernel_rfl) rfl hst (by simp only [List.cons_append, List.nil_append, List.drop_succ_cons, List.drop_zero, List.take_succ_cons, List.take_zero, Nat.reduceSub]; rfl) ?_
    refine ⟨fun vs W hI hV => .inl ⟨by go_simp, .inl (by go_simp)⟩, ?_⟩
    refine ⟨fun vs W hI hV => .inl ⟨by go_simp, .inl (by go_simp)⟩, ?_⟩
    refine ⟨fun vs W hI hV => .inl ⟨by go_simp, .inl (by go_simp)⟩, ?_⟩
    refine ⟨fun vs W hI hV => .inl ⟨by go_simp, .inl (by go_simp)⟩, ?_⟩
    refine ⟨fun vs W hI hV => .inl ⟨by go_simp, .inl (by go_simp)⟩, ?_⟩
    refine ⟨fun vs W hI hV => .inl ⟨by go_simp, .inl (by go_simp)⟩, ?_⟩
    intro vs w3 hI hV
    have hI2 := hw2.trans hI
    have d4 := hI2.cell d2
    have d5 := hI2.cell d3
    have f4 : w3.frozen? ⟨w.heap.size + 1, 0, none⟩ = false := by rw [hI2.frozens _ _ hlt2]; exact f0
    have f5 : w3.frozen? ⟨w.heap.size + 1, 1, none⟩ = false := by rw [hI2.frozens _ _ hlt2]; exact f1
    have hS3 := hS.trans hI2
    have hlt3 := Nat.lt_of_lt_of_le hlt2 hI2.size
    clear hI hV hst hI2 d2 d3 f0 f1 d0 d1 e0 e1
    go_simp
    refine wpFrom_to 9 hB (fun _ _ _ _ _ h => h) (by kernel_rfl) (by simp only [List.cons_append, List.nil_append, List.drop_succ_cons, List.drop_zero, List.take_succ_cons, List.take_zero, Nat.reduceSub]; rfl) ?_
    go_wp2
    refine wpFrom_end rfl ?_; go_wp2
    subst hr
    refine bodyPost_ret_by (v := .tuple #[pl (X / cols) (X % cols), .int .i64 0]) (by simp [results, Tryd.results26, go_sem, d4, d5]) rfl ⟨rfl, ?_⟩
    repeat (first | exact hS3 | refine Sees.setCell ?_ (by first | exact Nat.le_refl _ | exact Nat.le_succ _ | (simp; done) | (simp; omega)) _ | refine Sees.alloc ?_ _)
  · rw [if_neg hin] at hr
    subst hr
    have hin' : inB l c cols = false := by simpa using hin
    rw [hin']
    go_wp2
    refine bodyPost_ret_by (v := .tuple #[pl 0 0, .int .i64 2]) (by simp [results, Tryd.results26, go_sem, d0, d1, d2, d3]) rfl ⟨rfl, ?_⟩
    repeat (first | exact hS | refine Sees.setCell ?_ (by first | exact Nat.le_refl _ | exact Nat.le_succ _ | (simp; done) | (simp; omega)) _ | refine Sees.alloc ?_ _)

/-! ### The reference's way -/
theorem tdiv_parts (n k : Int) (hk : 1 ≤ k) : n = k * n.tdiv k + n.tmod k ∧ -k < n.tmod k ∧ n.tmod k < k := by
  refine ⟨(Int.mul_tdiv_add_tmod n k).symm, ?_, ?_⟩
  · have := Int.lt_tmod_of_pos n (show 0 < k by omega); omega
  · exact Int.tmod_lt_of_pos n (by omega)
theorem two_mul_le {k q : Int} (hk : 2 ≤ k) : (0 ≤ q → 2 * q ≤ k * q) ∧ (q ≤ 0 → k * q ≤ 2 * q) :=
  ⟨fun h => Int.mul_le_mul_of_nonneg_right hk h, fun h => Int.mul_le_mul_of_nonpos_right hk h⟩
theorem one_mul_le {k q : Int} (hk : 1 ≤ k) : (0 ≤ q → q ≤ k * q) ∧ (q ≤ 0 → k * q ≤ q) :=
  ⟨fun h => by have := Int.mul_le_mul_of_nonneg_right hk h; omega, fun h => by have := Int.mul_le_mul_of_nonpos_right hk h; omega⟩
/-- Whole lines and the rest give the place. -/
theorem stR_of {l c n cols q r : Int} (hin : inB l c cols = true) (h : l * cols + c + n = (l + q) * cols + r) (hr : 0 ≤ r ∧ r < cols) :
    stR l c n cols = if 0 ≤ l + q ∧ l + q ≤ 1099511627776 then ((l + q, r), 0) else ((0, 0), 3) := by
  unfold stR
  rw [if_pos hin, h]
  obtain ⟨⟨b1, b1'⟩, b2, b3, b4⟩ := in_ok hin
  generalize l + q = z
  have e1 : (z * cols + r) / cols = z := by
    rw [Int.add_comm, Int.add_mul_ediv_right _ _ (by omega), Int.ediv_eq_zero_of_lt hr.1 hr.2, Int.zero_add]
  have e2 : (z * cols + r) % cols = r := by
    rw [Int.add_comm, Int.add_mul_emod_self_right, Int.emod_eq_of_lt hr.1 hr.2]
  rw [e1, e2]
  by_cases hz : 0 ≤ z ∧ z ≤ 1099511627776
  · rw [if_pos hz, if_pos]
    have h1 : 0 ≤ z * cols := Int.mul_nonneg hz.1 (by omega)
    have h2 : z * cols ≤ 1099511627776 * cols := Int.mul_le_mul_of_nonneg_right hz.2 (by omega)
    omega
  · rw [if_neg hz, if_neg]
    rintro ⟨g1, g2⟩
    apply hz
    constructor
    · refine Int.not_lt.1 fun h' => ?_
      have : z * cols ≤ (-1) * cols := Int.mul_le_mul_of_nonneg_right (by omega) (by omega)
      omega
    · refine Int.not_lt.1 fun h' => ?_
      have : 1099511627777 * cols ≤ z * cols := Int.mul_le_mul_of_nonneg_right (by omega) (by omega)
      omega
end Go.Proofs.YtoljdfaghomjkaaDoor
