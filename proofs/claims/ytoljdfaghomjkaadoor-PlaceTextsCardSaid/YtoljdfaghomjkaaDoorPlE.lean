/- Places some cells behind others: the reference's way. No condition. -/
import Derived.Test.YtoljdfaghomjkaaDoorPlD
namespace Go.Proofs.YtoljdfaghomjkaaDoor
set_option linter.unusedVariables false
set_option linter.unusedSimpArgs false
open Go.RowKit

set_option maxHeartbeats 4000000 in
theorem rstep_any (l c n cols : Int) (hn : I64 n) (w : World) :
    Calls Tryd.prog 17 #[pl l c, .int .i64 n, .int .i64 cols] w fun e w' => e = .returned (.tuple #[pl (stR l c n cols).1.1 (stR l c n cols).1.2, .int .i64 (stR l c n cols).2]) ∧ Sees w w' := by
  have hw := Sees.refl w
  go_enter Tryd.func17, Tryd.ntmps17
  go_wp2_with fail
  refine (rin_any l c cols _).mono ?_
  rintro e w1 ⟨rfl, s1⟩
  have hS := ((hw.alloc _).alloc _).trans s1
  have R := ((PlAt.new w l c).sees ((Sees.refl _).alloc _)).sees s1
  have T := (PlAt.new (w.alloc (.cells #[.int .i64 l, .int .i64 c] 23)) 0 0).sees s1
  rw [show (w.alloc (.cells #[.int .i64 l, .int .i64 c] 23)).heap.size = w.heap.size + 1 by simp] at T
  clear s1
  by_cases hin : inB l c cols = true
  · obtain ⟨b1, b2, b3, b4⟩ := in_ok hin
    obtain ⟨b5, b6⟩ := b1
    rw [hin]
    obtain ⟨p1, p2, p3⟩ := tdiv_parts n cols b5
    have hq : IntKind.i64.wrap (n.tdiv cols) = n.tdiv cols := IntWalk.i64_quo' n cols ⟨hn.1, hn.2, b5⟩
    have hc0 : cols ≠ 0 := by omega
    have hc1 : (cols == 0) = false := by simp [hc0]
    have hqb : (n.tmod cols ≠ 0 → -5000000000000000000 ≤ n.tdiv cols ∧ n.tdiv cols ≤ 5000000000000000000) ∧ -9223372036854775808 ≤ n.tdiv cols ∧ n.tdiv cols ≤ 9223372036854775807 := by
      have := hn.1
      have := hn.2
      obtain ⟨z3, z4⟩ := one_mul_le (q := n.tdiv cols) b5
      by_cases hne : n.tmod cols = 0
      · refine ⟨fun h => absurd hne h, ?_⟩
        generalize cols * n.tdiv cols = Y at *
        omega
      · have h2 : 2 ≤ cols := by omega
        obtain ⟨z1, z2⟩ := two_mul_le (q := n.tdiv cols) h2
        generalize cols * n.tdiv cols = Y at *
        omega
    have hp : l * cols + c + n = l * cols + n.tdiv cols * cols + (c + n.tmod cols) := by rw [Int.mul_comm (n.tdiv cols) cols]; omega
    obtain ⟨hqa, hqc, hqd⟩ := hqb
    have hm0 : IntKind.i64.wrap (n.tmod cols) = n.tmod cols := IntWalk.i64_in _ (by omega)
    have hm1 : IntKind.i64.wrap (c + n.tmod cols) = c + n.tmod cols := IntWalk.i64_in _ (by omega)
    generalize hQ : n.tdiv cols = q at *
    generalize hRR : n.tmod cols = r at *
    clear p1
    have HC : Hid (∀ W, Sees w1 W → W.cell? ⟨w.heap.size, 0, none⟩ = some (.int .i64 l) ∧ W.cell? ⟨w.heap.size, 1, none⟩ = some (.int .i64 c)) := Lib.hid fun W h => (R.sees h).cs
    have HR := Lib.hid R
    have HT := Lib.hid T
    clear R T
    go_wp2_with fail
    refine wpFrom_go (by kernel_rfl) (by kernel_rfl) (fun hB w2 hw2 => ?_)
    have hst : segStay (Sees w2) [.is (.pointer (some ⟨w.heap.size, 1, none⟩)), .is (.int .i64 c), .is (.int .i64 n), .is (.int .i64 cols), .is (.int .i64 r), .is (.int .i64 (c + r)), .is (.pointer (some ⟨w.heap.size, 1, none⟩))] := trivial
    have hval : ∀ x v, (Spec.is x).val v = x := fun _ _ => rfl
    refine wpFrom_any 7 _ hB (by kernel_rfl) rfl hst (by simp only [List.cons_append, List.nil_append, List.drop_succ_cons, List.drop_zero, List.take_succ_cons, List.take_zero, Nat.reduceSub]; rfl) ?_
    refine ⟨fun vs W hI hV => .inl ⟨by go_simp, .inl (by go_simp)⟩, ?_⟩
    refine ⟨fun vs W hI hV => .inl ⟨by go_simp, .inl (by have q := HC.out _ (hw2.trans hI); obtain ⟨q0, q1⟩ := q; clear hI hV; go_simp)⟩, ?_⟩
    refine ⟨fun vs W hI hV => .inl ⟨by go_simp, .inl (by go_simp)⟩, ?_⟩
    refine ⟨fun vs W hI hV => .inl ⟨by go_simp, .inl (by go_simp)⟩, ?_⟩
    refine ⟨fun vs W hI hV => .inl ⟨by go_simp, .inl (by go_simp)⟩, ?_⟩
    refine ⟨fun vs W hI hV => .inl ⟨by go_simp, .inl (by go_simp)⟩, ?_⟩
    refine ⟨fun vs W hI hV => .inl ⟨by go_simp, .inl (by go_simp)⟩, ?_⟩
    intro vs w3 hI hV
    have hI2 := hw2.trans hI
    have R := HR.out.sees hI2
    have T := HT.out.sees hI2
    have hS3 := hS.trans hI2
    clear hI hV hst hI2 HC HR HT hS hw2
    obtain ⟨d0, d1⟩ := R.cs
    obtain ⟨e0, e1⟩ := R.fr
    obtain ⟨d2, d3⟩ := T.cs
    obtain ⟨f0, f1⟩ := T.fr
    have hlt := R.lt
    have hlt2 := T.lt
    have hS := hS3
    clear R T hS3
    go_simp
    refine wpFrom_to 8 hB (fun _ _ _ _ _ h => h) (by kernel_rfl) (by simp only [List.cons_append, List.nil_append, List.drop_succ_cons, List.drop_zero, List.take_succ_cons, List.take_zero, Nat.reduceSub]; rfl) ?_
    go_wp2
    refine wpFrom_end rfl ?_
    by_cases g3 : c + r < 0
    · have t3 : decide (c + r < 0) = true := decide_eq_true g3
      have t4 : decide (c + r + cols ≥ cols) = false := decide_eq_false (by omega)
      have t4' : decide (cols ≤ c + r + cols) = false := decide_eq_false (by omega)
      obtain ⟨hqe, hqf⟩ := hqa (by omega)
      have hR0 := stR_of (l := l) (c := c) (n := n) (cols := cols) (q := q - 1) (r := c + r + cols) hin (by rw [Int.add_mul, Int.sub_mul]; omega) (by omega)
      by_cases g5 : q - 1 < -1099511627777
      · have t5 : decide (q - 1 < -1099511627777) = true := decide_eq_true g5
        have hR : stR l c n cols = ((0, 0), 3) := by rw [hR0, if_neg (by omega)]
        go_wp2
        refine bodyPost_ret_by (v := .tuple #[pl 0 0, .int .i64 3]) (by simp [results, Tryd.results17, go_sem, d0, d1, d2, d3]) rfl ⟨by first | rfl | rw [hR], ?_⟩
        repeat (first | exact hS | refine Sees.setCell ?_ (by first | exact Nat.le_refl _ | exact Nat.le_succ _ | (simp; done) | (simp; omega)) _ | refine Sees.alloc ?_ _)
      have t5 : decide (q - 1 < -1099511627777) = false := decide_eq_false g5
      by_cases g6 : q - 1 > 1099511627777
      · have t6 : decide (q - 1 > 1099511627777) = true := decide_eq_true g6
        have hR : stR l c n cols = ((0, 0), 3) := by rw [hR0, if_neg (by omega)]
        go_wp2
        refine bodyPost_ret_by (v := .tuple #[pl 0 0, .int .i64 3]) (by simp [results, Tryd.results17, go_sem, d0, d1, d2, d3]) rfl ⟨by first | rfl | rw [hR], ?_⟩
        repeat (first | exact hS | refine Sees.setCell ?_ (by first | exact Nat.le_refl _ | exact Nat.le_succ _ | (simp; done) | (simp; omega)) _ | refine Sees.alloc ?_ _)
      have t6 : decide (q - 1 > 1099511627777) = false := decide_eq_false g6
      go_wp2_with fail
      refine calls_world (fun w2 hw2 => ?_)
      have hS2 : Sees w w2 := by rw [hw2]; repeat (first | exact hS | refine Sees.setCell ?_ (by first | exact Nat.le_refl _ | exact Nat.le_succ _ | (simp; done) | (simp; omega)) _ | refine Sees.alloc ?_ _)
      have k0 : w2.cell? ⟨w.heap.size, 0, none⟩ = some (.int .i64 (l + (q - 1))) := by rw [hw2]; simp [go_sem, d0, d1, hlt]
      have k1 : w2.cell? ⟨w.heap.size, 1, none⟩ = some (.int .i64 (c + r + cols)) := by rw [hw2]; simp [go_sem, d0, d1, hlt]
      have k2 : w2.cell? ⟨w.heap.size + 1, 0, none⟩ = some (.int .i64 0) := by rw [hw2]; simp [go_sem, d2, d3]
      have k3 : w2.cell? ⟨w.heap.size + 1, 1, none⟩ = some (.int .i64 0) := by rw [hw2]; simp [go_sem, d2, d3]
      have y2 : w2.frozen? ⟨w.heap.size + 1, 0, none⟩ = false := by rw [hw2]; simp [go_sem, f0, f1]
      have y3 : w2.frozen? ⟨w.heap.size + 1, 1, none⟩ = false := by rw [hw2]; simp [go_sem, f0, f1]
      have hl2 : w.heap.size + 1 < w2.heap.size := block_lt_of_cell k2
      clear hw2 d0 d1 d2 d3 e0 e1 f0 f1 hlt hlt2 hS
      refine (rvalid_any (l + (q - 1)) (c + r + cols) _).mono ?_
      rintro e w3 ⟨rfl, s3⟩
      have d0 := s3.cell k0
      have d1 := s3.cell k1
      have d2 := s3.cell k2
      have d3 := s3.cell k3
      have f0 : w3.frozen? ⟨w.heap.size + 1, 0, none⟩ = false := by rw [s3.frozens _ _ hl2]; exact y2
      have f1 : w3.frozen? ⟨w.heap.size + 1, 1, none⟩ = false := by rw [s3.frozens _ _ hl2]; exact y3
      have hlt2 := Nat.lt_of_lt_of_le hl2 s3.size
      have hlt : w.heap.size < w3.heap.size := by omega
      have hS := hS2.trans s3
      clear s3 k0 k1 k2 k3 y2 y3 hl2 hS2
      by_cases g7 : 0 ≤ l + (q - 1) ∧ l + (q - 1) ≤ 1099511627776
      · have hv : vP (l + (q - 1)) (c + r + cols) = true := by unfold vP; simp; omega
        have hR : stR l c n cols = ((l + (q - 1), c + r + cols), 0) := by rw [hR0, if_pos g7]
        rw [hv]
        go_wp2
        refine bodyPost_ret_by (v := .tuple #[pl (l + (q - 1)) (c + r + cols), .int .i64 0]) (by simp [results, Tryd.results17, go_sem, d0, d1, d2, d3]) rfl ⟨by first | rfl | rw [hR], ?_⟩
        repeat (first | exact hS | refine Sees.setCell ?_ (by first | exact Nat.le_refl _ | exact Nat.le_succ _ | (simp; done) | (simp; omega)) _ | refine Sees.alloc ?_ _)
      · have hv : vP (l + (q - 1)) (c + r + cols) = false := by unfold vP; simp; omega
        have hR : stR l c n cols = ((0, 0), 3) := by rw [hR0, if_neg g7]
        rw [hv]
        go_wp2
        refine bodyPost_ret_by (v := .tuple #[pl 0 0, .int .i64 3]) (by simp [results, Tryd.results17, go_sem, d0, d1, d2, d3]) rfl ⟨by first | rfl | rw [hR], ?_⟩
        repeat (first | exact hS | refine Sees.setCell ?_ (by first | exact Nat.le_refl _ | exact Nat.le_succ _ | (simp; done) | (simp; omega)) _ | refine Sees.alloc ?_ _)
    have t3 : decide (c + r < 0) = false := decide_eq_false g3
    by_cases g4 : cols ≤ c + r
    · have t4 : decide (c + r ≥ cols) = true := decide_eq_true g4
      have t4' : decide (cols ≤ c + r) = true := decide_eq_true g4
      obtain ⟨hqe, hqf⟩ := hqa (by omega)
      have hR0 := stR_of (l := l) (c := c) (n := n) (cols := cols) (q := q + 1) (r := c + r - cols) hin (by rw [Int.add_mul, Int.add_mul]; omega) (by omega)
      by_cases g5 : q + 1 < -1099511627777
      · have t5 : decide (q + 1 < -1099511627777) = true := decide_eq_true g5
        have hR : stR l c n cols = ((0, 0), 3) := by rw [hR0, if_neg (by omega)]
        go_wp2
        refine bodyPost_ret_by (v := .tuple #[pl 0 0, .int .i64 3]) (by simp [results, Tryd.results17, go_sem, d0, d1, d2, d3]) rfl ⟨by first | rfl | rw [hR], ?_⟩
        repeat (first | exact hS | refine Sees.setCell ?_ (by first | exact Nat.le_refl _ | exact Nat.le_succ _ | (simp; done) | (simp; omega)) _ | refine Sees.alloc ?_ _)
      have t5 : decide (q + 1 < -1099511627777) = false := decide_eq_false g5
      by_cases g6 : q + 1 > 1099511627777
      · have t6 : decide (q + 1 > 1099511627777) = true := decide_eq_true g6
        have hR : stR l c n cols = ((0, 0), 3) := by rw [hR0, if_neg (by omega)]
        go_wp2
        refine bodyPost_ret_by (v := .tuple #[pl 0 0, .int .i64 3]) (by simp [results, Tryd.results17, go_sem, d0, d1, d2, d3]) rfl ⟨by first | rfl | rw [hR], ?_⟩
        repeat (first | exact hS | refine Sees.setCell ?_ (by first | exact Nat.le_refl _ | exact Nat.le_succ _ | (simp; done) | (simp; omega)) _ | refine Sees.alloc ?_ _)
      have t6 : decide (q + 1 > 1099511627777) = false := decide_eq_false g6
      go_wp2_with fail
      refine calls_world (fun w2 hw2 => ?_)
      have hS2 : Sees w w2 := by rw [hw2]; repeat (first | exact hS | refine Sees.setCell ?_ (by first | exact Nat.le_refl _ | exact Nat.le_succ _ | (simp; done) | (simp; omega)) _ | refine Sees.alloc ?_ _)
      have k0 : w2.cell? ⟨w.heap.size, 0, none⟩ = some (.int .i64 (l + (q + 1))) := by rw [hw2]; simp [go_sem, d0, d1, hlt]
      have k1 : w2.cell? ⟨w.heap.size, 1, none⟩ = some (.int .i64 (c + r - cols)) := by rw [hw2]; simp [go_sem, d0, d1, hlt]
      have k2 : w2.cell? ⟨w.heap.size + 1, 0, none⟩ = some (.int .i64 0) := by rw [hw2]; simp [go_sem, d2, d3]
      have k3 : w2.cell? ⟨w.heap.size + 1, 1, none⟩ = some (.int .i64 0) := by rw [hw2]; simp [go_sem, d2, d3]
      have y2 : w2.frozen? ⟨w.heap.size + 1, 0, none⟩ = false := by rw [hw2]; simp [go_sem, f0, f1]
      have y3 : w2.frozen? ⟨w.heap.size + 1, 1, none⟩ = false := by rw [hw2]; simp [go_sem, f0, f1]
      have hl2 : w.heap.size + 1 < w2.heap.size := block_lt_of_cell k2
      clear hw2 d0 d1 d2 d3 e0 e1 f0 f1 hlt hlt2 hS
      refine (rvalid_any (l + (q + 1)) (c + r - cols) _).mono ?_
      rintro e w3 ⟨rfl, s3⟩
      have d0 := s3.cell k0
      have d1 := s3.cell k1
      have d2 := s3.cell k2
      have d3 := s3.cell k3
      have f0 : w3.frozen? ⟨w.heap.size + 1, 0, none⟩ = false := by rw [s3.frozens _ _ hl2]; exact y2
      have f1 : w3.frozen? ⟨w.heap.size + 1, 1, none⟩ = false := by rw [s3.frozens _ _ hl2]; exact y3
      have hlt2 := Nat.lt_of_lt_of_le hl2 s3.size
      have hlt : w.heap.size < w3.heap.size := by omega
      have hS := hS2.trans s3
      clear s3 k0 k1 k2 k3 y2 y3 hl2 hS2
      by_cases g7 : 0 ≤ l + (q + 1) ∧ l + (q + 1) ≤ 1099511627776
      · have hv : vP (l + (q + 1)) (c + r - cols) = true := by unfold vP; simp; omega
        have hR : stR l c n cols = ((l + (q + 1), c + r - cols), 0) := by rw [hR0, if_pos g7]
        rw [hv]
        go_wp2
        refine bodyPost_ret_by (v := .tuple #[pl (l + (q + 1)) (c + r - cols), .int .i64 0]) (by simp [results, Tryd.results17, go_sem, d0, d1, d2, d3]) rfl ⟨by first | rfl | rw [hR], ?_⟩
        repeat (first | exact hS | refine Sees.setCell ?_ (by first | exact Nat.le_refl _ | exact Nat.le_succ _ | (simp; done) | (simp; omega)) _ | refine Sees.alloc ?_ _)
      · have hv : vP (l + (q + 1)) (c + r - cols) = false := by unfold vP; simp; omega
        have hR : stR l c n cols = ((0, 0), 3) := by rw [hR0, if_neg g7]
        rw [hv]
        go_wp2
        refine bodyPost_ret_by (v := .tuple #[pl 0 0, .int .i64 3]) (by simp [results, Tryd.results17, go_sem, d0, d1, d2, d3]) rfl ⟨by first | rfl | rw [hR], ?_⟩
        repeat (first | exact hS | refine Sees.setCell ?_ (by first | exact Nat.le_refl _ | exact Nat.le_succ _ | (simp; done) | (simp; omega)) _ | refine Sees.alloc ?_ _)
    have t4 : decide (c + r ≥ cols) = false := decide_eq_false g4
    have t4' : decide (cols ≤ c + r) = false := decide_eq_false g4
    have hR0 := stR_of (l := l) (c := c) (n := n) (cols := cols) (q := q) (r := c + r) hin (by rw [Int.add_mul]; omega) (by omega)
    by_cases g5 : q < -1099511627777
    · have t5 : decide (q < -1099511627777) = true := decide_eq_true g5
      have hR : stR l c n cols = ((0, 0), 3) := by rw [hR0, if_neg (by omega)]
      go_wp2
      refine bodyPost_ret_by (v := .tuple #[pl 0 0, .int .i64 3]) (by simp [results, Tryd.results17, go_sem, d0, d1, d2, d3]) rfl ⟨by first | rfl | rw [hR], ?_⟩
      repeat (first | exact hS | refine Sees.setCell ?_ (by first | exact Nat.le_refl _ | exact Nat.le_succ _ | (simp; done) | (simp; omega)) _ | refine Sees.alloc ?_ _)
    have t5 : decide (q < -1099511627777) = false := decide_eq_false g5
    by_cases g6 : q > 1099511627777
    · have t6 : decide (q > 1099511627777) = true := decide_eq_true g6
      have hR : stR l c n cols = ((0, 0), 3) := by rw [hR0, if_neg (by omega)]
      go_wp2
      refine bodyPost_ret_by (v := .tuple #[pl 0 0, .int .i64 3]) (by simp [results, Tryd.results17, go_sem, d0, d1, d2, d3]) rfl ⟨by first | rfl | rw [hR], ?_⟩
      repeat (first | exact hS | refine Sees.setCell ?_ (by first | exact Nat.le_refl _ | exact Nat.le_succ _ | (simp; done) | (simp; omega)) _ | refine Sees.alloc ?_ _)
    have t6 : decide (q > 1099511627777) = false := decide_eq_false g6
    go_wp2_with fail
    refine calls_world (fun w2 hw2 => ?_)
    have hS2 : Sees w w2 := by rw [hw2]; repeat (first | exact hS | refine Sees.setCell ?_ (by first | exact Nat.le_refl _ | exact Nat.le_succ _ | (simp; done) | (simp; omega)) _ | refine Sees.alloc ?_ _)
    have k0 : w2.cell? ⟨w.heap.size, 0, none⟩ = some (.int .i64 (l + (q))) := by rw [hw2]; simp [go_sem, d0, d1, hlt]
    have k1 : w2.cell? ⟨w.heap.size, 1, none⟩ = some (.int .i64 (c + r)) := by rw [hw2]; simp [go_sem, d0, d1, hlt]
    have k2 : w2.cell? ⟨w.heap.size + 1, 0, none⟩ = some (.int .i64 0) := by rw [hw2]; simp [go_sem, d2, d3]
    have k3 : w2.cell? ⟨w.heap.size + 1, 1, none⟩ = some (.int .i64 0) := by rw [hw2]; simp [go_sem, d2, d3]
    have y2 : w2.frozen? ⟨w.heap.size + 1, 0, none⟩ = false := by rw [hw2]; simp [go_sem, f0, f1]
    have y3 : w2.frozen? ⟨w.heap.size + 1, 1, none⟩ = false := by rw [hw2]; simp [go_sem, f0, f1]
    have hl2 : w.heap.size + 1 < w2.heap.size := block_lt_of_cell k2
    clear hw2 d0 d1 d2 d3 e0 e1 f0 f1 hlt hlt2 hS
    refine (rvalid_any (l + (q)) (c + r) _).mono ?_
    rintro e w3 ⟨rfl, s3⟩
    have d0 := s3.cell k0
    have d1 := s3.cell k1
    have d2 := s3.cell k2
    have d3 := s3.cell k3
    have f0 : w3.frozen? ⟨w.heap.size + 1, 0, none⟩ = false := by rw [s3.frozens _ _ hl2]; exact y2
    have f1 : w3.frozen? ⟨w.heap.size + 1, 1, none⟩ = false := by rw [s3.frozens _ _ hl2]; exact y3
    have hlt2 := Nat.lt_of_lt_of_le hl2 s3.size
    have hlt : w.heap.size < w3.heap.size := by omega
    have hS := hS2.trans s3
    clear s3 k0 k1 k2 k3 y2 y3 hl2 hS2
    by_cases g7 : 0 ≤ l + (q) ∧ l + (q) ≤ 1099511627776
    · have hv : vP (l + (q)) (c + r) = true := by unfold vP; simp; omega
      have hR : stR l c n cols = ((l + (q), c + r), 0) := by rw [hR0, if_pos g7]
      rw [hv]
      go_wp2
      refine bodyPost_ret_by (v := .tuple #[pl (l + (q)) (c + r), .int .i64 0]) (by simp [results, Tryd.results17, go_sem, d0, d1, d2, d3]) rfl ⟨by first | rfl | rw [hR], ?_⟩
      repeat (first | exact hS | refine Sees.setCell ?_ (by first | exact Nat.le_refl _ | exact Nat.le_succ _ | (simp; done) | (simp; omega)) _ | refine Sees.alloc ?_ _)
    · have hv : vP (l + (q)) (c + r) = false := by unfold vP; simp; omega
      have hR : stR l c n cols = ((0, 0), 3) := by rw [hR0, if_neg g7]
      rw [hv]
      go_wp2
      refine bodyPost_ret_by (v := .tuple #[pl 0 0, .int .i64 3]) (by simp [results, Tryd.results17, go_sem, d0, d1, d2, d3]) rfl ⟨by first | rfl | rw [hR], ?_⟩
      repeat (first | exact hS | refine Sees.setCell ?_ (by first | exact Nat.le_refl _ | exact Nat.le_succ _ | (simp; done) | (simp; omega)) _ | refine Sees.alloc ?_ _)
  · have hR : stR l c n cols = ((0, 0), 2) := by unfold stR; rw [if_neg hin]
    have hin' : inB l c cols = false := by simpa using hin
    rw [hin']
    obtain ⟨d2, d3⟩ := T.cs
    obtain ⟨f0, f1⟩ := T.fr
    have hlt2 := T.lt
    clear R T
    go_wp2
    refine bodyPost_ret_by (v := .tuple #[pl 0 0, .int .i64 2]) (by simp [results, Tryd.results17, go_sem, d2, d3]) rfl ⟨by first | rfl | rw [hR], ?_⟩
    repeat (first | exact hS | refine Sees.setCell ?_ (by first | exact Nat.le_refl _ | exact Nat.le_succ _ | (simp; done) | (simp; omega)) _ | refine Sees.alloc ?_ _)
end Go.Proofs.YtoljdfaghomjkaaDoor
