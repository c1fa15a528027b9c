/- saved.Restore (23). No condition. -/
import Derived.Test.YtfgifjdholdohaaDoorSaO
import Derived.Deep.Cut
namespace Go.Proofs.YtfgifjdholdohaaDoor
set_option linter.unusedVariables false
set_option linter.unusedSimpArgs false
open Go.RowKit

set_option maxHeartbeats 8000000 in
set_option maxRecDepth 100000 in
theorem restore_bad (s : Sv) (a : Ar) (hv : s.ok = false) (w : World) : Calls Tryd.prog 22 #[s.val, a.v] w fun e w' => e = .returned (.tuple #[zSv.val, .int .i64 2]) ∧ Sees w w' := by
  have KV : Hid (∀ W, Calls Tryd.prog 8 #[s.val] W fun e w' => e = .returned (.bool false) ∧ Sees W w') := fun W => by have := sValid_any s W; rw [show s.ok = false from hv] at this; exact this
  go_enter Tryd.func22, Tryd.ntmps22
  go_upto_region 1 with (first
    | (refine wpList_val rfl (exec_box (cs := s.cells) rfl rfl) (fun K hK => ?_); go_simp; refine hK _ _ ?_; clear hK K)
    | (refine wpList_val rfl (exec_box (cs := a.cells) rfl rfl) (fun K hK => ?_); go_simp; refine hK _ _ ?_; clear hK K))
  refine wp_world fun W0 hW0 => ?_
  obtain ⟨A1, B1, Z1, S1⟩ := sar3 w s a W0 hW0
  clear hW0
  go_wp2_with (refine wpList_val rfl (exec_load (v := s.val) rfl rfl (run_loadSv A1)) (fun K hK => ?_); go_simp; refine hK _ _ ?_; clear hK K)
  refine (KV.out _).mono ?_
  rintro e W1 ⟨rfl, t1⟩
  have A2 := A1.sees t1
  have B2 := B1.sees t1
  have Z2 := Z1.sees t1
  have S2 := S1.trans t1
  clear A1 B1 Z1 S1 t1
  go_wp2_with (first | (refine wpList_val rfl (exec_build_zero rfl) (fun K hK => ?_); go_simp; refine hK _ _ ?_; clear hK K) | (refine wpList_skip rfl (exec_store (v := zSv.val) rfl rfl rfl (run_storeSv Z2 zSv)) (fun K hK => ?_); go_simp; refine hK _ _ ?_; clear hK K))
  refine bodyPost_ret_by (results_sv (s := zSv) (v := .int .i64 2) rfl rfl rfl (SvAt.stored Z2 zSv)) rfl ⟨rfl, ?_⟩
  exact Sees.setRow S2 (by omega) _
set_option maxHeartbeats 8000000 in
set_option maxRecDepth 100000 in
theorem restore_wrong (s : Sv) (a : Ar) (hv : s.ok = true) (hw : a.right = false) (w : World) : Calls Tryd.prog 22 #[s.val, a.v] w fun e w' => e = .returned (.tuple #[zSv.val, .int .i64 2]) ∧ Sees w w' := by
  have KV : Hid (∀ W, Calls Tryd.prog 8 #[s.val] W fun e w' => e = .returned (.bool true) ∧ Sees W w') := fun W => by have := sValid_any s W; rw [show s.ok = true from hv] at this; exact this
  have KR : Hid (∀ W, Calls Tryd.prog 37 #[a.v] W fun e w' => e = .returned (.bool false) ∧ Sees W w') := fun W => by have := right_any a W; rw [show a.right = false from hw] at this; exact this
  go_enter Tryd.func22, Tryd.ntmps22
  go_upto_region 1 with (first
    | (refine wpList_val rfl (exec_box (cs := s.cells) rfl rfl) (fun K hK => ?_); go_simp; refine hK _ _ ?_; clear hK K)
    | (refine wpList_val rfl (exec_box (cs := a.cells) rfl rfl) (fun K hK => ?_); go_simp; refine hK _ _ ?_; clear hK K))
  refine wp_world fun W0 hW0 => ?_
  obtain ⟨A1, B1, Z1, S1⟩ := sar3 w s a W0 hW0
  clear hW0
  go_wp2_with (refine wpList_val rfl (exec_load (v := s.val) rfl rfl (run_loadSv A1)) (fun K hK => ?_); go_simp; refine hK _ _ ?_; clear hK K)
  refine (KV.out _).mono ?_
  rintro e W1 ⟨rfl, t1⟩
  have A2 := A1.sees t1
  have B2 := B1.sees t1
  have Z2 := Z1.sees t1
  have S2 := S1.trans t1
  clear A1 B1 Z1 S1 t1
  obtain ⟨d0, d1, d2, d3, d4⟩ := B2.cs
  go_wp2_with fail
  refine (KR.out _).mono ?_
  rintro e W2 ⟨rfl, t2⟩
  have A3 := A2.sees t2
  have B3 := B2.sees t2
  have Z3 := Z2.sees t2
  have S3 := S2.trans t2
  clear A2 B2 Z2 S2 t2 d0 d1 d2 d3 d4
  go_wp2_with (first | (refine wpList_val rfl (exec_build_zero rfl) (fun K hK => ?_); go_simp; refine hK _ _ ?_; clear hK K) | (refine wpList_skip rfl (exec_store (v := zSv.val) rfl rfl rfl (run_storeSv Z3 zSv)) (fun K hK => ?_); go_simp; refine hK _ _ ?_; clear hK K))
  refine bodyPost_ret_by (results_sv (s := zSv) (v := .int .i64 2) rfl rfl rfl (SvAt.stored Z3 zSv)) rfl ⟨rfl, ?_⟩
  exact Sees.setRow S3 (by omega) _
set_option maxHeartbeats 8000000 in
set_option maxRecDepth 100000 in
theorem restore_ttt (s : Sv) (a : Ar) (hv : s.ok = true) (hw : a.right = true) (ho : s.org = true) (hp : s.pend = true) (h4 : (min s.col (a.cols - 1) == a.cols - 1) = true) (w : World) : Calls Tryd.prog 22 #[s.val, a.v] w fun e w' => e = .returned (.tuple #[({ s with row := max a.top (min s.row a.bot), col := min s.col (a.cols - 1), pend := true } : Sv).val, .int .i64 0]) ∧ Sees w w' := by
  have KV : Hid (∀ W, Calls Tryd.prog 8 #[s.val] W fun e w' => e = .returned (.bool true) ∧ Sees W w') := fun W => by have := sValid_any s W; rw [show s.ok = true from hv] at this; exact this
  have KR : Hid (∀ W, Calls Tryd.prog 37 #[a.v] W fun e w' => e = .returned (.bool true) ∧ Sees W w') := fun W => by have := right_any a W; rw [show a.right = true from hw] at this; exact this
  obtain ⟨r0, r1, r2, r3, r4, r5, r6⟩ := of_decide_eq_true hw
  go_enter Tryd.func22, Tryd.ntmps22
  go_upto_region 1 with (first
    | (refine wpList_val rfl (exec_box (cs := s.cells) rfl rfl) (fun K hK => ?_); go_simp; refine hK _ _ ?_; clear hK K)
    | (refine wpList_val rfl (exec_box (cs := a.cells) rfl rfl) (fun K hK => ?_); go_simp; refine hK _ _ ?_; clear hK K))
  refine wp_world fun W0 hW0 => ?_
  obtain ⟨A1, B1, Z1, S1⟩ := sar3 w s a W0 hW0
  clear hW0
  go_wp2_with (refine wpList_val rfl (exec_load (v := s.val) rfl rfl (run_loadSv A1)) (fun K hK => ?_); go_simp; refine hK _ _ ?_; clear hK K)
  refine (KV.out _).mono ?_
  rintro e W1 ⟨rfl, t1⟩
  have A2 := A1.sees t1
  have B2 := B1.sees t1
  have Z2 := Z1.sees t1
  have S2 := S1.trans t1
  clear A1 B1 Z1 S1 t1
  obtain ⟨d0, d1, d2, d3, d4⟩ := B2.cs
  go_wp2_with fail
  refine (KR.out _).mono ?_
  rintro e W2 ⟨rfl, t2⟩
  have A3 := A2.sees t2
  have B3 := B2.sees t2
  have Z3 := Z2.sees t2
  have S3 := S2.trans t2
  clear A2 B2 Z2 S2 t2 d0 d1 d2 d3 d4
  obtain ⟨d0, d1, d2, d3, d4⟩ := B3.cs
  go_upto_region 4 with fail
  refine wp_world fun W4 hW4 => ?_
  have u1 := (Sees.refl W2).alloc (.cells #[.int .i64 0, .int .i64 (a.rows - 1)] 37)
  have R4 : W4.heap[W2.heap.size]? = some (.cells #[.int .i64 0, .int .i64 (a.rows - 1)] 37 (0, 0)) := by rw [hW4]; exact heap_alloc_new W2 _
  rw [← hW4] at u1
  have A4 := A3.sees u1
  have B4 := B3.sees u1
  have Z4 := Z3.sees u1
  have S4 := S3.trans u1
  have lt4 : w.heap.size + 1 + 1 < W2.heap.size := (Array.getElem?_eq_some_iff.1 Z3).1
  clear d0 d1 d2 d3 d4 u1 hW4
  have c14 : W4.cell? ⟨w.heap.size, 14, none⟩ = some (.bool true) := by rw [← ho]; exact A4.cs.2.2.2.2.2.2.2.2.2.2.2.2.2.2.1
  obtain ⟨d0, d1, d2, d3, d4⟩ := B4.cs
  have f4 : ∀ i, W4.frozen? ⟨W2.heap.size, i, none⟩ = false := fun i => frozen_of_row _ _ i _ _ R4
  have e0 := Go.cell_of_row _ _ 0 _ _ _ R4
  have e1 := Go.cell_of_row _ _ 1 _ _ _ R4
  go_upto_region 6 with fail
  have R6 := heap_setCell_same _ _ 1 _ _ (.int .i64 a.bot) (heap_setCell_same _ _ 0 _ _ (.int .i64 a.top) R4)
  have A6 := (A4.off (a := ⟨W2.heap.size, 0, none⟩) (by simp; omega) (.int .i64 a.top)).off (a := ⟨W2.heap.size, 1, none⟩) (by simp; omega) (.int .i64 a.bot)
  have Z6 := (Z4.off (a := ⟨W2.heap.size, 0, none⟩) (by simp; omega) (.int .i64 a.top)).off (a := ⟨W2.heap.size, 1, none⟩) (by simp; omega) (.int .i64 a.bot)
  have B6 := (B4.off (a := ⟨W2.heap.size, 0, none⟩) (by simp; omega) (.int .i64 a.top)).off (a := ⟨W2.heap.size, 1, none⟩) (by simp; omega) (.int .i64 a.bot)
  have S6 := (S4.setCell (p := ⟨W2.heap.size, 0, none⟩) (by simp; omega) (.int .i64 a.top)).setCell (p := ⟨W2.heap.size, 1, none⟩) (by simp; omega) (.int .i64 a.bot)
  refine wp_world fun W6 hW6 => ?_
  rw [← hW6] at R6 A6 Z6 B6 S6
  clear hW6 R4 A4 Z4 B4 S4 e0 e1 c14 d0 d1 d2 d3 d4 f4
  have e0 := Go.cell_of_row _ _ 0 _ _ _ R6
  have e1 := Go.cell_of_row _ _ 1 _ _ _ R6
  have c0 := A6.cs.1
  have f0 := fun i => frozen_of_row _ _ i _ _ A6
  go_upto_region 8 with fail
  refine wp_world fun W7 hW7 => ?_
  subst hW7
  refine wpFrom_go (by kernel_rfl) (by kernel_rfl) (fun hB w7 hw7 => ?_)
  have A7 := Lib.hid (A6.sees hw7)
  have B7 := Lib.hid (B6.sees hw7)
  have R7 := Lib.hid (hw7.block' R6)
  have Z7 := Lib.hid (Z6.sees hw7)
  have S7 := Lib.hid (S6.trans hw7)
  clear A6 B6 R6 Z6 S6 hw7 e0 e1 c0 f0
  have hval : ∀ x v, (Spec.is x).val v = x := fun _ _ => rfl
  have hval2 : ∀ V v, (Spec.so V).val v = v := fun _ _ => rfl
  obtain ⟨z1, hz1⟩ : ∃ z, z = min s.row a.bot := ⟨_, rfl⟩
  obtain ⟨z2, hz2⟩ : ∃ z, z = max a.top z1 := ⟨_, rfl⟩
  have m1 : (if a.bot < s.row then a.bot else s.row) = z1 := by rw [hz1]; split <;> omega
  have m2 : (if a.top < z1 then z1 else a.top) = z2 := by rw [hz2]; split <;> omega
  have Hz1 := Lib.hid hz1
  have Hz2 := Lib.hid hz2
  clear hz1 hz2
  have hst : segStay (Sees w7) [.is (.pointer (some ⟨w.heap.size, 0, none⟩)), .is (.pointer (some ⟨W2.heap.size, 0, none⟩)), .is (.int .i64 a.top), .is (.pointer (some ⟨w.heap.size, 0, none⟩)), .is (.pointer (some ⟨w.heap.size, 0, none⟩)), .is (.pointer (some ⟨w.heap.size, 0, none⟩)), .is (.int .i64 s.row), .is (.pointer (some ⟨W2.heap.size, 1, none⟩)), .is (.int .i64 a.bot), .is (.int .i64 z1), .is (.int .i64 z2), .is (.pointer (some ⟨w.heap.size, 0, none⟩)), .is (.pointer (some ⟨w.heap.size, 0, none⟩))] := trivial
  refine wpFrom_any 13 _ hB (by kernel_rfl) rfl hst (by simp only [List.cons_append, List.nil_append, List.drop_succ_cons, List.drop_zero, List.take_succ_cons, List.take_zero, Nat.reduceSub]; rfl) ?_
  refine ⟨fun vs W hI hV => .inl ⟨by clear hI hV hst; go_simp, .inl (by clear hI hV hst; (try simp only [Act.put, hval, hval2, List.setIfInBounds_toArray, List.set_cons_zero, List.set_cons_succ]); go_simp)⟩, ?_⟩
  refine ⟨fun vs W hI hV => .inl ⟨by clear hI hV hst; go_simp, .inl (by clear hI hV hst; (try simp only [Act.put, hval, hval2, List.setIfInBounds_toArray, List.set_cons_zero, List.set_cons_succ]); go_simp)⟩, ?_⟩
  refine ⟨fun vs W hI hV => .inl ⟨by clear hI hV hst; go_simp, .inl (by have q := Go.cell_of_row _ _ 0 _ _ _ (hI.block' R7.out); clear hI hV hst; (try simp only [Act.put, hval, hval2, List.setIfInBounds_toArray, List.set_cons_zero, List.set_cons_succ]); go_simp)⟩, ?_⟩
  refine ⟨fun vs W hI hV => .inl ⟨by clear hI hV hst; go_simp, .inl (by clear hI hV hst; (try simp only [Act.put, hval, hval2, List.setIfInBounds_toArray, List.set_cons_zero, List.set_cons_succ]); go_simp)⟩, ?_⟩
  refine ⟨fun vs W hI hV => .inl ⟨by clear hI hV hst; go_simp, .inl (by clear hI hV hst; (try simp only [Act.put, hval, hval2, List.setIfInBounds_toArray, List.set_cons_zero, List.set_cons_succ]); go_simp)⟩, ?_⟩
  refine ⟨fun vs W hI hV => .inl ⟨by clear hI hV hst; go_simp, .inl (by clear hI hV hst; (try simp only [Act.put, hval, hval2, List.setIfInBounds_toArray, List.set_cons_zero, List.set_cons_succ]); go_simp)⟩, ?_⟩
  refine ⟨fun vs W hI hV => .inl ⟨by clear hI hV hst; go_simp, .inl (by have q := (A7.out.sees hI).cs.1; clear hI hV hst; (try simp only [Act.put, hval, hval2, List.setIfInBounds_toArray, List.set_cons_zero, List.set_cons_succ]); go_simp)⟩, ?_⟩
  refine ⟨fun vs W hI hV => .inl ⟨by clear hI hV hst; go_simp, .inl (by clear hI hV hst; (try simp only [Act.put, hval, hval2, List.setIfInBounds_toArray, List.set_cons_zero, List.set_cons_succ]); go_simp)⟩, ?_⟩
  refine ⟨fun vs W hI hV => .inl ⟨by clear hI hV hst; go_simp, .inl (by have q := Go.cell_of_row _ _ 1 _ _ _ (hI.block' R7.out); clear hI hV hst; (try simp only [Act.put, hval, hval2, List.setIfInBounds_toArray, List.set_cons_zero, List.set_cons_succ]); go_simp)⟩, ?_⟩
  refine ⟨fun vs W hI hV => .inl ⟨by clear hI hV hst; go_simp, .inl (by clear hI hV hst; (try simp only [Act.put, hval, hval2, List.setIfInBounds_toArray, List.set_cons_zero, List.set_cons_succ]); go_simp)⟩, ?_⟩
  refine ⟨fun vs W hI hV => .inl ⟨by clear hI hV hst; go_simp, .inl (by clear hI hV hst; (try simp only [Act.put, hval, hval2, List.setIfInBounds_toArray, List.set_cons_zero, List.set_cons_succ]); go_simp)⟩, ?_⟩
  refine ⟨fun vs W hI hV => .inl ⟨by clear hI hV hst; go_simp, .inl (by clear hI hV hst; (try simp only [Act.put, hval, hval2, List.setIfInBounds_toArray, List.set_cons_zero, List.set_cons_succ]); go_simp)⟩, ?_⟩
  refine ⟨fun vs W hI hV => .inl ⟨by clear hI hV hst; go_simp, .inl (by clear hI hV hst; (try simp only [Act.put, hval, hval2, List.setIfInBounds_toArray, List.set_cons_zero, List.set_cons_succ]); go_simp)⟩, ?_⟩
  intro vs w8 hI hV
  have A8 := (A7.out.sees hI).row z2
  have B8 := (B7.out.sees hI).off (a := ⟨w.heap.size, 0, none⟩) (by dsimp only; omega) (.int .i64 z2)
  have Z8 := (Z7.out.sees hI).off (a := ⟨w.heap.size, 0, none⟩) (by dsimp only; omega) (.int .i64 z2)
  have S8 := (S7.out.trans hI).setCell (p := ⟨w.heap.size, 0, none⟩) (Nat.le_refl _) (.int .i64 z2)
  have c0 := (A7.out.sees hI).cs.1
  have f0 := frozen_of_row _ _ 0 _ _ (A7.out.sees hI)
  clear hI hV hst A7 B7 R7 Z7 S7 m1 m2
  (try simp only [Act.put, hval, hval2, List.setIfInBounds_toArray, List.set_cons_zero, List.set_cons_succ])
  go_simp
  refine wpFrom_to 14 hB (fun _ _ _ _ _ h => h) (by kernel_rfl) (by simp only [List.cons_append, List.nil_append, List.drop_succ_cons, List.drop_zero, List.take_succ_cons, List.take_zero, Nat.reduceSub]; rfl) ?_
  go_wp2_with fail
  refine wpFrom_end rfl ?_
  clear c0 f0
  go_wp2_with fail
  refine wpFrom_go (by kernel_rfl) (by kernel_rfl) (fun hB w9 hw9 => ?_)
  have A9 := Lib.hid (A8.sees hw9)
  have B9 := Lib.hid (B8.sees hw9)
  have Z9 := Lib.hid (Z8.sees hw9)
  have S9 := Lib.hid (S8.trans hw9)
  clear A8 B8 Z8 S8 hw9
  obtain ⟨z3, hz3⟩ : ∃ z, z = min s.col (a.cols - 1) := ⟨_, rfl⟩
  have m1 : (if a.cols - 1 < s.col then a.cols - 1 else s.col) = z3 := by rw [hz3]; split <;> omega
  have Hz3 := Lib.hid hz3
  have wr : IntKind.i64.wrap (a.cols - 1) = a.cols - 1 := by rw [IntKind.wrap_i64]; omega
  clear hz3
  have hst : segStay (Sees w9) [.is (.pointer (some ⟨w.heap.size, 0, none⟩)), .is (.pointer (some ⟨w.heap.size, 0, none⟩)), .is (.pointer (some ⟨w.heap.size, 0, none⟩)), .is (.pointer (some ⟨w.heap.size, 1, none⟩)), .is (.int .i64 s.col), .is (.pointer (some ⟨w.heap.size + 1, 1, none⟩)), .is (.int .i64 a.cols), .is (.int .i64 (a.cols - 1)), .is (.int .i64 z3), .is (.pointer (some ⟨w.heap.size, 0, none⟩)), .is (.pointer (some ⟨w.heap.size, 1, none⟩))] := trivial
  refine wpFrom_any 11 _ hB (by kernel_rfl) rfl hst (by simp only [List.cons_append, List.nil_append, List.drop_succ_cons, List.drop_zero, List.take_succ_cons, List.take_zero, Nat.reduceSub]; rfl) ?_
  refine ⟨fun vs W hI hV => .inl ⟨by clear hI hV hst; go_simp, .inl (by clear hI hV hst; (try simp only [Act.put, hval, hval2, List.setIfInBounds_toArray, List.set_cons_zero, List.set_cons_succ]); go_simp)⟩, ?_⟩
  refine ⟨fun vs W hI hV => .inl ⟨by clear hI hV hst; go_simp, .inl (by clear hI hV hst; (try simp only [Act.put, hval, hval2, List.setIfInBounds_toArray, List.set_cons_zero, List.set_cons_succ]); go_simp)⟩, ?_⟩
  refine ⟨fun vs W hI hV => .inl ⟨by clear hI hV hst; go_simp, .inl (by clear hI hV hst; (try simp only [Act.put, hval, hval2, List.setIfInBounds_toArray, List.set_cons_zero, List.set_cons_succ]); go_simp)⟩, ?_⟩
  refine ⟨fun vs W hI hV => .inl ⟨by clear hI hV hst; go_simp, .inl (by clear hI hV hst; (try simp only [Act.put, hval, hval2, List.setIfInBounds_toArray, List.set_cons_zero, List.set_cons_succ]); go_simp)⟩, ?_⟩
  refine ⟨fun vs W hI hV => .inl ⟨by clear hI hV hst; go_simp, .inl (by have q := (A9.out.sees hI).cs.2.1; clear hI hV hst; (try simp only [Act.put, hval, hval2, List.setIfInBounds_toArray, List.set_cons_zero, List.set_cons_succ]); go_simp)⟩, ?_⟩
  refine ⟨fun vs W hI hV => .inl ⟨by clear hI hV hst; go_simp, .inl (by clear hI hV hst; (try simp only [Act.put, hval, hval2, List.setIfInBounds_toArray, List.set_cons_zero, List.set_cons_succ]); go_simp)⟩, ?_⟩
  refine ⟨fun vs W hI hV => .inl ⟨by clear hI hV hst; go_simp, .inl (by have q := (B9.out.sees hI).cs.2.1; clear hI hV hst; (try simp only [Act.put, hval, hval2, List.setIfInBounds_toArray, List.set_cons_zero, List.set_cons_succ]); go_simp)⟩, ?_⟩
  refine ⟨fun vs W hI hV => .inl ⟨by clear hI hV hst; go_simp, .inl (by clear hI hV hst; (try simp only [Act.put, hval, hval2, List.setIfInBounds_toArray, List.set_cons_zero, List.set_cons_succ]); go_simp)⟩, ?_⟩
  refine ⟨fun vs W hI hV => .inl ⟨by clear hI hV hst; go_simp, .inl (by clear hI hV hst; (try simp only [Act.put, hval, hval2, List.setIfInBounds_toArray, List.set_cons_zero, List.set_cons_succ]); go_simp)⟩, ?_⟩
  refine ⟨fun vs W hI hV => .inl ⟨by clear hI hV hst; go_simp, .inl (by clear hI hV hst; (try simp only [Act.put, hval, hval2, List.setIfInBounds_toArray, List.set_cons_zero, List.set_cons_succ]); go_simp)⟩, ?_⟩
  refine ⟨fun vs W hI hV => .inl ⟨by clear hI hV hst; go_simp, .inl (by clear hI hV hst; (try simp only [Act.put, hval, hval2, List.setIfInBounds_toArray, List.set_cons_zero, List.set_cons_succ]); go_simp)⟩, ?_⟩
  intro vs w10 hI hV
  have A10 := (A9.out.sees hI).col z3
  have B10 := (B9.out.sees hI).off (a := ⟨w.heap.size, 1, none⟩) (by dsimp only; omega) (.int .i64 z3)
  have Z10 := (Z9.out.sees hI).off (a := ⟨w.heap.size, 1, none⟩) (by dsimp only; omega) (.int .i64 z3)
  have S10 := (S9.out.trans hI).setCell (p := ⟨w.heap.size, 1, none⟩) (Nat.le_refl _) (.int .i64 z3)
  have c1 := (A9.out.sees hI).cs.2.1
  have f1 := frozen_of_row _ _ 1 _ _ (A9.out.sees hI)
  clear hI hV hst A9 B9 Z9 S9 m1
  (try simp only [Act.put, hval, hval2, List.setIfInBounds_toArray, List.set_cons_zero, List.set_cons_succ])
  go_simp
  refine wpFrom_to 12 hB (fun _ _ _ _ _ h => h) (by kernel_rfl) (by simp only [List.cons_append, List.nil_append, List.drop_succ_cons, List.drop_zero, List.take_succ_cons, List.take_zero, Nat.reduceSub]; rfl) ?_
  go_wp2_with fail
  refine wpFrom_end rfl ?_
  clear c1 f1
  go_wp2_with fail
  refine wpFrom_go (by kernel_rfl) (by kernel_rfl) (fun hB w11 hw11 => ?_)
  have A11 := Lib.hid (A10.sees hw11)
  have B11 := Lib.hid (B10.sees hw11)
  have Z11 := Lib.hid (Z10.sees hw11)
  have S11 := Lib.hid (S10.trans hw11)
  clear A10 B10 Z10 S10 hw11
  rw [← Hz3.out] at h4
  have hst : segStay (Sees w11) [.is (.pointer (some ⟨w.heap.size, 0, none⟩)), .is (.pointer (some ⟨w.heap.size, 0, none⟩)), .is (.pointer (some ⟨w.heap.size, 0, none⟩)), .is (.pointer (some ⟨w.heap.size, 2, none⟩)), .is (.bool true), .is (.bool true), .is (.pointer (some ⟨w.heap.size, 0, none⟩)), .is (.pointer (some ⟨w.heap.size, 0, none⟩)), .is (.pointer (some ⟨w.heap.size, 1, none⟩)), .is (.int .i64 z3), .is (.pointer (some ⟨w.heap.size + 1, 1, none⟩)), .is (.int .i64 a.cols), .is (.int .i64 (a.cols - 1)), .is (.bool true), .is (.bool true), .is (.pointer (some ⟨w.heap.size, 0, none⟩)), .is (.pointer (some ⟨w.heap.size, 2, none⟩))] := trivial
  refine wpFrom_any 17 _ hB (by kernel_rfl) rfl hst (by simp only [List.cons_append, List.nil_append, List.drop_succ_cons, List.drop_zero, List.take_succ_cons, List.take_zero, Nat.reduceSub]; rfl) ?_
  refine ⟨fun vs W hI hV => .inl ⟨by clear hI hV hst; go_simp, .inl (by clear hI hV hst; (try simp only [Act.put, hval, hval2, List.setIfInBounds_toArray, List.set_cons_zero, List.set_cons_succ]); go_simp)⟩, ?_⟩
  refine ⟨fun vs W hI hV => .inl ⟨by clear hI hV hst; go_simp, .inl (by clear hI hV hst; (try simp only [Act.put, hval, hval2, List.setIfInBounds_toArray, List.set_cons_zero, List.set_cons_succ]); go_simp)⟩, ?_⟩
  refine ⟨fun vs W hI hV => .inl ⟨by clear hI hV hst; go_simp, .inl (by clear hI hV hst; (try simp only [Act.put, hval, hval2, List.setIfInBounds_toArray, List.set_cons_zero, List.set_cons_succ]); go_simp)⟩, ?_⟩
  refine ⟨fun vs W hI hV => .inl ⟨by clear hI hV hst; go_simp, .inl (by clear hI hV hst; (try simp only [Act.put, hval, hval2, List.setIfInBounds_toArray, List.set_cons_zero, List.set_cons_succ]); go_simp)⟩, ?_⟩
  refine ⟨fun vs W hI hV => .inl ⟨by clear hI hV hst; go_simp, .inl (by have q := (A11.out.sees hI).cs.2.2.1; rw [show ({ s with row := z2, col := z3 } : Sv).pend = true from hp] at q; clear hI hV hst; (try simp only [Act.put, hval, hval2, List.setIfInBounds_toArray, List.set_cons_zero, List.set_cons_succ]); go_simp)⟩, ?_⟩
  refine ⟨fun vs W hI hV => .inl ⟨by clear hI hV hst; go_simp, .inl (by clear hI hV hst; (try simp only [Act.put, hval, hval2, List.setIfInBounds_toArray, List.set_cons_zero, List.set_cons_succ]); go_simp)⟩, ?_⟩
  refine ⟨fun vs W hI hV => .inl ⟨by clear hI hV hst; go_simp, .inl (by clear hI hV hst; (try simp only [Act.put, hval, hval2, List.setIfInBounds_toArray, List.set_cons_zero, List.set_cons_succ]); go_simp)⟩, ?_⟩
  refine ⟨fun vs W hI hV => .inl ⟨by clear hI hV hst; go_simp, .inl (by clear hI hV hst; (try simp only [Act.put, hval, hval2, List.setIfInBounds_toArray, List.set_cons_zero, List.set_cons_succ]); go_simp)⟩, ?_⟩
  refine ⟨fun vs W hI hV => .inl ⟨by clear hI hV hst; go_simp, .inl (by clear hI hV hst; (try simp only [Act.put, hval, hval2, List.setIfInBounds_toArray, List.set_cons_zero, List.set_cons_succ]); go_simp)⟩, ?_⟩
  refine ⟨fun vs W hI hV => .inl ⟨by clear hI hV hst; go_simp, .inl (by have q := (A11.out.sees hI).cs.2.1; clear hI hV hst; (try simp only [Act.put, hval, hval2, List.setIfInBounds_toArray, List.set_cons_zero, List.set_cons_succ]); go_simp)⟩, ?_⟩
  refine ⟨fun vs W hI hV => .inl ⟨by clear hI hV hst; go_simp, .inl (by clear hI hV hst; (try simp only [Act.put, hval, hval2, List.setIfInBounds_toArray, List.set_cons_zero, List.set_cons_succ]); go_simp)⟩, ?_⟩
  refine ⟨fun vs W hI hV => .inl ⟨by clear hI hV hst; go_simp, .inl (by have q := (B11.out.sees hI).cs.2.1; clear hI hV hst; (try simp only [Act.put, hval, hval2, List.setIfInBounds_toArray, List.set_cons_zero, List.set_cons_succ]); go_simp)⟩, ?_⟩
  refine ⟨fun vs W hI hV => .inl ⟨by clear hI hV hst; go_simp, .inl (by clear hI hV hst; (try simp only [Act.put, hval, hval2, List.setIfInBounds_toArray, List.set_cons_zero, List.set_cons_succ]); go_simp)⟩, ?_⟩
  refine ⟨fun vs W hI hV => .inl ⟨by clear hI hV hst; go_simp, .inl (by clear hI hV hst; (try simp only [Act.put, hval, hval2, List.setIfInBounds_toArray, List.set_cons_zero, List.set_cons_succ]); go_simp)⟩, ?_⟩
  refine ⟨fun vs W hI hV => .inl ⟨by clear hI hV hst; go_simp, .inl (by clear hI hV hst; (try simp only [Act.put, hval, hval2, List.setIfInBounds_toArray, List.set_cons_zero, List.set_cons_succ]); go_simp)⟩, ?_⟩
  refine ⟨fun vs W hI hV => .inl ⟨by clear hI hV hst; go_simp, .inl (by clear hI hV hst; (try simp only [Act.put, hval, hval2, List.setIfInBounds_toArray, List.set_cons_zero, List.set_cons_succ]); go_simp)⟩, ?_⟩
  refine ⟨fun vs W hI hV => .inl ⟨by clear hI hV hst; go_simp, .inl (by clear hI hV hst; (try simp only [Act.put, hval, hval2, List.setIfInBounds_toArray, List.set_cons_zero, List.set_cons_succ]); go_simp)⟩, ?_⟩
  intro vs w13 hI hV
  have A13 := (A11.out.sees hI).pend true
  have Z13 := (Z11.out.sees hI).off (a := ⟨w.heap.size, 2, none⟩) (by dsimp only; omega) (.bool true)
  have S13 := (S11.out.trans hI).setCell (p := ⟨w.heap.size, 2, none⟩) (Nat.le_refl _) (.bool true)
  have c2 := (A11.out.sees hI).cs.2.2.1
  have f2 := frozen_of_row _ _ 2 _ _ (A11.out.sees hI)
  clear hI hV hst A11 B11 Z11 S11
  (try simp only [Act.put, hval, hval2, List.setIfInBounds_toArray, List.set_cons_zero, List.set_cons_succ])
  go_simp
  refine wpFrom_to 18 hB (fun _ _ _ _ _ h => h) (by kernel_rfl) (by simp only [List.cons_append, List.nil_append, List.drop_succ_cons, List.drop_zero, List.take_succ_cons, List.take_zero, Nat.reduceSub]; rfl) ?_
  go_wp2_with fail
  refine wpFrom_end rfl ?_
  clear c2 f2
  obtain ⟨s', hs'⟩ : ∃ x : Sv, x = { s with row := z2, col := z3, pend := true } := ⟨_, rfl⟩
  have A14 : SvAt _ _ s' := hs' ▸ A13
  have Hs' := Lib.hid hs'
  clear hs' A13
  go_wp2_with (first | (refine wpList_val rfl (exec_load (v := s'.val) rfl rfl (run_loadSv A14)) (fun K hK => ?_); go_simp; refine hK _ _ ?_; clear hK K) | (refine wpList_skip rfl (exec_store (v := s'.val) rfl rfl rfl (run_storeSv Z13 s')) (fun K hK => ?_); go_simp; refine hK _ _ ?_; clear hK K))
  refine bodyPost_ret_by (results_sv (s := s') (v := .int .i64 0) rfl rfl rfl (SvAt.stored Z13 _)) rfl ⟨?_, ?_⟩
  · rw [Hs'.out, Hz3.out, Hz2.out, Hz1.out]
  · exact Sees.setRow S13 (by omega) _
set_option maxHeartbeats 8000000 in
set_option maxRecDepth 100000 in
theorem restore_ttf (s : Sv) (a : Ar) (hv : s.ok = true) (hw : a.right = true) (ho : s.org = true) (hp : s.pend = true) (h4 : (min s.col (a.cols - 1) == a.cols - 1) = false) (w : World) : Calls Tryd.prog 22 #[s.val, a.v] w fun e w' => e = .returned (.tuple #[({ s with row := max a.top (min s.row a.bot), col := min s.col (a.cols - 1), pend := false } : Sv).val, .int .i64 0]) ∧ Sees w w' := by
  have KV : Hid (∀ W, Calls Tryd.prog 8 #[s.val] W fun e w' => e = .returned (.bool true) ∧ Sees W w') := fun W => by have := sValid_any s W; rw [show s.ok = true from hv] at this; exact this
  have KR : Hid (∀ W, Calls Tryd.prog 37 #[a.v] W fun e w' => e = .returned (.bool true) ∧ Sees W w') := fun W => by have := right_any a W; rw [show a.right = true from hw] at this; exact this
  obtain ⟨r0, r1, r2, r3, r4, r5, r6⟩ := of_decide_eq_true hw
  go_enter Tryd.func22, Tryd.ntmps22
  go_upto_region 1 with (first
    | (refine wpList_val rfl (exec_box (cs := s.cells) rfl rfl) (fun K hK => ?_); go_simp; refine hK _ _ ?_; clear hK K)
    | (refine wpList_val rfl (exec_box (cs := a.cells) rfl rfl) (fun K hK => ?_); go_simp; refine hK _ _ ?_; clear hK K))
  refine wp_world fun W0 hW0 => ?_
  obtain ⟨A1, B1, Z1, S1⟩ := sar3 w s a W0 hW0
  clear hW0
  go_wp2_with (refine wpList_val rfl (exec_load (v := s.val) rfl rfl (run_loadSv A1)) (fun K hK => ?_); go_simp; refine hK _ _ ?_; clear hK K)
  refine (KV.out _).mono ?_
  rintro e W1 ⟨rfl, t1⟩
  have A2 := A1.sees t1
  have B2 := B1.sees t1
  have Z2 := Z1.sees t1
  have S2 := S1.trans t1
  clear A1 B1 Z1 S1 t1
  obtain ⟨d0, d1, d2, d3, d4⟩ := B2.cs
  go_wp2_with fail
  refine (KR.out _).mono ?_
  rintro e W2 ⟨rfl, t2⟩
  have A3 := A2.sees t2
  have B3 := B2.sees t2
  have Z3 := Z2.sees t2
  have S3 := S2.trans t2
  clear A2 B2 Z2 S2 t2 d0 d1 d2 d3 d4
  obtain ⟨d0, d1, d2, d3, d4⟩ := B3.cs
  go_upto_region 4 with fail
  refine wp_world fun W4 hW4 => ?_
  have u1 := (Sees.refl W2).alloc (.cells #[.int .i64 0, .int .i64 (a.rows - 1)] 37)
  have R4 : W4.heap[W2.heap.size]? = some (.cells #[.int .i64 0, .int .i64 (a.rows - 1)] 37 (0, 0)) := by rw [hW4]; exact heap_alloc_new W2 _
  rw [← hW4] at u1
  have A4 := A3.sees u1
  have B4 := B3.sees u1
  have Z4 := Z3.sees u1
  have S4 := S3.trans u1
  have lt4 : w.heap.size + 1 + 1 < W2.heap.size := (Array.getElem?_eq_some_iff.1 Z3).1
  clear d0 d1 d2 d3 d4 u1 hW4
  have c14 : W4.cell? ⟨w.heap.size, 14, none⟩ = some (.bool true) := by rw [← ho]; exact A4.cs.2.2.2.2.2.2.2.2.2.2.2.2.2.2.1
  obtain ⟨d0, d1, d2, d3, d4⟩ := B4.cs
  have f4 : ∀ i, W4.frozen? ⟨W2.heap.size, i, none⟩ = false := fun i => frozen_of_row _ _ i _ _ R4
  have e0 := Go.cell_of_row _ _ 0 _ _ _ R4
  have e1 := Go.cell_of_row _ _ 1 _ _ _ R4
  go_upto_region 6 with fail
  have R6 := heap_setCell_same _ _ 1 _ _ (.int .i64 a.bot) (heap_setCell_same _ _ 0 _ _ (.int .i64 a.top) R4)
  have A6 := (A4.off (a := ⟨W2.heap.size, 0, none⟩) (by simp; omega) (.int .i64 a.top)).off (a := ⟨W2.heap.size, 1, none⟩) (by simp; omega) (.int .i64 a.bot)
  have Z6 := (Z4.off (a := ⟨W2.heap.size, 0, none⟩) (by simp; omega) (.int .i64 a.top)).off (a := ⟨W2.heap.size, 1, none⟩) (by simp; omega) (.int .i64 a.bot)
  have B6 := (B4.off (a := ⟨W2.heap.size, 0, none⟩) (by simp; omega) (.int .i64 a.top)).off (a := ⟨W2.heap.size, 1, none⟩) (by simp; omega) (.int .i64 a.bot)
  have S6 := (S4.setCell (p := ⟨W2.heap.size, 0, none⟩) (by simp; omega) (.int .i64 a.top)).setCell (p := ⟨W2.heap.size, 1, none⟩) (by simp; omega) (.int .i64 a.bot)
  refine wp_world fun W6 hW6 => ?_
  rw [← hW6] at R6 A6 Z6 B6 S6
  clear hW6 R4 A4 Z4 B4 S4 e0 e1 c14 d0 d1 d2 d3 d4 f4
  have e0 := Go.cell_of_row _ _ 0 _ _ _ R6
  have e1 := Go.cell_of_row _ _ 1 _ _ _ R6
  have c0 := A6.cs.1
  have f0 := fun i => frozen_of_row _ _ i _ _ A6
  go_upto_region 8 with fail
  refine wp_world fun W7 hW7 => ?_
  subst hW7
  refine wpFrom_go (by kernel_rfl) (by kernel_rfl) (fun hB w7 hw7 => ?_)
  have A7 := Lib.hid (A6.sees hw7)
  have B7 := Lib.hid (B6.sees hw7)
  have R7 := Lib.hid (hw7.block' R6)
  have Z7 := Lib.hid (Z6.sees hw7)
  have S7 := Lib.hid (S6.trans hw7)
  clear A6 B6 R6 Z6 S6 hw7 e0 e1 c0 f0
  have hval : ∀ x v, (Spec.is x).val v = x := fun _ _ => rfl
  have hval2 : ∀ V v, (Spec.so V).val v = v := fun _ _ => rfl
  obtain ⟨z1, hz1⟩ : ∃ z, z = min s.row a.bot := ⟨_, rfl⟩
  obtain ⟨z2, hz2⟩ : ∃ z, z = max a.top z1 := ⟨_, rfl⟩
  have m1 : (if a.bot < s.row then a.bot else s.row) = z1 := by rw [hz1]; split <;> omega
  have m2 : (if a.top < z1 then z1 else a.top) = z2 := by rw [hz2]; split <;> omega
  have Hz1 := Lib.hid hz1
  have Hz2 := Lib.hid hz2
  clear hz1 hz2
  have hst : segStay (Sees w7) [.is (.pointer (some ⟨w.heap.size, 0, none⟩)), .is (.pointer (some ⟨W2.heap.size, 0, none⟩)), .is (.int .i64 a.top), .is (.pointer (some ⟨w.heap.size, 0, none⟩)), .is (.pointer (some ⟨w.heap.size, 0, none⟩)), .is (.pointer (some ⟨w.heap.size, 0, none⟩)), .is (.int .i64 s.row), .is (.pointer (some ⟨W2.heap.size, 1, none⟩)), .is (.int .i64 a.bot), .is (.int .i64 z1), .is (.int .i64 z2), .is (.pointer (some ⟨w.heap.size, 0, none⟩)), .is (.pointer (some ⟨w.heap.size, 0, none⟩))] := trivial
  refine wpFrom_any 13 _ hB (by kernel_rfl) rfl hst (by simp only [List.cons_append, List.nil_append, List.drop_succ_cons, List.drop_zero, List.take_succ_cons, List.take_zero, Nat.reduceSub]; rfl) ?_
  refine ⟨fun vs W hI hV => .inl ⟨by clear hI hV hst; go_simp, .inl (by clear hI hV hst; (try simp only [Act.put, hval, hval2, List.setIfInBounds_toArray, List.set_cons_zero, List.set_cons_succ]); go_simp)⟩, ?_⟩
  refine ⟨fun vs W hI hV => .inl ⟨by clear hI hV hst; go_simp, .inl (by clear hI hV hst; (try simp only [Act.put, hval, hval2, List.setIfInBounds_toArray, List.set_cons_zero, List.set_cons_succ]); go_simp)⟩, ?_⟩
  refine ⟨fun vs W hI hV => .inl ⟨by clear hI hV hst; go_simp, .inl (by have q := Go.cell_of_row _ _ 0 _ _ _ (hI.block' R7.out); clear hI hV hst; (try simp only [Act.put, hval, hval2, List.setIfInBounds_toArray, List.set_cons_zero, List.set_cons_succ]); go_simp)⟩, ?_⟩
  refine ⟨fun vs W hI hV => .inl ⟨by clear hI hV hst; go_simp, .inl (by clear hI hV hst; (try simp only [Act.put, hval, hval2, List.setIfInBounds_toArray, List.set_cons_zero, List.set_cons_succ]); go_simp)⟩, ?_⟩
  refine ⟨fun vs W hI hV => .inl ⟨by clear hI hV hst; go_simp, .inl (by clear hI hV hst; (try simp only [Act.put, hval, hval2, List.setIfInBounds_toArray, List.set_cons_zero, List.set_cons_succ]); go_simp)⟩, ?_⟩
  refine ⟨fun vs W hI hV => .inl ⟨by clear hI hV hst; go_simp, .inl (by clear hI hV hst; (try simp only [Act.put, hval, hval2, List.setIfInBounds_toArray, List.set_cons_zero, List.set_cons_succ]); go_simp)⟩, ?_⟩
  refine ⟨fun vs W hI hV => .inl ⟨by clear hI hV hst; go_simp, .inl (by have q := (A7.out.sees hI).cs.1; clear hI hV hst; (try simp only [Act.put, hval, hval2, List.setIfInBounds_toArray, List.set_cons_zero, List.set_cons_succ]); go_simp)⟩, ?_⟩
  refine ⟨fun vs W hI hV => .inl ⟨by clear hI hV hst; go_simp, .inl (by clear hI hV hst; (try simp only [Act.put, hval, hval2, List.setIfInBounds_toArray, List.set_cons_zero, List.set_cons_succ]); go_simp)⟩, ?_⟩
  refine ⟨fun vs W hI hV => .inl ⟨by clear hI hV hst; go_simp, .inl (by have q := Go.cell_of_row _ _ 1 _ _ _ (hI.block' R7.out); clear hI hV hst; (try simp only [Act.put, hval, hval2, List.setIfInBounds_toArray, List.set_cons_zero, List.set_cons_succ]); go_simp)⟩, ?_⟩
  refine ⟨fun vs W hI hV => .inl ⟨by clear hI hV hst; go_simp, .inl (by clear hI hV hst; (try simp only [Act.put, hval, hval2, List.setIfInBounds_toArray, List.set_cons_zero, List.set_cons_succ]); go_simp)⟩, ?_⟩
  refine ⟨fun vs W hI hV => .inl ⟨by clear hI hV hst; go_simp, .inl (by clear hI hV hst; (try simp only [Act.put, hval, hval2, List.setIfInBounds_toArray, List.set_cons_zero, List.set_cons_succ]); go_simp)⟩, ?_⟩
  refine ⟨fun vs W hI hV => .inl ⟨by clear hI hV hst; go_simp, .inl (by clear hI hV hst; (try simp only [Act.put, hval, hval2, List.setIfInBounds_toArray, List.set_cons_zero, List.set_cons_succ]); go_simp)⟩, ?_⟩
  refine ⟨fun vs W hI hV => .inl ⟨by clear hI hV hst; go_simp, .inl (by clear hI hV hst; (try simp only [Act.put, hval, hval2, List.setIfInBounds_toArray, List.set_cons_zero, List.set_cons_succ]); go_simp)⟩, ?_⟩
  intro vs w8 hI hV
  have A8 := (A7.out.sees hI).row z2
  have B8 := (B7.out.sees hI).off (a := ⟨w.heap.size, 0, none⟩) (by dsimp only; omega) (.int .i64 z2)
  have Z8 := (Z7.out.sees hI).off (a := ⟨w.heap.size, 0, none⟩) (by dsimp only; omega) (.int .i64 z2)
  have S8 := (S7.out.trans hI).setCell (p := ⟨w.heap.size, 0, none⟩) (Nat.le_refl _) (.int .i64 z2)
  have c0 := (A7.out.sees hI).cs.1
  have f0 := frozen_of_row _ _ 0 _ _ (A7.out.sees hI)
  clear hI hV hst A7 B7 R7 Z7 S7 m1 m2
  (try simp only [Act.put, hval, hval2, List.setIfInBounds_toArray, List.set_cons_zero, List.set_cons_succ])
  go_simp
  refine wpFrom_to 14 hB (fun _ _ _ _ _ h => h) (by kernel_rfl) (by simp only [List.cons_append, List.nil_append, List.drop_succ_cons, List.drop_zero, List.take_succ_cons, List.take_zero, Nat.reduceSub]; rfl) ?_
  go_wp2_with fail
  refine wpFrom_end rfl ?_
  clear c0 f0
  go_wp2_with fail
  refine wpFrom_go (by kernel_rfl) (by kernel_rfl) (fun hB w9 hw9 => ?_)
  have A9 := Lib.hid (A8.sees hw9)
  have B9 := Lib.hid (B8.sees hw9)
  have Z9 := Lib.hid (Z8.sees hw9)
  have S9 := Lib.hid (S8.trans hw9)
  clear A8 B8 Z8 S8 hw9
  obtain ⟨z3, hz3⟩ : ∃ z, z = min s.col (a.cols - 1) := ⟨_, rfl⟩
  have m1 : (if a.cols - 1 < s.col then a.cols - 1 else s.col) = z3 := by rw [hz3]; split <;> omega
  have Hz3 := Lib.hid hz3
  have wr : IntKind.i64.wrap (a.cols - 1) = a.cols - 1 := by rw [IntKind.wrap_i64]; omega
  clear hz3
  have hst : segStay (Sees w9) [.is (.pointer (some ⟨w.heap.size, 0, none⟩)), .is (.pointer (some ⟨w.heap.size, 0, none⟩)), .is (.pointer (some ⟨w.heap.size, 0, none⟩)), .is (.pointer (some ⟨w.heap.size, 1, none⟩)), .is (.int .i64 s.col), .is (.pointer (some ⟨w.heap.size + 1, 1, none⟩)), .is (.int .i64 a.cols), .is (.int .i64 (a.cols - 1)), .is (.int .i64 z3), .is (.pointer (some ⟨w.heap.size, 0, none⟩)), .is (.pointer (some ⟨w.heap.size, 1, none⟩))] := trivial
  refine wpFrom_any 11 _ hB (by kernel_rfl) rfl hst (by simp only [List.cons_append, List.nil_append, List.drop_succ_cons, List.drop_zero, List.take_succ_cons, List.take_zero, Nat.reduceSub]; rfl) ?_
  refine ⟨fun vs W hI hV => .inl ⟨by clear hI hV hst; go_simp, .inl (by clear hI hV hst; (try simp only [Act.put, hval, hval2, List.setIfInBounds_toArray, List.set_cons_zero, List.set_cons_succ]); go_simp)⟩, ?_⟩
  refine ⟨fun vs W hI hV => .inl ⟨by clear hI hV hst; go_simp, .inl (by clear hI hV hst; (try simp only [Act.put, hval, hval2, List.setIfInBounds_toArray, List.set_cons_zero, List.set_cons_succ]); go_simp)⟩, ?_⟩
  refine ⟨fun vs W hI hV => .inl ⟨by clear hI hV hst; go_simp, .inl (by clear hI hV hst; (try simp only [Act.put, hval, hval2, List.setIfInBounds_toArray, List.set_cons_zero, List.set_cons_succ]); go_simp)⟩, ?_⟩
  refine ⟨fun vs W hI hV => .inl ⟨by clear hI hV hst; go_simp, .inl (by clear hI hV hst; (try simp only [Act.put, hval, hval2, List.setIfInBounds_toArray, List.set_cons_zero, List.set_cons_succ]); go_simp)⟩, ?_⟩
  refine ⟨fun vs W hI hV => .inl ⟨by clear hI hV hst; go_simp, .inl (by have q := (A9.out.sees hI).cs.2.1; clear hI hV hst; (try simp only [Act.put, hval, hval2, List.setIfInBounds_toArray, List.set_cons_zero, List.set_cons_succ]); go_simp)⟩, ?_⟩
  refine ⟨fun vs W hI hV => .inl ⟨by clear hI hV hst; go_simp, .inl (by clear hI hV hst; (try simp only [Act.put, hval, hval2, List.setIfInBounds_toArray, List.set_cons_zero, List.set_cons_succ]); go_simp)⟩, ?_⟩
  refine ⟨fun vs W hI hV => .inl ⟨by clear hI hV hst; go_simp, .inl (by have q := (B9.out.sees hI).cs.2.1; clear hI hV hst; (try simp only [Act.put, hval, hval2, List.setIfInBounds_toArray, List.set_cons_zero, List.set_cons_succ]); go_simp)⟩, ?_⟩
  refine ⟨fun vs W hI hV => .inl ⟨by clear hI hV hst; go_simp, .inl (by clear hI hV hst; (try simp only [Act.put, hval, hval2, List.setIfInBounds_toArray, List.set_cons_zero, List.set_cons_succ]); go_simp)⟩, ?_⟩
  refine ⟨fun vs W hI hV => .inl ⟨by clear hI hV hst; go_simp, .inl (by clear hI hV hst; (try simp only [Act.put, hval, hval2, List.setIfInBounds_toArray, List.set_cons_zero, List.set_cons_succ]); go_simp)⟩, ?_⟩
  refine ⟨fun vs W hI hV => .inl ⟨by clear hI hV hst; go_simp, .inl (by clear hI hV hst; (try simp only [Act.put, hval, hval2, List.setIfInBounds_toArray, List.set_cons_zero, List.set_cons_succ]); go_simp)⟩, ?_⟩
  refine ⟨fun vs W hI hV => .inl ⟨by clear hI hV hst; go_simp, .inl (by clear hI hV hst; (try simp only [Act.put, hval, hval2, List.setIfInBounds_toArray, List.set_cons_zero, List.set_cons_succ]); go_simp)⟩, ?_⟩
  intro vs w10 hI hV
  have A10 := (A9.out.sees hI).col z3
  have B10 := (B9.out.sees hI).off (a := ⟨w.heap.size, 1, none⟩) (by dsimp only; omega) (.int .i64 z3)
  have Z10 := (Z9.out.sees hI).off (a := ⟨w.heap.size, 1, none⟩) (by dsimp only; omega) (.int .i64 z3)
  have S10 := (S9.out.trans hI).setCell (p := ⟨w.heap.size, 1, none⟩) (Nat.le_refl _) (.int .i64 z3)
  have c1 := (A9.out.sees hI).cs.2.1
  have f1 := frozen_of_row _ _ 1 _ _ (A9.out.sees hI)
  clear hI hV hst A9 B9 Z9 S9 m1
  (try simp only [Act.put, hval, hval2, List.setIfInBounds_toArray, List.set_cons_zero, List.set_cons_succ])
  go_simp
  refine wpFrom_to 12 hB (fun _ _ _ _ _ h => h) (by kernel_rfl) (by simp only [List.cons_append, List.nil_append, List.drop_succ_cons, List.drop_zero, List.take_succ_cons, List.take_zero, Nat.reduceSub]; rfl) ?_
  go_wp2_with fail
  refine wpFrom_end rfl ?_
  clear c1 f1
  go_wp2_with fail
  refine wpFrom_go (by kernel_rfl) (by kernel_rfl) (fun hB w11 hw11 => ?_)
  have A11 := Lib.hid (A10.sees hw11)
  have B11 := Lib.hid (B10.sees hw11)
  have Z11 := Lib.hid (Z10.sees hw11)
  have S11 := Lib.hid (S10.trans hw11)
  clear A10 B10 Z10 S10 hw11
  rw [← Hz3.out] at h4
  have hst : segStay (Sees w11) [.is (.pointer (some ⟨w.heap.size, 0, none⟩)), .is (.pointer (some ⟨w.heap.size, 0, none⟩)), .is (.pointer (some ⟨w.heap.size, 0, none⟩)), .is (.pointer (some ⟨w.heap.size, 2, none⟩)), .is (.bool true), .is (.bool true), .is (.pointer (some ⟨w.heap.size, 0, none⟩)), .is (.pointer (some ⟨w.heap.size, 0, none⟩)), .is (.pointer (some ⟨w.heap.size, 1, none⟩)), .is (.int .i64 z3), .is (.pointer (some ⟨w.heap.size + 1, 1, none⟩)), .is (.int .i64 a.cols), .is (.int .i64 (a.cols - 1)), .is (.bool false), .is (.bool false), .is (.pointer (some ⟨w.heap.size, 0, none⟩)), .is (.pointer (some ⟨w.heap.size, 2, none⟩))] := trivial
  refine wpFrom_any 17 _ hB (by kernel_rfl) rfl hst (by simp only [List.cons_append, List.nil_append, List.drop_succ_cons, List.drop_zero, List.take_succ_cons, List.take_zero, Nat.reduceSub]; rfl) ?_
  refine ⟨fun vs W hI hV => .inl ⟨by clear hI hV hst; go_simp, .inl (by clear hI hV hst; (try simp only [Act.put, hval, hval2, List.setIfInBounds_toArray, List.set_cons_zero, List.set_cons_succ]); go_simp)⟩, ?_⟩
  refine ⟨fun vs W hI hV => .inl ⟨by clear hI hV hst; go_simp, .inl (by clear hI hV hst; (try simp only [Act.put, hval, hval2, List.setIfInBounds_toArray, List.set_cons_zero, List.set_cons_succ]); go_simp)⟩, ?_⟩
  refine ⟨fun vs W hI hV => .inl ⟨by clear hI hV hst; go_simp, .inl (by clear hI hV hst; (try simp only [Act.put, hval, hval2, List.setIfInBounds_toArray, List.set_cons_zero, List.set_cons_succ]); go_simp)⟩, ?_⟩
  refine ⟨fun vs W hI hV => .inl ⟨by clear hI hV hst; go_simp, .inl (by clear hI hV hst; (try simp only [Act.put, hval, hval2, List.setIfInBounds_toArray, List.set_cons_zero, List.set_cons_succ]); go_simp)⟩, ?_⟩
  refine ⟨fun vs W hI hV => .inl ⟨by clear hI hV hst; go_simp, .inl (by have q := (A11.out.sees hI).cs.2.2.1; rw [show ({ s with row := z2, col := z3 } : Sv).pend = true from hp] at q; clear hI hV hst; (try simp only [Act.put, hval, hval2, List.setIfInBounds_toArray, List.set_cons_zero, List.set_cons_succ]); go_simp)⟩, ?_⟩
  refine ⟨fun vs W hI hV => .inl ⟨by clear hI hV hst; go_simp, .inl (by clear hI hV hst; (try simp only [Act.put, hval, hval2, List.setIfInBounds_toArray, List.set_cons_zero, List.set_cons_succ]); go_simp)⟩, ?_⟩
  refine ⟨fun vs W hI hV => .inl ⟨by clear hI hV hst; go_simp, .inl (by clear hI hV hst; (try simp only [Act.put, hval, hval2, List.setIfInBounds_toArray, List.set_cons_zero, List.set_cons_succ]); go_simp)⟩, ?_⟩
  refine ⟨fun vs W hI hV => .inl ⟨by clear hI hV hst; go_simp, .inl (by clear hI hV hst; (try simp only [Act.put, hval, hval2, List.setIfInBounds_toArray, List.set_cons_zero, List.set_cons_succ]); go_simp)⟩, ?_⟩
  refine ⟨fun vs W hI hV => .inl ⟨by clear hI hV hst; go_simp, .inl (by clear hI hV hst; (try simp only [Act.put, hval, hval2, List.setIfInBounds_toArray, List.set_cons_zero, List.set_cons_succ]); go_simp)⟩, ?_⟩
  refine ⟨fun vs W hI hV => .inl ⟨by clear hI hV hst; go_simp, .inl (by have q := (A11.out.sees hI).cs.2.1; clear hI hV hst; (try simp only [Act.put, hval, hval2, List.setIfInBounds_toArray, List.set_cons_zero, List.set_cons_succ]); go_simp)⟩, ?_⟩
  refine ⟨fun vs W hI hV => .inl ⟨by clear hI hV hst; go_simp, .inl (by clear hI hV hst; (try simp only [Act.put, hval, hval2, List.setIfInBounds_toArray, List.set_cons_zero, List.set_cons_succ]); go_simp)⟩, ?_⟩
  refine ⟨fun vs W hI hV => .inl ⟨by clear hI hV hst; go_simp, .inl (by have q := (B11.out.sees hI).cs.2.1; clear hI hV hst; (try simp only [Act.put, hval, hval2, List.setIfInBounds_toArray, List.set_cons_zero, List.set_cons_succ]); go_simp)⟩, ?_⟩
  refine ⟨fun vs W hI hV => .inl ⟨by clear hI hV hst; go_simp, .inl (by clear hI hV hst; (try simp only [Act.put, hval, hval2, List.setIfInBounds_toArray, List.set_cons_zero, List.set_cons_succ]); go_simp)⟩, ?_⟩
  refine ⟨fun vs W hI hV => .inl ⟨by clear hI hV hst; go_simp, .inl (by clear hI hV hst; (try simp only [Act.put, hval, hval2, List.setIfInBounds_toArray, List.set_cons_zero, List.set_cons_succ]); go_simp)⟩, ?_⟩
  refine ⟨fun vs W hI hV => .inl ⟨by clear hI hV hst; go_simp, .inl (by clear hI hV hst; (try simp only [Act.put, hval, hval2, List.setIfInBounds_toArray, List.set_cons_zero, List.set_cons_succ]); go_simp)⟩, ?_⟩
  refine ⟨fun vs W hI hV => .inl ⟨by clear hI hV hst; go_simp, .inl (by clear hI hV hst; (try simp only [Act.put, hval, hval2, List.setIfInBounds_toArray, List.set_cons_zero, List.set_cons_succ]); go_simp)⟩, ?_⟩
  refine ⟨fun vs W hI hV => .inl ⟨by clear hI hV hst; go_simp, .inl (by clear hI hV hst; (try simp only [Act.put, hval, hval2, List.setIfInBounds_toArray, List.set_cons_zero, List.set_cons_succ]); go_simp)⟩, ?_⟩
  intro vs w13 hI hV
  have A13 := (A11.out.sees hI).pend false
  have Z13 := (Z11.out.sees hI).off (a := ⟨w.heap.size, 2, none⟩) (by dsimp only; omega) (.bool false)
  have S13 := (S11.out.trans hI).setCell (p := ⟨w.heap.size, 2, none⟩) (Nat.le_refl _) (.bool false)
  have c2 := (A11.out.sees hI).cs.2.2.1
  have f2 := frozen_of_row _ _ 2 _ _ (A11.out.sees hI)
  clear hI hV hst A11 B11 Z11 S11
  (try simp only [Act.put, hval, hval2, List.setIfInBounds_toArray, List.set_cons_zero, List.set_cons_succ])
  go_simp
  refine wpFrom_to 18 hB (fun _ _ _ _ _ h => h) (by kernel_rfl) (by simp only [List.cons_append, List.nil_append, List.drop_succ_cons, List.drop_zero, List.take_succ_cons, List.take_zero, Nat.reduceSub]; rfl) ?_
  go_wp2_with fail
  refine wpFrom_end rfl ?_
  clear c2 f2
  obtain ⟨s', hs'⟩ : ∃ x : Sv, x = { s with row := z2, col := z3, pend := false } := ⟨_, rfl⟩
  have A14 : SvAt _ _ s' := hs' ▸ A13
  have Hs' := Lib.hid hs'
  clear hs' A13
  go_wp2_with (first | (refine wpList_val rfl (exec_load (v := s'.val) rfl rfl (run_loadSv A14)) (fun K hK => ?_); go_simp; refine hK _ _ ?_; clear hK K) | (refine wpList_skip rfl (exec_store (v := s'.val) rfl rfl rfl (run_storeSv Z13 s')) (fun K hK => ?_); go_simp; refine hK _ _ ?_; clear hK K))
  refine bodyPost_ret_by (results_sv (s := s') (v := .int .i64 0) rfl rfl rfl (SvAt.stored Z13 _)) rfl ⟨?_, ?_⟩
  · rw [Hs'.out, Hz3.out, Hz2.out, Hz1.out]
  · exact Sees.setRow S13 (by omega) _
set_option maxHeartbeats 8000000 in
set_option maxRecDepth 100000 in
theorem restore_tff (s : Sv) (a : Ar) (hv : s.ok = true) (hw : a.right = true) (ho : s.org = true) (hp : s.pend = false) (w : World) : Calls Tryd.prog 22 #[s.val, a.v] w fun e w' => e = .returned (.tuple #[({ s with row := max a.top (min s.row a.bot), col := min s.col (a.cols - 1), pend := false } : Sv).val, .int .i64 0]) ∧ Sees w w' := by
  have KV : Hid (∀ W, Calls Tryd.prog 8 #[s.val] W fun e w' => e = .returned (.bool true) ∧ Sees W w') := fun W => by have := sValid_any s W; rw [show s.ok = true from hv] at this; exact this
  have KR : Hid (∀ W, Calls Tryd.prog 37 #[a.v] W fun e w' => e = .returned (.bool true) ∧ Sees W w') := fun W => by have := right_any a W; rw [show a.right = true from hw] at this; exact this
  obtain ⟨r0, r1, r2, r3, r4, r5, r6⟩ := of_decide_eq_true hw
  go_enter Tryd.func22, Tryd.ntmps22
  go_upto_region 1 with (first
    | (refine wpList_val rfl (exec_box (cs := s.cells) rfl rfl) (fun K hK => ?_); go_simp; refine hK _ _ ?_; clear hK K)
    | (refine wpList_val rfl (exec_box (cs := a.cells) rfl rfl) (fun K hK => ?_); go_simp; refine hK _ _ ?_; clear hK K))
  refine wp_world fun W0 hW0 => ?_
  obtain ⟨A1, B1, Z1, S1⟩ := sar3 w s a W0 hW0
  clear hW0
  go_wp2_with (refine wpList_val rfl (exec_load (v := s.val) rfl rfl (run_loadSv A1)) (fun K hK => ?_); go_simp; refine hK _ _ ?_; clear hK K)
  refine (KV.out _).mono ?_
  rintro e W1 ⟨rfl, t1⟩
  have A2 := A1.sees t1
  have B2 := B1.sees t1
  have Z2 := Z1.sees t1
  have S2 := S1.trans t1
  clear A1 B1 Z1 S1 t1
  obtain ⟨d0, d1, d2, d3, d4⟩ := B2.cs
  go_wp2_with fail
  refine (KR.out _).mono ?_
  rintro e W2 ⟨rfl, t2⟩
  have A3 := A2.sees t2
  have B3 := B2.sees t2
  have Z3 := Z2.sees t2
  have S3 := S2.trans t2
  clear A2 B2 Z2 S2 t2 d0 d1 d2 d3 d4
  obtain ⟨d0, d1, d2, d3, d4⟩ := B3.cs
  go_upto_region 4 with fail
  refine wp_world fun W4 hW4 => ?_
  have u1 := (Sees.refl W2).alloc (.cells #[.int .i64 0, .int .i64 (a.rows - 1)] 37)
  have R4 : W4.heap[W2.heap.size]? = some (.cells #[.int .i64 0, .int .i64 (a.rows - 1)] 37 (0, 0)) := by rw [hW4]; exact heap_alloc_new W2 _
  rw [← hW4] at u1
  have A4 := A3.sees u1
  have B4 := B3.sees u1
  have Z4 := Z3.sees u1
  have S4 := S3.trans u1
  have lt4 : w.heap.size + 1 + 1 < W2.heap.size := (Array.getElem?_eq_some_iff.1 Z3).1
  clear d0 d1 d2 d3 d4 u1 hW4
  have c14 : W4.cell? ⟨w.heap.size, 14, none⟩ = some (.bool true) := by rw [← ho]; exact A4.cs.2.2.2.2.2.2.2.2.2.2.2.2.2.2.1
  obtain ⟨d0, d1, d2, d3, d4⟩ := B4.cs
  have f4 : ∀ i, W4.frozen? ⟨W2.heap.size, i, none⟩ = false := fun i => frozen_of_row _ _ i _ _ R4
  have e0 := Go.cell_of_row _ _ 0 _ _ _ R4
  have e1 := Go.cell_of_row _ _ 1 _ _ _ R4
  go_upto_region 6 with fail
  have R6 := heap_setCell_same _ _ 1 _ _ (.int .i64 a.bot) (heap_setCell_same _ _ 0 _ _ (.int .i64 a.top) R4)
  have A6 := (A4.off (a := ⟨W2.heap.size, 0, none⟩) (by simp; omega) (.int .i64 a.top)).off (a := ⟨W2.heap.size, 1, none⟩) (by simp; omega) (.int .i64 a.bot)
  have Z6 := (Z4.off (a := ⟨W2.heap.size, 0, none⟩) (by simp; omega) (.int .i64 a.top)).off (a := ⟨W2.heap.size, 1, none⟩) (by simp; omega) (.int .i64 a.bot)
  have B6 := (B4.off (a := ⟨W2.heap.size, 0, none⟩) (by simp; omega) (.int .i64 a.top)).off (a := ⟨W2.heap.size, 1, none⟩) (by simp; omega) (.int .i64 a.bot)
  have S6 := (S4.setCell (p := ⟨W2.heap.size, 0, none⟩) (by simp; omega) (.int .i64 a.top)).setCell (p := ⟨W2.heap.size, 1, none⟩) (by simp; omega) (.int .i64 a.bot)
  refine wp_world fun W6 hW6 => ?_
  rw [← hW6] at R6 A6 Z6 B6 S6
  clear hW6 R4 A4 Z4 B4 S4 e0 e1 c14 d0 d1 d2 d3 d4 f4
  have e0 := Go.cell_of_row _ _ 0 _ _ _ R6
  have e1 := Go.cell_of_row _ _ 1 _ _ _ R6
  have c0 := A6.cs.1
  have f0 := fun i => frozen_of_row _ _ i _ _ A6
  go_upto_region 8 with fail
  refine wp_world fun W7 hW7 => ?_
  subst hW7
  refine wpFrom_go (by kernel_rfl) (by kernel_rfl) (fun hB w7 hw7 => ?_)
  have A7 := Lib.hid (A6.sees hw7)
  have B7 := Lib.hid (B6.sees hw7)
  have R7 := Lib.hid (hw7.block' R6)
  have Z7 := Lib.hid (Z6.sees hw7)
  have S7 := Lib.hid (S6.trans hw7)
  clear A6 B6 R6 Z6 S6 hw7 e0 e1 c0 f0
  have hval : ∀ x v, (Spec.is x).val v = x := fun _ _ => rfl
  have hval2 : ∀ V v, (Spec.so V).val v = v := fun _ _ => rfl
  obtain ⟨z1, hz1⟩ : ∃ z, z = min s.row a.bot := ⟨_, rfl⟩
  obtain ⟨z2, hz2⟩ : ∃ z, z = max a.top z1 := ⟨_, rfl⟩
  have m1 : (if a.bot < s.row then a.bot else s.row) = z1 := by rw [hz1]; split <;> omega
  have m2 : (if a.top < z1 then z1 else a.top) = z2 := by rw [hz2]; split <;> omega
  have Hz1 := Lib.hid hz1
  have Hz2 := Lib.hid hz2
  clear hz1 hz2
  have hst : segStay (Sees w7) [.is (.pointer (some ⟨w.heap.size, 0, none⟩)), .is (.pointer (some ⟨W2.heap.size, 0, none⟩)), .is (.int .i64 a.top), .is (.pointer (some ⟨w.heap.size, 0, none⟩)), .is (.pointer (some ⟨w.heap.size, 0, none⟩)), .is (.pointer (some ⟨w.heap.size, 0, none⟩)), .is (.int .i64 s.row), .is (.pointer (some ⟨W2.heap.size, 1, none⟩)), .is (.int .i64 a.bot), .is (.int .i64 z1), .is (.int .i64 z2), .is (.pointer (some ⟨w.heap.size, 0, none⟩)), .is (.pointer (some ⟨w.heap.size, 0, none⟩))] := trivial
  refine wpFrom_any 13 _ hB (by kernel_rfl) rfl hst (by simp only [List.cons_append, List.nil_append, List.drop_succ_cons, List.drop_zero, List.take_succ_cons, List.take_zero, Nat.reduceSub]; rfl) ?_
  refine ⟨fun vs W hI hV => .inl ⟨by clear hI hV hst; go_simp, .inl (by clear hI hV hst; (try simp only [Act.put, hval, hval2, List.setIfInBounds_toArray, List.set_cons_zero, List.set_cons_succ]); go_simp)⟩, ?_⟩
  refine ⟨fun vs W hI hV => .inl ⟨by clear hI hV hst; go_simp, .inl (by clear hI hV hst; (try simp only [Act.put, hval, hval2, List.setIfInBounds_toArray, List.set_cons_zero, List.set_cons_succ]); go_simp)⟩, ?_⟩
  refine ⟨fun vs W hI hV => .inl ⟨by clear hI hV hst; go_simp, .inl (by have q := Go.cell_of_row _ _ 0 _ _ _ (hI.block' R7.out); clear hI hV hst; (try simp only [Act.put, hval, hval2, List.setIfInBounds_toArray, List.set_cons_zero, List.set_cons_succ]); go_simp)⟩, ?_⟩
  refine ⟨fun vs W hI hV => .inl ⟨by clear hI hV hst; go_simp, .inl (by clear hI hV hst; (try simp only [Act.put, hval, hval2, List.setIfInBounds_toArray, List.set_cons_zero, List.set_cons_succ]); go_simp)⟩, ?_⟩
  refine ⟨fun vs W hI hV => .inl ⟨by clear hI hV hst; go_simp, .inl (by clear hI hV hst; (try simp only [Act.put, hval, hval2, List.setIfInBounds_toArray, List.set_cons_zero, List.set_cons_succ]); go_simp)⟩, ?_⟩
  refine ⟨fun vs W hI hV => .inl ⟨by clear hI hV hst; go_simp, .inl (by clear hI hV hst; (try simp only [Act.put, hval, hval2, List.setIfInBounds_toArray, List.set_cons_zero, List.set_cons_succ]); go_simp)⟩, ?_⟩
  refine ⟨fun vs W hI hV => .inl ⟨by clear hI hV hst; go_simp, .inl (by have q := (A7.out.sees hI).cs.1; clear hI hV hst; (try simp only [Act.put, hval, hval2, List.setIfInBounds_toArray, List.set_cons_zero, List.set_cons_succ]); go_simp)⟩, ?_⟩
  refine ⟨fun vs W hI hV => .inl ⟨by clear hI hV hst; go_simp, .inl (by clear hI hV hst; (try simp only [Act.put, hval, hval2, List.setIfInBounds_toArray, List.set_cons_zero, List.set_cons_succ]); go_simp)⟩, ?_⟩
  refine ⟨fun vs W hI hV => .inl ⟨by clear hI hV hst; go_simp, .inl (by have q := Go.cell_of_row _ _ 1 _ _ _ (hI.block' R7.out); clear hI hV hst; (try simp only [Act.put, hval, hval2, List.setIfInBounds_toArray, List.set_cons_zero, List.set_cons_succ]); go_simp)⟩, ?_⟩
  refine ⟨fun vs W hI hV => .inl ⟨by clear hI hV hst; go_simp, .inl (by clear hI hV hst; (try simp only [Act.put, hval, hval2, List.setIfInBounds_toArray, List.set_cons_zero, List.set_cons_succ]); go_simp)⟩, ?_⟩
  refine ⟨fun vs W hI hV => .inl ⟨by clear hI hV hst; go_simp, .inl (by clear hI hV hst; (try simp only [Act.put, hval, hval2, List.setIfInBounds_toArray, List.set_cons_zero, List.set_cons_succ]); go_simp)⟩, ?_⟩
  refine ⟨fun vs W hI hV => .inl ⟨by clear hI hV hst; go_simp, .inl (by clear hI hV hst; (try simp only [Act.put, hval, hval2, List.setIfInBounds_toArray, List.set_cons_zero, List.set_cons_succ]); go_simp)⟩, ?_⟩
  refine ⟨fun vs W hI hV => .inl ⟨by clear hI hV hst; go_simp, .inl (by clear hI hV hst; (try simp only [Act.put, hval, hval2, List.setIfInBounds_toArray, List.set_cons_zero, List.set_cons_succ]); go_simp)⟩, ?_⟩
  intro vs w8 hI hV
  have A8 := (A7.out.sees hI).row z2
  have B8 := (B7.out.sees hI).off (a := ⟨w.heap.size, 0, none⟩) (by dsimp only; omega) (.int .i64 z2)
  have Z8 := (Z7.out.sees hI).off (a := ⟨w.heap.size, 0, none⟩) (by dsimp only; omega) (.int .i64 z2)
  have S8 := (S7.out.trans hI).setCell (p := ⟨w.heap.size, 0, none⟩) (Nat.le_refl _) (.int .i64 z2)
  have c0 := (A7.out.sees hI).cs.1
  have f0 := frozen_of_row _ _ 0 _ _ (A7.out.sees hI)
  clear hI hV hst A7 B7 R7 Z7 S7 m1 m2
  (try simp only [Act.put, hval, hval2, List.setIfInBounds_toArray, List.set_cons_zero, List.set_cons_succ])
  go_simp
  refine wpFrom_to 14 hB (fun _ _ _ _ _ h => h) (by kernel_rfl) (by simp only [List.cons_append, List.nil_append, List.drop_succ_cons, List.drop_zero, List.take_succ_cons, List.take_zero, Nat.reduceSub]; rfl) ?_
  go_wp2_with fail
  refine wpFrom_end rfl ?_
  clear c0 f0
  go_wp2_with fail
  refine wpFrom_go (by kernel_rfl) (by kernel_rfl) (fun hB w9 hw9 => ?_)
  have A9 := Lib.hid (A8.sees hw9)
  have B9 := Lib.hid (B8.sees hw9)
  have Z9 := Lib.hid (Z8.sees hw9)
  have S9 := Lib.hid (S8.trans hw9)
  clear A8 B8 Z8 S8 hw9
  obtain ⟨z3, hz3⟩ : ∃ z, z = min s.col (a.cols - 1) := ⟨_, rfl⟩
  have m1 : (if a.cols - 1 < s.col then a.cols - 1 else s.col) = z3 := by rw [hz3]; split <;> omega
  have Hz3 := Lib.hid hz3
  have wr : IntKind.i64.wrap (a.cols - 1) = a.cols - 1 := by rw [IntKind.wrap_i64]; omega
  clear hz3
  have hst : segStay (Sees w9) [.is (.pointer (some ⟨w.heap.size, 0, none⟩)), .is (.pointer (some ⟨w.heap.size, 0, none⟩)), .is (.pointer (some ⟨w.heap.size, 0, none⟩)), .is (.pointer (some ⟨w.heap.size, 1, none⟩)), .is (.int .i64 s.col), .is (.pointer (some ⟨w.heap.size + 1, 1, none⟩)), .is (.int .i64 a.cols), .is (.int .i64 (a.cols - 1)), .is (.int .i64 z3), .is (.pointer (some ⟨w.heap.size, 0, none⟩)), .is (.pointer (some ⟨w.heap.size, 1, none⟩))] := trivial
  refine wpFrom_any 11 _ hB (by kernel_rfl) rfl hst (by simp only [List.cons_append, List.nil_append, List.drop_succ_cons, List.drop_zero, List.take_succ_cons, List.take_zero, Nat.reduceSub]; rfl) ?_
  refine ⟨fun vs W hI hV => .inl ⟨by clear hI hV hst; go_simp, .inl (by clear hI hV hst; (try simp only [Act.put, hval, hval2, List.setIfInBounds_toArray, List.set_cons_zero, List.set_cons_succ]); go_simp)⟩, ?_⟩
  refine ⟨fun vs W hI hV => .inl ⟨by clear hI hV hst; go_simp, .inl (by clear hI hV hst; (try simp only [Act.put, hval, hval2, List.setIfInBounds_toArray, List.set_cons_zero, List.set_cons_succ]); go_simp)⟩, ?_⟩
  refine ⟨fun vs W hI hV => .inl ⟨by clear hI hV hst; go_simp, .inl (by clear hI hV hst; (try simp only [Act.put, hval, hval2, List.setIfInBounds_toArray, List.set_cons_zero, List.set_cons_succ]); go_simp)⟩, ?_⟩
  refine ⟨fun vs W hI hV => .inl ⟨by clear hI hV hst; go_simp, .inl (by clear hI hV hst; (try simp only [Act.put, hval, hval2, List.setIfInBounds_toArray, List.set_cons_zero, List.set_cons_succ]); go_simp)⟩, ?_⟩
  refine ⟨fun vs W hI hV => .inl ⟨by clear hI hV hst; go_simp, .inl (by have q := (A9.out.sees hI).cs.2.1; clear hI hV hst; (try simp only [Act.put, hval, hval2, List.setIfInBounds_toArray, List.set_cons_zero, List.set_cons_succ]); go_simp)⟩, ?_⟩
  refine ⟨fun vs W hI hV => .inl ⟨by clear hI hV hst; go_simp, .inl (by clear hI hV hst; (try simp only [Act.put, hval, hval2, List.setIfInBounds_toArray, List.set_cons_zero, List.set_cons_succ]); go_simp)⟩, ?_⟩
  refine ⟨fun vs W hI hV => .inl ⟨by clear hI hV hst; go_simp, .inl (by have q := (B9.out.sees hI).cs.2.1; clear hI hV hst; (try simp only [Act.put, hval, hval2, List.setIfInBounds_toArray, List.set_cons_zero, List.set_cons_succ]); go_simp)⟩, ?_⟩
  refine ⟨fun vs W hI hV => .inl ⟨by clear hI hV hst; go_simp, .inl (by clear hI hV hst; (try simp only [Act.put, hval, hval2, List.setIfInBounds_toArray, List.set_cons_zero, List.set_cons_succ]); go_simp)⟩, ?_⟩
  refine ⟨fun vs W hI hV => .inl ⟨by clear hI hV hst; go_simp, .inl (by clear hI hV hst; (try simp only [Act.put, hval, hval2, List.setIfInBounds_toArray, List.set_cons_zero, List.set_cons_succ]); go_simp)⟩, ?_⟩
  refine ⟨fun vs W hI hV => .inl ⟨by clear hI hV hst; go_simp, .inl (by clear hI hV hst; (try simp only [Act.put, hval, hval2, List.setIfInBounds_toArray, List.set_cons_zero, List.set_cons_succ]); go_simp)⟩, ?_⟩
  refine ⟨fun vs W hI hV => .inl ⟨by clear hI hV hst; go_simp, .inl (by clear hI hV hst; (try simp only [Act.put, hval, hval2, List.setIfInBounds_toArray, List.set_cons_zero, List.set_cons_succ]); go_simp)⟩, ?_⟩
  intro vs w10 hI hV
  have A10 := (A9.out.sees hI).col z3
  have B10 := (B9.out.sees hI).off (a := ⟨w.heap.size, 1, none⟩) (by dsimp only; omega) (.int .i64 z3)
  have Z10 := (Z9.out.sees hI).off (a := ⟨w.heap.size, 1, none⟩) (by dsimp only; omega) (.int .i64 z3)
  have S10 := (S9.out.trans hI).setCell (p := ⟨w.heap.size, 1, none⟩) (Nat.le_refl _) (.int .i64 z3)
  have c1 := (A9.out.sees hI).cs.2.1
  have f1 := frozen_of_row _ _ 1 _ _ (A9.out.sees hI)
  clear hI hV hst A9 B9 Z9 S9 m1
  (try simp only [Act.put, hval, hval2, List.setIfInBounds_toArray, List.set_cons_zero, List.set_cons_succ])
  go_simp
  refine wpFrom_to 12 hB (fun _ _ _ _ _ h => h) (by kernel_rfl) (by simp only [List.cons_append, List.nil_append, List.drop_succ_cons, List.drop_zero, List.take_succ_cons, List.take_zero, Nat.reduceSub]; rfl) ?_
  go_wp2_with fail
  refine wpFrom_end rfl ?_
  clear c1 f1
  go_wp2_with fail
  refine wpFrom_go (by kernel_rfl) (by kernel_rfl) (fun hB w11 hw11 => ?_)
  have A11 := Lib.hid (A10.sees hw11)
  have B11 := Lib.hid (B10.sees hw11)
  have Z11 := Lib.hid (Z10.sees hw11)
  have S11 := Lib.hid (S10.trans hw11)
  clear A10 B10 Z10 S10 hw11
  have hst : segStay (Sees w11) [.is (.pointer (some ⟨w.heap.size, 0, none⟩)), .is (.pointer (some ⟨w.heap.size, 0, none⟩)), .is (.pointer (some ⟨w.heap.size, 0, none⟩)), .is (.pointer (some ⟨w.heap.size, 2, none⟩)), .is (.bool false), .is (.bool false), .is undef, .is undef, .is undef, .is undef, .is undef, .is undef, .is undef, .is undef, .is (.bool false), .is (.pointer (some ⟨w.heap.size, 0, none⟩)), .is (.pointer (some ⟨w.heap.size, 2, none⟩))] := trivial
  refine wpFrom_any 17 _ hB (by kernel_rfl) rfl hst (by simp only [List.cons_append, List.nil_append, List.drop_succ_cons, List.drop_zero, List.take_succ_cons, List.take_zero, Nat.reduceSub]; rfl) ?_
  refine ⟨fun vs W hI hV => .inl ⟨by clear hI hV hst; go_simp, .inl (by clear hI hV hst; (try simp only [Act.put, hval, hval2, List.setIfInBounds_toArray, List.set_cons_zero, List.set_cons_succ]); go_simp)⟩, ?_⟩
  refine ⟨fun vs W hI hV => .inl ⟨by clear hI hV hst; go_simp, .inl (by clear hI hV hst; (try simp only [Act.put, hval, hval2, List.setIfInBounds_toArray, List.set_cons_zero, List.set_cons_succ]); go_simp)⟩, ?_⟩
  refine ⟨fun vs W hI hV => .inl ⟨by clear hI hV hst; go_simp, .inl (by clear hI hV hst; (try simp only [Act.put, hval, hval2, List.setIfInBounds_toArray, List.set_cons_zero, List.set_cons_succ]); go_simp)⟩, ?_⟩
  refine ⟨fun vs W hI hV => .inl ⟨by clear hI hV hst; go_simp, .inl (by clear hI hV hst; (try simp only [Act.put, hval, hval2, List.setIfInBounds_toArray, List.set_cons_zero, List.set_cons_succ]); go_simp)⟩, ?_⟩
  refine ⟨fun vs W hI hV => .inl ⟨by clear hI hV hst; go_simp, .inl (by have q := (A11.out.sees hI).cs.2.2.1; rw [show ({ s with row := z2, col := z3 } : Sv).pend = false from hp] at q; clear hI hV hst; (try simp only [Act.put, hval, hval2, List.setIfInBounds_toArray, List.set_cons_zero, List.set_cons_succ]); go_simp)⟩, ?_⟩
  refine ⟨fun vs W hI hV => .inl ⟨by clear hI hV hst; go_simp, .inl (by clear hI hV hst; (try simp only [Act.put, hval, hval2, List.setIfInBounds_toArray, List.set_cons_zero, List.set_cons_succ]); go_simp)⟩, ?_⟩
  refine ⟨fun vs W hI hV => .inr ⟨by clear hI hV hst; go_simp, rfl⟩, ?_⟩
  refine ⟨fun vs W hI hV => .inr ⟨by clear hI hV hst; go_simp, rfl⟩, ?_⟩
  refine ⟨fun vs W hI hV => .inr ⟨by clear hI hV hst; go_simp, rfl⟩, ?_⟩
  refine ⟨fun vs W hI hV => .inr ⟨by clear hI hV hst; go_simp, rfl⟩, ?_⟩
  refine ⟨fun vs W hI hV => .inr ⟨by clear hI hV hst; go_simp, rfl⟩, ?_⟩
  refine ⟨fun vs W hI hV => .inr ⟨by clear hI hV hst; go_simp, rfl⟩, ?_⟩
  refine ⟨fun vs W hI hV => .inr ⟨by clear hI hV hst; go_simp, rfl⟩, ?_⟩
  refine ⟨fun vs W hI hV => .inr ⟨by clear hI hV hst; go_simp, rfl⟩, ?_⟩
  refine ⟨fun vs W hI hV => .inl ⟨by clear hI hV hst; go_simp, .inl (by clear hI hV hst; (try simp only [Act.put, hval, hval2, List.setIfInBounds_toArray, List.set_cons_zero, List.set_cons_succ]); go_simp)⟩, ?_⟩
  refine ⟨fun vs W hI hV => .inl ⟨by clear hI hV hst; go_simp, .inl (by clear hI hV hst; (try simp only [Act.put, hval, hval2, List.setIfInBounds_toArray, List.set_cons_zero, List.set_cons_succ]); go_simp)⟩, ?_⟩
  refine ⟨fun vs W hI hV => .inl ⟨by clear hI hV hst; go_simp, .inl (by clear hI hV hst; (try simp only [Act.put, hval, hval2, List.setIfInBounds_toArray, List.set_cons_zero, List.set_cons_succ]); go_simp)⟩, ?_⟩
  intro vs w13 hI hV
  have A13 := (A11.out.sees hI).pend false
  have Z13 := (Z11.out.sees hI).off (a := ⟨w.heap.size, 2, none⟩) (by dsimp only; omega) (.bool false)
  have S13 := (S11.out.trans hI).setCell (p := ⟨w.heap.size, 2, none⟩) (Nat.le_refl _) (.bool false)
  have c2 := (A11.out.sees hI).cs.2.2.1
  have f2 := frozen_of_row _ _ 2 _ _ (A11.out.sees hI)
  clear hI hV hst A11 B11 Z11 S11
  (try simp only [Act.put, hval, hval2, List.setIfInBounds_toArray, List.set_cons_zero, List.set_cons_succ])
  go_simp
  refine wpFrom_to 18 hB (fun _ _ _ _ _ h => h) (by kernel_rfl) (by simp only [List.cons_append, List.nil_append, List.drop_succ_cons, List.drop_zero, List.take_succ_cons, List.take_zero, Nat.reduceSub]; rfl) ?_
  go_wp2_with fail
  refine wpFrom_end rfl ?_
  clear c2 f2
  obtain ⟨s', hs'⟩ : ∃ x : Sv, x = { s with row := z2, col := z3, pend := false } := ⟨_, rfl⟩
  have A14 : SvAt _ _ s' := hs' ▸ A13
  have Hs' := Lib.hid hs'
  clear hs' A13
  go_wp2_with (first | (refine wpList_val rfl (exec_load (v := s'.val) rfl rfl (run_loadSv A14)) (fun K hK => ?_); go_simp; refine hK _ _ ?_; clear hK K) | (refine wpList_skip rfl (exec_store (v := s'.val) rfl rfl rfl (run_storeSv Z13 s')) (fun K hK => ?_); go_simp; refine hK _ _ ?_; clear hK K))
  refine bodyPost_ret_by (results_sv (s := s') (v := .int .i64 0) rfl rfl rfl (SvAt.stored Z13 _)) rfl ⟨?_, ?_⟩
  · rw [Hs'.out, Hz3.out, Hz2.out, Hz1.out]
  · exact Sees.setRow S13 (by omega) _
set_option maxHeartbeats 8000000 in
set_option maxRecDepth 100000 in
theorem restore_ftt (s : Sv) (a : Ar) (hv : s.ok = true) (hw : a.right = true) (ho : s.org = false) (hp : s.pend = true) (h4 : (min s.col (a.cols - 1) == a.cols - 1) = true) (w : World) : Calls Tryd.prog 22 #[s.val, a.v] w fun e w' => e = .returned (.tuple #[({ s with row := max 0 (min s.row (a.rows - 1)), col := min s.col (a.cols - 1), pend := true } : Sv).val, .int .i64 0]) ∧ Sees w w' := by
  have KV : Hid (∀ W, Calls Tryd.prog 8 #[s.val] W fun e w' => e = .returned (.bool true) ∧ Sees W w') := fun W => by have := sValid_any s W; rw [show s.ok = true from hv] at this; exact this
  have KR : Hid (∀ W, Calls Tryd.prog 37 #[a.v] W fun e w' => e = .returned (.bool true) ∧ Sees W w') := fun W => by have := right_any a W; rw [show a.right = true from hw] at this; exact this
  obtain ⟨r0, r1, r2, r3, r4, r5, r6⟩ := of_decide_eq_true hw
  go_enter Tryd.func22, Tryd.ntmps22
  go_upto_region 1 with (first
    | (refine wpList_val rfl (exec_box (cs := s.cells) rfl rfl) (fun K hK => ?_); go_simp; refine hK _ _ ?_; clear hK K)
    | (refine wpList_val rfl (exec_box (cs := a.cells) rfl rfl) (fun K hK => ?_); go_simp; refine hK _ _ ?_; clear hK K))
  refine wp_world fun W0 hW0 => ?_
  obtain ⟨A1, B1, Z1, S1⟩ := sar3 w s a W0 hW0
  clear hW0
  go_wp2_with (refine wpList_val rfl (exec_load (v := s.val) rfl rfl (run_loadSv A1)) (fun K hK => ?_); go_simp; refine hK _ _ ?_; clear hK K)
  refine (KV.out _).mono ?_
  rintro e W1 ⟨rfl, t1⟩
  have A2 := A1.sees t1
  have B2 := B1.sees t1
  have Z2 := Z1.sees t1
  have S2 := S1.trans t1
  clear A1 B1 Z1 S1 t1
  obtain ⟨d0, d1, d2, d3, d4⟩ := B2.cs
  go_wp2_with fail
  refine (KR.out _).mono ?_
  rintro e W2 ⟨rfl, t2⟩
  have A3 := A2.sees t2
  have B3 := B2.sees t2
  have Z3 := Z2.sees t2
  have S3 := S2.trans t2
  clear A2 B2 Z2 S2 t2 d0 d1 d2 d3 d4
  obtain ⟨d0, d1, d2, d3, d4⟩ := B3.cs
  go_upto_region 4 with fail
  refine wp_world fun W4 hW4 => ?_
  have u1 := (Sees.refl W2).alloc (.cells #[.int .i64 0, .int .i64 (a.rows - 1)] 37)
  have R4 : W4.heap[W2.heap.size]? = some (.cells #[.int .i64 0, .int .i64 (a.rows - 1)] 37 (0, 0)) := by rw [hW4]; exact heap_alloc_new W2 _
  rw [← hW4] at u1
  have A4 := A3.sees u1
  have B4 := B3.sees u1
  have Z4 := Z3.sees u1
  have S4 := S3.trans u1
  have lt4 : w.heap.size + 1 + 1 < W2.heap.size := (Array.getElem?_eq_some_iff.1 Z3).1
  clear d0 d1 d2 d3 d4 u1 hW4
  have c14 : W4.cell? ⟨w.heap.size, 14, none⟩ = some (.bool false) := by rw [← ho]; exact A4.cs.2.2.2.2.2.2.2.2.2.2.2.2.2.2.1
  obtain ⟨d0, d1, d2, d3, d4⟩ := B4.cs
  have f4 : ∀ i, W4.frozen? ⟨W2.heap.size, i, none⟩ = false := fun i => frozen_of_row _ _ i _ _ R4
  have e0 := Go.cell_of_row _ _ 0 _ _ _ R4
  have e1 := Go.cell_of_row _ _ 1 _ _ _ R4
  go_upto_region 6 with fail
  have R6 := R4
  have A6 := A4
  have Z6 := Z4
  have B6 := B4
  have S6 := S4
  have W6 := W4
  clear R4 A4 Z4 B4 S4 e0 e1 c14 d0 d1 d2 d3 d4 f4
  have e0 := Go.cell_of_row _ _ 0 _ _ _ R6
  have e1 := Go.cell_of_row _ _ 1 _ _ _ R6
  have c0 := A6.cs.1
  have f0 := fun i => frozen_of_row _ _ i _ _ A6
  go_upto_region 8 with fail
  refine wp_world fun W7 hW7 => ?_
  subst hW7
  refine wpFrom_go (by kernel_rfl) (by kernel_rfl) (fun hB w7 hw7 => ?_)
  have A7 := Lib.hid (A6.sees hw7)
  have B7 := Lib.hid (B6.sees hw7)
  have R7 := Lib.hid (hw7.block' R6)
  have Z7 := Lib.hid (Z6.sees hw7)
  have S7 := Lib.hid (S6.trans hw7)
  clear A6 B6 R6 Z6 S6 hw7 e0 e1 c0 f0
  have hval : ∀ x v, (Spec.is x).val v = x := fun _ _ => rfl
  have hval2 : ∀ V v, (Spec.so V).val v = v := fun _ _ => rfl
  obtain ⟨z1, hz1⟩ : ∃ z, z = min s.row (a.rows - 1) := ⟨_, rfl⟩
  obtain ⟨z2, hz2⟩ : ∃ z, z = max 0 z1 := ⟨_, rfl⟩
  have m1 : (if (a.rows - 1) < s.row then (a.rows - 1) else s.row) = z1 := by rw [hz1]; split <;> omega
  have m2 : (if 0 < z1 then z1 else 0) = z2 := by rw [hz2]; split <;> omega
  have Hz1 := Lib.hid hz1
  have Hz2 := Lib.hid hz2
  clear hz1 hz2
  have hst : segStay (Sees w7) [.is (.pointer (some ⟨w.heap.size, 0, none⟩)), .is (.pointer (some ⟨W2.heap.size, 0, none⟩)), .is (.int .i64 0), .is (.pointer (some ⟨w.heap.size, 0, none⟩)), .is (.pointer (some ⟨w.heap.size, 0, none⟩)), .is (.pointer (some ⟨w.heap.size, 0, none⟩)), .is (.int .i64 s.row), .is (.pointer (some ⟨W2.heap.size, 1, none⟩)), .is (.int .i64 (a.rows - 1)), .is (.int .i64 z1), .is (.int .i64 z2), .is (.pointer (some ⟨w.heap.size, 0, none⟩)), .is (.pointer (some ⟨w.heap.size, 0, none⟩))] := trivial
  refine wpFrom_any 13 _ hB (by kernel_rfl) rfl hst (by simp only [List.cons_append, List.nil_append, List.drop_succ_cons, List.drop_zero, List.take_succ_cons, List.take_zero, Nat.reduceSub]; rfl) ?_
  refine ⟨fun vs W hI hV => .inl ⟨by clear hI hV hst; go_simp, .inl (by clear hI hV hst; (try simp only [Act.put, hval, hval2, List.setIfInBounds_toArray, List.set_cons_zero, List.set_cons_succ]); go_simp)⟩, ?_⟩
  refine ⟨fun vs W hI hV => .inl ⟨by clear hI hV hst; go_simp, .inl (by clear hI hV hst; (try simp only [Act.put, hval, hval2, List.setIfInBounds_toArray, List.set_cons_zero, List.set_cons_succ]); go_simp)⟩, ?_⟩
  refine ⟨fun vs W hI hV => .inl ⟨by clear hI hV hst; go_simp, .inl (by have q := Go.cell_of_row _ _ 0 _ _ _ (hI.block' R7.out); clear hI hV hst; (try simp only [Act.put, hval, hval2, List.setIfInBounds_toArray, List.set_cons_zero, List.set_cons_succ]); go_simp)⟩, ?_⟩
  refine ⟨fun vs W hI hV => .inl ⟨by clear hI hV hst; go_simp, .inl (by clear hI hV hst; (try simp only [Act.put, hval, hval2, List.setIfInBounds_toArray, List.set_cons_zero, List.set_cons_succ]); go_simp)⟩, ?_⟩
  refine ⟨fun vs W hI hV => .inl ⟨by clear hI hV hst; go_simp, .inl (by clear hI hV hst; (try simp only [Act.put, hval, hval2, List.setIfInBounds_toArray, List.set_cons_zero, List.set_cons_succ]); go_simp)⟩, ?_⟩
  refine ⟨fun vs W hI hV => .inl ⟨by clear hI hV hst; go_simp, .inl (by clear hI hV hst; (try simp only [Act.put, hval, hval2, List.setIfInBounds_toArray, List.set_cons_zero, List.set_cons_succ]); go_simp)⟩, ?_⟩
  refine ⟨fun vs W hI hV => .inl ⟨by clear hI hV hst; go_simp, .inl (by have q := (A7.out.sees hI).cs.1; clear hI hV hst; (try simp only [Act.put, hval, hval2, List.setIfInBounds_toArray, List.set_cons_zero, List.set_cons_succ]); go_simp)⟩, ?_⟩
  refine ⟨fun vs W hI hV => .inl ⟨by clear hI hV hst; go_simp, .inl (by clear hI hV hst; (try simp only [Act.put, hval, hval2, List.setIfInBounds_toArray, List.set_cons_zero, List.set_cons_succ]); go_simp)⟩, ?_⟩
  refine ⟨fun vs W hI hV => .inl ⟨by clear hI hV hst; go_simp, .inl (by have q := Go.cell_of_row _ _ 1 _ _ _ (hI.block' R7.out); clear hI hV hst; (try simp only [Act.put, hval, hval2, List.setIfInBounds_toArray, List.set_cons_zero, List.set_cons_succ]); go_simp)⟩, ?_⟩
  refine ⟨fun vs W hI hV => .inl ⟨by clear hI hV hst; go_simp, .inl (by clear hI hV hst; (try simp only [Act.put, hval, hval2, List.setIfInBounds_toArray, List.set_cons_zero, List.set_cons_succ]); go_simp)⟩, ?_⟩
  refine ⟨fun vs W hI hV => .inl ⟨by clear hI hV hst; go_simp, .inl (by clear hI hV hst; (try simp only [Act.put, hval, hval2, List.setIfInBounds_toArray, List.set_cons_zero, List.set_cons_succ]); go_simp)⟩, ?_⟩
  refine ⟨fun vs W hI hV => .inl ⟨by clear hI hV hst; go_simp, .inl (by clear hI hV hst; (try simp only [Act.put, hval, hval2, List.setIfInBounds_toArray, List.set_cons_zero, List.set_cons_succ]); go_simp)⟩, ?_⟩
  refine ⟨fun vs W hI hV => .inl ⟨by clear hI hV hst; go_simp, .inl (by clear hI hV hst; (try simp only [Act.put, hval, hval2, List.setIfInBounds_toArray, List.set_cons_zero, List.set_cons_succ]); go_simp)⟩, ?_⟩
  intro vs w8 hI hV
  have A8 := (A7.out.sees hI).row z2
  have B8 := (B7.out.sees hI).off (a := ⟨w.heap.size, 0, none⟩) (by dsimp only; omega) (.int .i64 z2)
  have Z8 := (Z7.out.sees hI).off (a := ⟨w.heap.size, 0, none⟩) (by dsimp only; omega) (.int .i64 z2)
  have S8 := (S7.out.trans hI).setCell (p := ⟨w.heap.size, 0, none⟩) (Nat.le_refl _) (.int .i64 z2)
  have c0 := (A7.out.sees hI).cs.1
  have f0 := frozen_of_row _ _ 0 _ _ (A7.out.sees hI)
  clear hI hV hst A7 B7 R7 Z7 S7 m1 m2
  (try simp only [Act.put, hval, hval2, List.setIfInBounds_toArray, List.set_cons_zero, List.set_cons_succ])
  go_simp
  refine wpFrom_to 14 hB (fun _ _ _ _ _ h => h) (by kernel_rfl) (by simp only [List.cons_append, List.nil_append, List.drop_succ_cons, List.drop_zero, List.take_succ_cons, List.take_zero, Nat.reduceSub]; rfl) ?_
  go_wp2_with fail
  refine wpFrom_end rfl ?_
  clear c0 f0
  go_wp2_with fail
  refine wpFrom_go (by kernel_rfl) (by kernel_rfl) (fun hB w9 hw9 => ?_)
  have A9 := Lib.hid (A8.sees hw9)
  have B9 := Lib.hid (B8.sees hw9)
  have Z9 := Lib.hid (Z8.sees hw9)
  have S9 := Lib.hid (S8.trans hw9)
  clear A8 B8 Z8 S8 hw9
  obtain ⟨z3, hz3⟩ : ∃ z, z = min s.col (a.cols - 1) := ⟨_, rfl⟩
  have m1 : (if a.cols - 1 < s.col then a.cols - 1 else s.col) = z3 := by rw [hz3]; split <;> omega
  have Hz3 := Lib.hid hz3
  have wr : IntKind.i64.wrap (a.cols - 1) = a.cols - 1 := by rw [IntKind.wrap_i64]; omega
  clear hz3
  have hst : segStay (Sees w9) [.is (.pointer (some ⟨w.heap.size, 0, none⟩)), .is (.pointer (some ⟨w.heap.size, 0, none⟩)), .is (.pointer (some ⟨w.heap.size, 0, none⟩)), .is (.pointer (some ⟨w.heap.size, 1, none⟩)), .is (.int .i64 s.col), .is (.pointer (some ⟨w.heap.size + 1, 1, none⟩)), .is (.int .i64 a.cols), .is (.int .i64 (a.cols - 1)), .is (.int .i64 z3), .is (.pointer (some ⟨w.heap.size, 0, none⟩)), .is (.pointer (some ⟨w.heap.size, 1, none⟩))] := trivial
  refine wpFrom_any 11 _ hB (by kernel_rfl) rfl hst (by simp only [List.cons_append, List.nil_append, List.drop_succ_cons, List.drop_zero, List.take_succ_cons, List.take_zero, Nat.reduceSub]; rfl) ?_
  refine ⟨fun vs W hI hV => .inl ⟨by clear hI hV hst; go_simp, .inl (by clear hI hV hst; (try simp only [Act.put, hval, hval2, List.setIfInBounds_toArray, List.set_cons_zero, List.set_cons_succ]); go_simp)⟩, ?_⟩
  refine ⟨fun vs W hI hV => .inl ⟨by clear hI hV hst; go_simp, .inl (by clear hI hV hst; (try simp only [Act.put, hval, hval2, List.setIfInBounds_toArray, List.set_cons_zero, List.set_cons_succ]); go_simp)⟩, ?_⟩
  refine ⟨fun vs W hI hV => .inl ⟨by clear hI hV hst; go_simp, .inl (by clear hI hV hst; (try simp only [Act.put, hval, hval2, List.setIfInBounds_toArray, List.set_cons_zero, List.set_cons_succ]); go_simp)⟩, ?_⟩
  refine ⟨fun vs W hI hV => .inl ⟨by clear hI hV hst; go_simp, .inl (by clear hI hV hst; (try simp only [Act.put, hval, hval2, List.setIfInBounds_toArray, List.set_cons_zero, List.set_cons_succ]); go_simp)⟩, ?_⟩
  refine ⟨fun vs W hI hV => .inl ⟨by clear hI hV hst; go_simp, .inl (by have q := (A9.out.sees hI).cs.2.1; clear hI hV hst; (try simp only [Act.put, hval, hval2, List.setIfInBounds_toArray, List.set_cons_zero, List.set_cons_succ]); go_simp)⟩, ?_⟩
  refine ⟨fun vs W hI hV => .inl ⟨by clear hI hV hst; go_simp, .inl (by clear hI hV hst; (try simp only [Act.put, hval, hval2, List.setIfInBounds_toArray, List.set_cons_zero, List.set_cons_succ]); go_simp)⟩, ?_⟩
  refine ⟨fun vs W hI hV => .inl ⟨by clear hI hV hst; go_simp, .inl (by have q := (B9.out.sees hI).cs.2.1; clear hI hV hst; (try simp only [Act.put, hval, hval2, List.setIfInBounds_toArray, List.set_cons_zero, List.set_cons_succ]); go_simp)⟩, ?_⟩
  refine ⟨fun vs W hI hV => .inl ⟨by clear hI hV hst; go_simp, .inl (by clear hI hV hst; (try simp only [Act.put, hval, hval2, List.setIfInBounds_toArray, List.set_cons_zero, List.set_cons_succ]); go_simp)⟩, ?_⟩
  refine ⟨fun vs W hI hV => .inl ⟨by clear hI hV hst; go_simp, .inl (by clear hI hV hst; (try simp only [Act.put, hval, hval2, List.setIfInBounds_toArray, List.set_cons_zero, List.set_cons_succ]); go_simp)⟩, ?_⟩
  refine ⟨fun vs W hI hV => .inl ⟨by clear hI hV hst; go_simp, .inl (by clear hI hV hst; (try simp only [Act.put, hval, hval2, List.setIfInBounds_toArray, List.set_cons_zero, List.set_cons_succ]); go_simp)⟩, ?_⟩
  refine ⟨fun vs W hI hV => .inl ⟨by clear hI hV hst; go_simp, .inl (by clear hI hV hst; (try simp only [Act.put, hval, hval2, List.setIfInBounds_toArray, List.set_cons_zero, List.set_cons_succ]); go_simp)⟩, ?_⟩
  intro vs w10 hI hV
  have A10 := (A9.out.sees hI).col z3
  have B10 := (B9.out.sees hI).off (a := ⟨w.heap.size, 1, none⟩) (by dsimp only; omega) (.int .i64 z3)
  have Z10 := (Z9.out.sees hI).off (a := ⟨w.heap.size, 1, none⟩) (by dsimp only; omega) (.int .i64 z3)
  have S10 := (S9.out.trans hI).setCell (p := ⟨w.heap.size, 1, none⟩) (Nat.le_refl _) (.int .i64 z3)
  have c1 := (A9.out.sees hI).cs.2.1
  have f1 := frozen_of_row _ _ 1 _ _ (A9.out.sees hI)
  clear hI hV hst A9 B9 Z9 S9 m1
  (try simp only [Act.put, hval, hval2, List.setIfInBounds_toArray, List.set_cons_zero, List.set_cons_succ])
  go_simp
  refine wpFrom_to 12 hB (fun _ _ _ _ _ h => h) (by kernel_rfl) (by simp only [List.cons_append, List.nil_append, List.drop_succ_cons, List.drop_zero, List.take_succ_cons, List.take_zero, Nat.reduceSub]; rfl) ?_
  go_wp2_with fail
  refine wpFrom_end rfl ?_
  clear c1 f1
  go_wp2_with fail
  refine wpFrom_go (by kernel_rfl) (by kernel_rfl) (fun hB w11 hw11 => ?_)
  have A11 := Lib.hid (A10.sees hw11)
  have B11 := Lib.hid (B10.sees hw11)
  have Z11 := Lib.hid (Z10.sees hw11)
  have S11 := Lib.hid (S10.trans hw11)
  clear A10 B10 Z10 S10 hw11
  rw [← Hz3.out] at h4
  have hst : segStay (Sees w11) [.is (.pointer (some ⟨w.heap.size, 0, none⟩)), .is (.pointer (some ⟨w.heap.size, 0, none⟩)), .is (.pointer (some ⟨w.heap.size, 0, none⟩)), .is (.pointer (some ⟨w.heap.size, 2, none⟩)), .is (.bool true), .is (.bool true), .is (.pointer (some ⟨w.heap.size, 0, none⟩)), .is (.pointer (some ⟨w.heap.size, 0, none⟩)), .is (.pointer (some ⟨w.heap.size, 1, none⟩)), .is (.int .i64 z3), .is (.pointer (some ⟨w.heap.size + 1, 1, none⟩)), .is (.int .i64 a.cols), .is (.int .i64 (a.cols - 1)), .is (.bool true), .is (.bool true), .is (.pointer (some ⟨w.heap.size, 0, none⟩)), .is (.pointer (some ⟨w.heap.size, 2, none⟩))] := trivial
  refine wpFrom_any 17 _ hB (by kernel_rfl) rfl hst (by simp only [List.cons_append, List.nil_append, List.drop_succ_cons, List.drop_zero, List.take_succ_cons, List.take_zero, Nat.reduceSub]; rfl) ?_
  refine ⟨fun vs W hI hV => .inl ⟨by clear hI hV hst; go_simp, .inl (by clear hI hV hst; (try simp only [Act.put, hval, hval2, List.setIfInBounds_toArray, List.set_cons_zero, List.set_cons_succ]); go_simp)⟩, ?_⟩
  refine ⟨fun vs W hI hV => .inl ⟨by clear hI hV hst; go_simp, .inl (by clear hI hV hst; (try simp only [Act.put, hval, hval2, List.setIfInBounds_toArray, List.set_cons_zero, List.set_cons_succ]); go_simp)⟩, ?_⟩
  refine ⟨fun vs W hI hV => .inl ⟨by clear hI hV hst; go_simp, .inl (by clear hI hV hst; (try simp only [Act.put, hval, hval2, List.setIfInBounds_toArray, List.set_cons_zero, List.set_cons_succ]); go_simp)⟩, ?_⟩
  refine ⟨fun vs W hI hV => .inl ⟨by clear hI hV hst; go_simp, .inl (by clear hI hV hst; (try simp only [Act.put, hval, hval2, List.setIfInBounds_toArray, List.set_cons_zero, List.set_cons_succ]); go_simp)⟩, ?_⟩
  refine ⟨fun vs W hI hV => .inl ⟨by clear hI hV hst; go_simp, .inl (by have q := (A11.out.sees hI).cs.2.2.1; rw [show ({ s with row := z2, col := z3 } : Sv).pend = true from hp] at q; clear hI hV hst; (try simp only [Act.put, hval, hval2, List.setIfInBounds_toArray, List.set_cons_zero, List.set_cons_succ]); go_simp)⟩, ?_⟩
  refine ⟨fun vs W hI hV => .inl ⟨by clear hI hV hst; go_simp, .inl (by clear hI hV hst; (try simp only [Act.put, hval, hval2, List.setIfInBounds_toArray, List.set_cons_zero, List.set_cons_succ]); go_simp)⟩, ?_⟩
  refine ⟨fun vs W hI hV => .inl ⟨by clear hI hV hst; go_simp, .inl (by clear hI hV hst; (try simp only [Act.put, hval, hval2, List.setIfInBounds_toArray, List.set_cons_zero, List.set_cons_succ]); go_simp)⟩, ?_⟩
  refine ⟨fun vs W hI hV => .inl ⟨by clear hI hV hst; go_simp, .inl (by clear hI hV hst; (try simp only [Act.put, hval, hval2, List.setIfInBounds_toArray, List.set_cons_zero, List.set_cons_succ]); go_simp)⟩, ?_⟩
  refine ⟨fun vs W hI hV => .inl ⟨by clear hI hV hst; go_simp, .inl (by clear hI hV hst; (try simp only [Act.put, hval, hval2, List.setIfInBounds_toArray, List.set_cons_zero, List.set_cons_succ]); go_simp)⟩, ?_⟩
  refine ⟨fun vs W hI hV => .inl ⟨by clear hI hV hst; go_simp, .inl (by have q := (A11.out.sees hI).cs.2.1; clear hI hV hst; (try simp only [Act.put, hval, hval2, List.setIfInBounds_toArray, List.set_cons_zero, List.set_cons_succ]); go_simp)⟩, ?_⟩
  refine ⟨fun vs W hI hV => .inl ⟨by clear hI hV hst; go_simp, .inl (by clear hI hV hst; (try simp only [Act.put, hval, hval2, List.setIfInBounds_toArray, List.set_cons_zero, List.set_cons_succ]); go_simp)⟩, ?_⟩
  refine ⟨fun vs W hI hV => .inl ⟨by clear hI hV hst; go_simp, .inl (by have q := (B11.out.sees hI).cs.2.1; clear hI hV hst; (try simp only [Act.put, hval, hval2, List.setIfInBounds_toArray, List.set_cons_zero, List.set_cons_succ]); go_simp)⟩, ?_⟩
  refine ⟨fun vs W hI hV => .inl ⟨by clear hI hV hst; go_simp, .inl (by clear hI hV hst; (try simp only [Act.put, hval, hval2, List.setIfInBounds_toArray, List.set_cons_zero, List.set_cons_succ]); go_simp)⟩, ?_⟩
  refine ⟨fun vs W hI hV => .inl ⟨by clear hI hV hst; go_simp, .inl (by clear hI hV hst; (try simp only [Act.put, hval, hval2, List.setIfInBounds_toArray, List.set_cons_zero, List.set_cons_succ]); go_simp)⟩, ?_⟩
  refine ⟨fun vs W hI hV => .inl ⟨by clear hI hV hst; go_simp, .inl (by clear hI hV hst; (try simp only [Act.put, hval, hval2, List.setIfInBounds_toArray, List.set_cons_zero, List.set_cons_succ]); go_simp)⟩, ?_⟩
  refine ⟨fun vs W hI hV => .inl ⟨by clear hI hV hst; go_simp, .inl (by clear hI hV hst; (try simp only [Act.put, hval, hval2, List.setIfInBounds_toArray, List.set_cons_zero, List.set_cons_succ]); go_simp)⟩, ?_⟩
  refine ⟨fun vs W hI hV => .inl ⟨by clear hI hV hst; go_simp, .inl (by clear hI hV hst; (try simp only [Act.put, hval, hval2, List.setIfInBounds_toArray, List.set_cons_zero, List.set_cons_succ]); go_simp)⟩, ?_⟩
  intro vs w13 hI hV
  have A13 := (A11.out.sees hI).pend true
  have Z13 := (Z11.out.sees hI).off (a := ⟨w.heap.size, 2, none⟩) (by dsimp only; omega) (.bool true)
  have S13 := (S11.out.trans hI).setCell (p := ⟨w.heap.size, 2, none⟩) (Nat.le_refl _) (.bool true)
  have c2 := (A11.out.sees hI).cs.2.2.1
  have f2 := frozen_of_row _ _ 2 _ _ (A11.out.sees hI)
  clear hI hV hst A11 B11 Z11 S11
  (try simp only [Act.put, hval, hval2, List.setIfInBounds_toArray, List.set_cons_zero, List.set_cons_succ])
  go_simp
  refine wpFrom_to 18 hB (fun _ _ _ _ _ h => h) (by kernel_rfl) (by simp only [List.cons_append, List.nil_append, List.drop_succ_cons, List.drop_zero, List.take_succ_cons, List.take_zero, Nat.reduceSub]; rfl) ?_
  go_wp2_with fail
  refine wpFrom_end rfl ?_
  clear c2 f2
  obtain ⟨s', hs'⟩ : ∃ x : Sv, x = { s with row := z2, col := z3, pend := true } := ⟨_, rfl⟩
  have A14 : SvAt _ _ s' := hs' ▸ A13
  have Hs' := Lib.hid hs'
  clear hs' A13
  go_wp2_with (first | (refine wpList_val rfl (exec_load (v := s'.val) rfl rfl (run_loadSv A14)) (fun K hK => ?_); go_simp; refine hK _ _ ?_; clear hK K) | (refine wpList_skip rfl (exec_store (v := s'.val) rfl rfl rfl (run_storeSv Z13 s')) (fun K hK => ?_); go_simp; refine hK _ _ ?_; clear hK K))
  refine bodyPost_ret_by (results_sv (s := s') (v := .int .i64 0) rfl rfl rfl (SvAt.stored Z13 _)) rfl ⟨?_, ?_⟩
  · rw [Hs'.out, Hz3.out, Hz2.out, Hz1.out]
  · exact Sees.setRow S13 (by omega) _
set_option maxHeartbeats 8000000 in
set_option maxRecDepth 100000 in
theorem restore_ftf (s : Sv) (a : Ar) (hv : s.ok = true) (hw : a.right = true) (ho : s.org = false) (hp : s.pend = true) (h4 : (min s.col (a.cols - 1) == a.cols - 1) = false) (w : World) : Calls Tryd.prog 22 #[s.val, a.v] w fun e w' => e = .returned (.tuple #[({ s with row := max 0 (min s.row (a.rows - 1)), col := min s.col (a.cols - 1), pend := false } : Sv).val, .int .i64 0]) ∧ Sees w w' := by
  have KV : Hid (∀ W, Calls Tryd.prog 8 #[s.val] W fun e w' => e = .returned (.bool true) ∧ Sees W w') := fun W => by have := sValid_any s W; rw [show s.ok = true from hv] at this; exact this
  have KR : Hid (∀ W, Calls Tryd.prog 37 #[a.v] W fun e w' => e = .returned (.bool true) ∧ Sees W w') := fun W => by have := right_any a W; rw [show a.right = true from hw] at this; exact this
  obtain ⟨r0, r1, r2, r3, r4, r5, r6⟩ := of_decide_eq_true hw
  go_enter Tryd.func22, Tryd.ntmps22
  go_upto_region 1 with (first
    | (refine wpList_val rfl (exec_box (cs := s.cells) rfl rfl) (fun K hK => ?_); go_simp; refine hK _ _ ?_; clear hK K)
    | (refine wpList_val rfl (exec_box (cs := a.cells) rfl rfl) (fun K hK => ?_); go_simp; refine hK _ _ ?_; clear hK K))
  refine wp_world fun W0 hW0 => ?_
  obtain ⟨A1, B1, Z1, S1⟩ := sar3 w s a W0 hW0
  clear hW0
  go_wp2_with (refine wpList_val rfl (exec_load (v := s.val) rfl rfl (run_loadSv A1)) (fun K hK => ?_); go_simp; refine hK _ _ ?_; clear hK K)
  refine (KV.out _).mono ?_
  rintro e W1 ⟨rfl, t1⟩
  have A2 := A1.sees t1
  have B2 := B1.sees t1
  have Z2 := Z1.sees t1
  have S2 := S1.trans t1
  clear A1 B1 Z1 S1 t1
  obtain ⟨d0, d1, d2, d3, d4⟩ := B2.cs
  go_wp2_with fail
  refine (KR.out _).mono ?_
  rintro e W2 ⟨rfl, t2⟩
  have A3 := A2.sees t2
  have B3 := B2.sees t2
  have Z3 := Z2.sees t2
  have S3 := S2.trans t2
  clear A2 B2 Z2 S2 t2 d0 d1 d2 d3 d4
  obtain ⟨d0, d1, d2, d3, d4⟩ := B3.cs
  go_upto_region 4 with fail
  refine wp_world fun W4 hW4 => ?_
  have u1 := (Sees.refl W2).alloc (.cells #[.int .i64 0, .int .i64 (a.rows - 1)] 37)
  have R4 : W4.heap[W2.heap.size]? = some (.cells #[.int .i64 0, .int .i64 (a.rows - 1)] 37 (0, 0)) := by rw [hW4]; exact heap_alloc_new W2 _
  rw [← hW4] at u1
  have A4 := A3.sees u1
  have B4 := B3.sees u1
  have Z4 := Z3.sees u1
  have S4 := S3.trans u1
  have lt4 : w.heap.size + 1 + 1 < W2.heap.size := (Array.getElem?_eq_some_iff.1 Z3).1
  clear d0 d1 d2 d3 d4 u1 hW4
  have c14 : W4.cell? ⟨w.heap.size, 14, none⟩ = some (.bool false) := by rw [← ho]; exact A4.cs.2.2.2.2.2.2.2.2.2.2.2.2.2.2.1
  obtain ⟨d0, d1, d2, d3, d4⟩ := B4.cs
  have f4 : ∀ i, W4.frozen? ⟨W2.heap.size, i, none⟩ = false := fun i => frozen_of_row _ _ i _ _ R4
  have e0 := Go.cell_of_row _ _ 0 _ _ _ R4
  have e1 := Go.cell_of_row _ _ 1 _ _ _ R4
  go_upto_region 6 with fail
  have R6 := R4
  have A6 := A4
  have Z6 := Z4
  have B6 := B4
  have S6 := S4
  have W6 := W4
  clear R4 A4 Z4 B4 S4 e0 e1 c14 d0 d1 d2 d3 d4 f4
  have e0 := Go.cell_of_row _ _ 0 _ _ _ R6
  have e1 := Go.cell_of_row _ _ 1 _ _ _ R6
  have c0 := A6.cs.1
  have f0 := fun i => frozen_of_row _ _ i _ _ A6
  go_upto_region 8 with fail
  refine wp_world fun W7 hW7 => ?_
  subst hW7
  refine wpFrom_go (by kernel_rfl) (by kernel_rfl) (fun hB w7 hw7 => ?_)
  have A7 := Lib.hid (A6.sees hw7)
  have B7 := Lib.hid (B6.sees hw7)
  have R7 := Lib.hid (hw7.block' R6)
  have Z7 := Lib.hid (Z6.sees hw7)
  have S7 := Lib.hid (S6.trans hw7)
  clear A6 B6 R6 Z6 S6 hw7 e0 e1 c0 f0
  have hval : ∀ x v, (Spec.is x).val v = x := fun _ _ => rfl
  have hval2 : ∀ V v, (Spec.so V).val v = v := fun _ _ => rfl
  obtain ⟨z1, hz1⟩ : ∃ z, z = min s.row (a.rows - 1) := ⟨_, rfl⟩
  obtain ⟨z2, hz2⟩ : ∃ z, z = max 0 z1 := ⟨_, rfl⟩
  have m1 : (if (a.rows - 1) < s.row then (a.rows - 1) else s.row) = z1 := by rw [hz1]; split <;> omega
  have m2 : (if 0 < z1 then z1 else 0) = z2 := by rw [hz2]; split <;> omega
  have Hz1 := Lib.hid hz1
  have Hz2 := Lib.hid hz2
  clear hz1 hz2
  have hst : segStay (Sees w7) [.is (.pointer (some ⟨w.heap.size, 0, none⟩)), .is (.pointer (some ⟨W2.heap.size, 0, none⟩)), .is (.int .i64 0), .is (.pointer (some ⟨w.heap.size, 0, none⟩)), .is (.pointer (some ⟨w.heap.size, 0, none⟩)), .is (.pointer (some ⟨w.heap.size, 0, none⟩)), .is (.int .i64 s.row), .is (.pointer (some ⟨W2.heap.size, 1, none⟩)), .is (.int .i64 (a.rows - 1)), .is (.int .i64 z1), .is (.int .i64 z2), .is (.pointer (some ⟨w.heap.size, 0, none⟩)), .is (.pointer (some ⟨w.heap.size, 0, none⟩))] := trivial
  refine wpFrom_any 13 _ hB (by kernel_rfl) rfl hst (by simp only [List.cons_append, List.nil_append, List.drop_succ_cons, List.drop_zero, List.take_succ_cons, List.take_zero, Nat.reduceSub]; rfl) ?_
  refine ⟨fun vs W hI hV => .inl ⟨by clear hI hV hst; go_simp, .inl (by clear hI hV hst; (try simp only [Act.put, hval, hval2, List.setIfInBounds_toArray, List.set_cons_zero, List.set_cons_succ]); go_simp)⟩, ?_⟩
  refine ⟨fun vs W hI hV => .inl ⟨by clear hI hV hst; go_simp, .inl (by clear hI hV hst; (try simp only [Act.put, hval, hval2, List.setIfInBounds_toArray, List.set_cons_zero, List.set_cons_succ]); go_simp)⟩, ?_⟩
  refine ⟨fun vs W hI hV => .inl ⟨by clear hI hV hst; go_simp, .inl (by have q := Go.cell_of_row _ _ 0 _ _ _ (hI.block' R7.out); clear hI hV hst; (try simp only [Act.put, hval, hval2, List.setIfInBounds_toArray, List.set_cons_zero, List.set_cons_succ]); go_simp)⟩, ?_⟩
  refine ⟨fun vs W hI hV => .inl ⟨by clear hI hV hst; go_simp, .inl (by clear hI hV hst; (try simp only [Act.put, hval, hval2, List.setIfInBounds_toArray, List.set_cons_zero, List.set_cons_succ]); go_simp)⟩, ?_⟩
  refine ⟨fun vs W hI hV => .inl ⟨by clear hI hV hst; go_simp, .inl (by clear hI hV hst; (try simp only [Act.put, hval, hval2, List.setIfInBounds_toArray, List.set_cons_zero, List.set_cons_succ]); go_simp)⟩, ?_⟩
  refine ⟨fun vs W hI hV => .inl ⟨by clear hI hV hst; go_simp, .inl (by clear hI hV hst; (try simp only [Act.put, hval, hval2, List.setIfInBounds_toArray, List.set_cons_zero, List.set_cons_succ]); go_simp)⟩, ?_⟩
  refine ⟨fun vs W hI hV => .inl ⟨by clear hI hV hst; go_simp, .inl (by have q := (A7.out.sees hI).cs.1; clear hI hV hst; (try simp only [Act.put, hval, hval2, List.setIfInBounds_toArray, List.set_cons_zero, List.set_cons_succ]); go_simp)⟩, ?_⟩
  refine ⟨fun vs W hI hV => .inl ⟨by clear hI hV hst; go_simp, .inl (by clear hI hV hst; (try simp only [Act.put, hval, hval2, List.setIfInBounds_toArray, List.set_cons_zero, List.set_cons_succ]); go_simp)⟩, ?_⟩
  refine ⟨fun vs W hI hV => .inl ⟨by clear hI hV hst; go_simp, .inl (by have q := Go.cell_of_row _ _ 1 _ _ _ (hI.block' R7.out); clear hI hV hst; (try simp only [Act.put, hval, hval2, List.setIfInBounds_toArray, List.set_cons_zero, List.set_cons_succ]); go_simp)⟩, ?_⟩
  refine ⟨fun vs W hI hV => .inl ⟨by clear hI hV hst; go_simp, .inl (by clear hI hV hst; (try simp only [Act.put, hval, hval2, List.setIfInBounds_toArray, List.set_cons_zero, List.set_cons_succ]); go_simp)⟩, ?_⟩
  refine ⟨fun vs W hI hV => .inl ⟨by clear hI hV hst; go_simp, .inl (by clear hI hV hst; (try simp only [Act.put, hval, hval2, List.setIfInBounds_toArray, List.set_cons_zero, List.set_cons_succ]); go_simp)⟩, ?_⟩
  refine ⟨fun vs W hI hV => .inl ⟨by clear hI hV hst; go_simp, .inl (by clear hI hV hst; (try simp only [Act.put, hval, hval2, List.setIfInBounds_toArray, List.set_cons_zero, List.set_cons_succ]); go_simp)⟩, ?_⟩
  refine ⟨fun vs W hI hV => .inl ⟨by clear hI hV hst; go_simp, .inl (by clear hI hV hst; (try simp only [Act.put, hval, hval2, List.setIfInBounds_toArray, List.set_cons_zero, List.set_cons_succ]); go_simp)⟩, ?_⟩
  intro vs w8 hI hV
  have A8 := (A7.out.sees hI).row z2
  have B8 := (B7.out.sees hI).off (a := ⟨w.heap.size, 0, none⟩) (by dsimp only; omega) (.int .i64 z2)
  have Z8 := (Z7.out.sees hI).off (a := ⟨w.heap.size, 0, none⟩) (by dsimp only; omega) (.int .i64 z2)
  have S8 := (S7.out.trans hI).setCell (p := ⟨w.heap.size, 0, none⟩) (Nat.le_refl _) (.int .i64 z2)
  have c0 := (A7.out.sees hI).cs.1
  have f0 := frozen_of_row _ _ 0 _ _ (A7.out.sees hI)
  clear hI hV hst A7 B7 R7 Z7 S7 m1 m2
  (try simp only [Act.put, hval, hval2, List.setIfInBounds_toArray, List.set_cons_zero, List.set_cons_succ])
  go_simp
  refine wpFrom_to 14 hB (fun _ _ _ _ _ h => h) (by kernel_rfl) (by simp only [List.cons_append, List.nil_append, List.drop_succ_cons, List.drop_zero, List.take_succ_cons, List.take_zero, Nat.reduceSub]; rfl) ?_
  go_wp2_with fail
  refine wpFrom_end rfl ?_
  clear c0 f0
  go_wp2_with fail
  refine wpFrom_go (by kernel_rfl) (by kernel_rfl) (fun hB w9 hw9 => ?_)
  have A9 := Lib.hid (A8.sees hw9)
  have B9 := Lib.hid (B8.sees hw9)
  have Z9 := Lib.hid (Z8.sees hw9)
  have S9 := Lib.hid (S8.trans hw9)
  clear A8 B8 Z8 S8 hw9
  obtain ⟨z3, hz3⟩ : ∃ z, z = min s.col (a.cols - 1) := ⟨_, rfl⟩
  have m1 : (if a.cols - 1 < s.col then a.cols - 1 else s.col) = z3 := by rw [hz3]; split <;> omega
  have Hz3 := Lib.hid hz3
  have wr : IntKind.i64.wrap (a.cols - 1) = a.cols - 1 := by rw [IntKind.wrap_i64]; omega
  clear hz3
  have hst : segStay (Sees w9) [.is (.pointer (some ⟨w.heap.size, 0, none⟩)), .is (.pointer (some ⟨w.heap.size, 0, none⟩)), .is (.pointer (some ⟨w.heap.size, 0, none⟩)), .is (.pointer (some ⟨w.heap.size, 1, none⟩)), .is (.int .i64 s.col), .is (.pointer (some ⟨w.heap.size + 1, 1, none⟩)), .is (.int .i64 a.cols), .is (.int .i64 (a.cols - 1)), .is (.int .i64 z3), .is (.pointer (some ⟨w.heap.size, 0, none⟩)), .is (.pointer (some ⟨w.heap.size, 1, none⟩))] := trivial
  refine wpFrom_any 11 _ hB (by kernel_rfl) rfl hst (by simp only [List.cons_append, List.nil_append, List.drop_succ_cons, List.drop_zero, List.take_succ_cons, List.take_zero, Nat.reduceSub]; rfl) ?_
  refine ⟨fun vs W hI hV => .inl ⟨by clear hI hV hst; go_simp, .inl (by clear hI hV hst; (try simp only [Act.put, hval, hval2, List.setIfInBounds_toArray, List.set_cons_zero, List.set_cons_succ]); go_simp)⟩, ?_⟩
  refine ⟨fun vs W hI hV => .inl ⟨by clear hI hV hst; go_simp, .inl (by clear hI hV hst; (try simp only [Act.put, hval, hval2, List.setIfInBounds_toArray, List.set_cons_zero, List.set_cons_succ]); go_simp)⟩, ?_⟩
  refine ⟨fun vs W hI hV => .inl ⟨by clear hI hV hst; go_simp, .inl (by clear hI hV hst; (try simp only [Act.put, hval, hval2, List.setIfInBounds_toArray, List.set_cons_zero, List.set_cons_succ]); go_simp)⟩, ?_⟩
  refine ⟨fun vs W hI hV => .inl ⟨by clear hI hV hst; go_simp, .inl (by clear hI hV hst; (try simp only [Act.put, hval, hval2, List.setIfInBounds_toArray, List.set_cons_zero, List.set_cons_succ]); go_simp)⟩, ?_⟩
  refine ⟨fun vs W hI hV => .inl ⟨by clear hI hV hst; go_simp, .inl (by have q := (A9.out.sees hI).cs.2.1; clear hI hV hst; (try simp only [Act.put, hval, hval2, List.setIfInBounds_toArray, List.set_cons_zero, List.set_cons_succ]); go_simp)⟩, ?_⟩
  refine ⟨fun vs W hI hV => .inl ⟨by clear hI hV hst; go_simp, .inl (by clear hI hV hst; (try simp only [Act.put, hval, hval2, List.setIfInBounds_toArray, List.set_cons_zero, List.set_cons_succ]); go_simp)⟩, ?_⟩
  refine ⟨fun vs W hI hV => .inl ⟨by clear hI hV hst; go_simp, .inl (by have q := (B9.out.sees hI).cs.2.1; clear hI hV hst; (try simp only [Act.put, hval, hval2, List.setIfInBounds_toArray, List.set_cons_zero, List.set_cons_succ]); go_simp)⟩, ?_⟩
  refine ⟨fun vs W hI hV => .inl ⟨by clear hI hV hst; go_simp, .inl (by clear hI hV hst; (try simp only [Act.put, hval, hval2, List.setIfInBounds_toArray, List.set_cons_zero, List.set_cons_succ]); go_simp)⟩, ?_⟩
  refine ⟨fun vs W hI hV => .inl ⟨by clear hI hV hst; go_simp, .inl (by clear hI hV hst; (try simp only [Act.put, hval, hval2, List.setIfInBounds_toArray, List.set_cons_zero, List.set_cons_succ]); go_simp)⟩, ?_⟩
  refine ⟨fun vs W hI hV => .inl ⟨by clear hI hV hst; go_simp, .inl (by clear hI hV hst; (try simp only [Act.put, hval, hval2, List.setIfInBounds_toArray, List.set_cons_zero, List.set_cons_succ]); go_simp)⟩, ?_⟩
  refine ⟨fun vs W hI hV => .inl ⟨by clear hI hV hst; go_simp, .inl (by clear hI hV hst; (try simp only [Act.put, hval, hval2, List.setIfInBounds_toArray, List.set_cons_zero, List.set_cons_succ]); go_simp)⟩, ?_⟩
  intro vs w10 hI hV
  have A10 := (A9.out.sees hI).col z3
  have B10 := (B9.out.sees hI).off (a := ⟨w.heap.size, 1, none⟩) (by dsimp only; omega) (.int .i64 z3)
  have Z10 := (Z9.out.sees hI).off (a := ⟨w.heap.size, 1, none⟩) (by dsimp only; omega) (.int .i64 z3)
  have S10 := (S9.out.trans hI).setCell (p := ⟨w.heap.size, 1, none⟩) (Nat.le_refl _) (.int .i64 z3)
  have c1 := (A9.out.sees hI).cs.2.1
  have f1 := frozen_of_row _ _ 1 _ _ (A9.out.sees hI)
  clear hI hV hst A9 B9 Z9 S9 m1
  (try simp only [Act.put, hval, hval2, List.setIfInBounds_toArray, List.set_cons_zero, List.set_cons_succ])
  go_simp
  refine wpFrom_to 12 hB (fun _ _ _ _ _ h => h) (by kernel_rfl) (by simp only [List.cons_append, List.nil_append, List.drop_succ_cons, List.drop_zero, List.take_succ_cons, List.take_zero, Nat.reduceSub]; rfl) ?_
  go_wp2_with fail
  refine wpFrom_end rfl ?_
  clear c1 f1
  go_wp2_with fail
  refine wpFrom_go (by kernel_rfl) (by kernel_rfl) (fun hB w11 hw11 => ?_)
  have A11 := Lib.hid (A10.sees hw11)
  have B11 := Lib.hid (B10.sees hw11)
  have Z11 := Lib.hid (Z10.sees hw11)
  have S11 := Lib.hid (S10.trans hw11)
  clear A10 B10 Z10 S10 hw11
  rw [← Hz3.out] at h4
  have hst : segStay (Sees w11) [.is (.pointer (some ⟨w.heap.size, 0, none⟩)), .is (.pointer (some ⟨w.heap.size, 0, none⟩)), .is (.pointer (some ⟨w.heap.size, 0, none⟩)), .is (.pointer (some ⟨w.heap.size, 2, none⟩)), .is (.bool true), .is (.bool true), .is (.pointer (some ⟨w.heap.size, 0, none⟩)), .is (.pointer (some ⟨w.heap.size, 0, none⟩)), .is (.pointer (some ⟨w.heap.size, 1, none⟩)), .is (.int .i64 z3), .is (.pointer (some ⟨w.heap.size + 1, 1, none⟩)), .is (.int .i64 a.cols), .is (.int .i64 (a.cols - 1)), .is (.bool false), .is (.bool false), .is (.pointer (some ⟨w.heap.size, 0, none⟩)), .is (.pointer (some ⟨w.heap.size, 2, none⟩))] := trivial
  refine wpFrom_any 17 _ hB (by kernel_rfl) rfl hst (by simp only [List.cons_append, List.nil_append, List.drop_succ_cons, List.drop_zero, List.take_succ_cons, List.take_zero, Nat.reduceSub]; rfl) ?_
  refine ⟨fun vs W hI hV => .inl ⟨by clear hI hV hst; go_simp, .inl (by clear hI hV hst; (try simp only [Act.put, hval, hval2, List.setIfInBounds_toArray, List.set_cons_zero, List.set_cons_succ]); go_simp)⟩, ?_⟩
  refine ⟨fun vs W hI hV => .inl ⟨by clear hI hV hst; go_simp, .inl (by clear hI hV hst; (try simp only [Act.put, hval, hval2, List.setIfInBounds_toArray, List.set_cons_zero, List.set_cons_succ]); go_simp)⟩, ?_⟩
  refine ⟨fun vs W hI hV => .inl ⟨by clear hI hV hst; go_simp, .inl (by clear hI hV hst; (try simp only [Act.put, hval, hval2, List.setIfInBounds_toArray, List.set_cons_zero, List.set_cons_succ]); go_simp)⟩, ?_⟩
  refine ⟨fun vs W hI hV => .inl ⟨by clear hI hV hst; go_simp, .inl (by clear hI hV hst; (try simp only [Act.put, hval, hval2, List.setIfInBounds_toArray, List.set_cons_zero, List.set_cons_succ]); go_simp)⟩, ?_⟩
  refine ⟨fun vs W hI hV => .inl ⟨by clear hI hV hst; go_simp, .inl (by have q := (A11.out.sees hI).cs.2.2.1; rw [show ({ s with row := z2, col := z3 } : Sv).pend = true from hp] at q; clear hI hV hst; (try simp only [Act.put, hval, hval2, List.setIfInBounds_toArray, List.set_cons_zero, List.set_cons_succ]); go_simp)⟩, ?_⟩
  refine ⟨fun vs W hI hV => .inl ⟨by clear hI hV hst; go_simp, .inl (by clear hI hV hst; (try simp only [Act.put, hval, hval2, List.setIfInBounds_toArray, List.set_cons_zero, List.set_cons_succ]); go_simp)⟩, ?_⟩
  refine ⟨fun vs W hI hV => .inl ⟨by clear hI hV hst; go_simp, .inl (by clear hI hV hst; (try simp only [Act.put, hval, hval2, List.setIfInBounds_toArray, List.set_cons_zero, List.set_cons_succ]); go_simp)⟩, ?_⟩
  refine ⟨fun vs W hI hV => .inl ⟨by clear hI hV hst; go_simp, .inl (by clear hI hV hst; (try simp only [Act.put, hval, hval2, List.setIfInBounds_toArray, List.set_cons_zero, List.set_cons_succ]); go_simp)⟩, ?_⟩
  refine ⟨fun vs W hI hV => .inl ⟨by clear hI hV hst; go_simp, .inl (by clear hI hV hst; (try simp only [Act.put, hval, hval2, List.setIfInBounds_toArray, List.set_cons_zero, List.set_cons_succ]); go_simp)⟩, ?_⟩
  refine ⟨fun vs W hI hV => .inl ⟨by clear hI hV hst; go_simp, .inl (by have q := (A11.out.sees hI).cs.2.1; clear hI hV hst; (try simp only [Act.put, hval, hval2, List.setIfInBounds_toArray, List.set_cons_zero, List.set_cons_succ]); go_simp)⟩, ?_⟩
  refine ⟨fun vs W hI hV => .inl ⟨by clear hI hV hst; go_simp, .inl (by clear hI hV hst; (try simp only [Act.put, hval, hval2, List.setIfInBounds_toArray, List.set_cons_zero, List.set_cons_succ]); go_simp)⟩, ?_⟩
  refine ⟨fun vs W hI hV => .inl ⟨by clear hI hV hst; go_simp, .inl (by have q := (B11.out.sees hI).cs.2.1; clear hI hV hst; (try simp only [Act.put, hval, hval2, List.setIfInBounds_toArray, List.set_cons_zero, List.set_cons_succ]); go_simp)⟩, ?_⟩
  refine ⟨fun vs W hI hV => .inl ⟨by clear hI hV hst; go_simp, .inl (by clear hI hV hst; (try simp only [Act.put, hval, hval2, List.setIfInBounds_toArray, List.set_cons_zero, List.set_cons_succ]); go_simp)⟩, ?_⟩
  refine ⟨fun vs W hI hV => .inl ⟨by clear hI hV hst; go_simp, .inl (by clear hI hV hst; (try simp only [Act.put, hval, hval2, List.setIfInBounds_toArray, List.set_cons_zero, List.set_cons_succ]); go_simp)⟩, ?_⟩
  refine ⟨fun vs W hI hV => .inl ⟨by clear hI hV hst; go_simp, .inl (by clear hI hV hst; (try simp only [Act.put, hval, hval2, List.setIfInBounds_toArray, List.set_cons_zero, List.set_cons_succ]); go_simp)⟩, ?_⟩
  refine ⟨fun vs W hI hV => .inl ⟨by clear hI hV hst; go_simp, .inl (by clear hI hV hst; (try simp only [Act.put, hval, hval2, List.setIfInBounds_toArray, List.set_cons_zero, List.set_cons_succ]); go_simp)⟩, ?_⟩
  refine ⟨fun vs W hI hV => .inl ⟨by clear hI hV hst; go_simp, .inl (by clear hI hV hst; (try simp only [Act.put, hval, hval2, List.setIfInBounds_toArray, List.set_cons_zero, List.set_cons_succ]); go_simp)⟩, ?_⟩
  intro vs w13 hI hV
  have A13 := (A11.out.sees hI).pend false
  have Z13 := (Z11.out.sees hI).off (a := ⟨w.heap.size, 2, none⟩) (by dsimp only; omega) (.bool false)
  have S13 := (S11.out.trans hI).setCell (p := ⟨w.heap.size, 2, none⟩) (Nat.le_refl _) (.bool false)
  have c2 := (A11.out.sees hI).cs.2.2.1
  have f2 := frozen_of_row _ _ 2 _ _ (A11.out.sees hI)
  clear hI hV hst A11 B11 Z11 S11
  (try simp only [Act.put, hval, hval2, List.setIfInBounds_toArray, List.set_cons_zero, List.set_cons_succ])
  go_simp
  refine wpFrom_to 18 hB (fun _ _ _ _ _ h => h) (by kernel_rfl) (by simp only [List.cons_append, List.nil_append, List.drop_succ_cons, List.drop_zero, List.take_succ_cons, List.take_zero, Nat.reduceSub]; rfl) ?_
  go_wp2_with fail
  refine wpFrom_end rfl ?_
  clear c2 f2
  obtain ⟨s', hs'⟩ : ∃ x : Sv, x = { s with row := z2, col := z3, pend := false } := ⟨_, rfl⟩
  have A14 : SvAt _ _ s' := hs' ▸ A13
  have Hs' := Lib.hid hs'
  clear hs' A13
  go_wp2_with (first | (refine wpList_val rfl (exec_load (v := s'.val) rfl rfl (run_loadSv A14)) (fun K hK => ?_); go_simp; refine hK _ _ ?_; clear hK K) | (refine wpList_skip rfl (exec_store (v := s'.val) rfl rfl rfl (run_storeSv Z13 s')) (fun K hK => ?_); go_simp; refine hK _ _ ?_; clear hK K))
  refine bodyPost_ret_by (results_sv (s := s') (v := .int .i64 0) rfl rfl rfl (SvAt.stored Z13 _)) rfl ⟨?_, ?_⟩
  · rw [Hs'.out, Hz3.out, Hz2.out, Hz1.out]
  · exact Sees.setRow S13 (by omega) _
set_option maxHeartbeats 8000000 in
set_option maxRecDepth 100000 in
theorem restore_fff (s : Sv) (a : Ar) (hv : s.ok = true) (hw : a.right = true) (ho : s.org = false) (hp : s.pend = false) (w : World) : Calls Tryd.prog 22 #[s.val, a.v] w fun e w' => e = .returned (.tuple #[({ s with row := max 0 (min s.row (a.rows - 1)), col := min s.col (a.cols - 1), pend := false } : Sv).val, .int .i64 0]) ∧ Sees w w' := by
  have KV : Hid (∀ W, Calls Tryd.prog 8 #[s.val] W fun e w' => e = .returned (.bool true) ∧ Sees W w') := fun W => by have := sValid_any s W; rw [show s.ok = true from hv] at this; exact this
  have KR : Hid (∀ W, Calls Tryd.prog 37 #[a.v] W fun e w' => e = .returned (.bool true) ∧ Sees W w') := fun W => by have := right_any a W; rw [show a.right = true from hw] at this; exact this
  obtain ⟨r0, r1, r2, r3, r4, r5, r6⟩ := of_decide_eq_true hw
  go_enter Tryd.func22, Tryd.ntmps22
  go_upto_region 1 with (first
    | (refine wpList_val rfl (exec_box (cs := s.cells) rfl rfl) (fun K hK => ?_); go_simp; refine hK _ _ ?_; clear hK K)
    | (refine wpList_val rfl (exec_box (cs := a.cells) rfl rfl) (fun K hK => ?_); go_simp; refine hK _ _ ?_; clear hK K))
  refine wp_world fun W0 hW0 => ?_
  obtain ⟨A1, B1, Z1, S1⟩ := sar3 w s a W0 hW0
  clear hW0
  go_wp2_with (refine wpList_val rfl (exec_load (v := s.val) rfl rfl (run_loadSv A1)) (fun K hK => ?_); go_simp; refine hK _ _ ?_; clear hK K)
  refine (KV.out _).mono ?_
  rintro e W1 ⟨rfl, t1⟩
  have A2 := A1.sees t1
  have B2 := B1.sees t1
  have Z2 := Z1.sees t1
  have S2 := S1.trans t1
  clear A1 B1 Z1 S1 t1
  obtain ⟨d0, d1, d2, d3, d4⟩ := B2.cs
  go_wp2_with fail
  refine (KR.out _).mono ?_
  rintro e W2 ⟨rfl, t2⟩
  have A3 := A2.sees t2
  have B3 := B2.sees t2
  have Z3 := Z2.sees t2
  have S3 := S2.trans t2
  clear A2 B2 Z2 S2 t2 d0 d1 d2 d3 d4
  obtain ⟨d0, d1, d2, d3, d4⟩ := B3.cs
  go_upto_region 4 with fail
  refine wp_world fun W4 hW4 => ?_
  have u1 := (Sees.refl W2).alloc (.cells #[.int .i64 0, .int .i64 (a.rows - 1)] 37)
  have R4 : W4.heap[W2.heap.size]? = some (.cells #[.int .i64 0, .int .i64 (a.rows - 1)] 37 (0, 0)) := by rw [hW4]; exact heap_alloc_new W2 _
  rw [← hW4] at u1
  have A4 := A3.sees u1
  have B4 := B3.sees u1
  have Z4 := Z3.sees u1
  have S4 := S3.trans u1
  have lt4 : w.heap.size + 1 + 1 < W2.heap.size := (Array.getElem?_eq_some_iff.1 Z3).1
  clear d0 d1 d2 d3 d4 u1 hW4
  have c14 : W4.cell? ⟨w.heap.size, 14, none⟩ = some (.bool false) := by rw [← ho]; exact A4.cs.2.2.2.2.2.2.2.2.2.2.2.2.2.2.1
  obtain ⟨d0, d1, d2, d3, d4⟩ := B4.cs
  have f4 : ∀ i, W4.frozen? ⟨W2.heap.size, i, none⟩ = false := fun i => frozen_of_row _ _ i _ _ R4
  have e0 := Go.cell_of_row _ _ 0 _ _ _ R4
  have e1 := Go.cell_of_row _ _ 1 _ _ _ R4
  go_upto_region 6 with fail
  have R6 := R4
  have A6 := A4
  have Z6 := Z4
  have B6 := B4
  have S6 := S4
  have W6 := W4
  clear R4 A4 Z4 B4 S4 e0 e1 c14 d0 d1 d2 d3 d4 f4
  have e0 := Go.cell_of_row _ _ 0 _ _ _ R6
  have e1 := Go.cell_of_row _ _ 1 _ _ _ R6
  have c0 := A6.cs.1
  have f0 := fun i => frozen_of_row _ _ i _ _ A6
  go_upto_region 8 with fail
  refine wp_world fun W7 hW7 => ?_
  subst hW7
  refine wpFrom_go (by kernel_rfl) (by kernel_rfl) (fun hB w7 hw7 => ?_)
  have A7 := Lib.hid (A6.sees hw7)
  have B7 := Lib.hid (B6.sees hw7)
  have R7 := Lib.hid (hw7.block' R6)
  have Z7 := Lib.hid (Z6.sees hw7)
  have S7 := Lib.hid (S6.trans hw7)
  clear A6 B6 R6 Z6 S6 hw7 e0 e1 c0 f0
  have hval : ∀ x v, (Spec.is x).val v = x := fun _ _ => rfl
  have hval2 : ∀ V v, (Spec.so V).val v = v := fun _ _ => rfl
  obtain ⟨z1, hz1⟩ : ∃ z, z = min s.row (a.rows - 1) := ⟨_, rfl⟩
  obtain ⟨z2, hz2⟩ : ∃ z, z = max 0 z1 := ⟨_, rfl⟩
  have m1 : (if (a.rows - 1) < s.row then (a.rows - 1) else s.row) = z1 := by rw [hz1]; split <;> omega
  have m2 : (if 0 < z1 then z1 else 0) = z2 := by rw [hz2]; split <;> omega
  have Hz1 := Lib.hid hz1
  have Hz2 := Lib.hid hz2
  clear hz1 hz2
  have hst : segStay (Sees w7) [.is (.pointer (some ⟨w.heap.size, 0, none⟩)), .is (.pointer (some ⟨W2.heap.size, 0, none⟩)), .is (.int .i64 0), .is (.pointer (some ⟨w.heap.size, 0, none⟩)), .is (.pointer (some ⟨w.heap.size, 0, none⟩)), .is (.pointer (some ⟨w.heap.size, 0, none⟩)), .is (.int .i64 s.row), .is (.pointer (some ⟨W2.heap.size, 1, none⟩)), .is (.int .i64 (a.rows - 1)), .is (.int .i64 z1), .is (.int .i64 z2), .is (.pointer (some ⟨w.heap.size, 0, none⟩)), .is (.pointer (some ⟨w.heap.size, 0, none⟩))] := trivial
  refine wpFrom_any 13 _ hB (by kernel_rfl) rfl hst (by simp only [List.cons_append, List.nil_append, List.drop_succ_cons, List.drop_zero, List.take_succ_cons, List.take_zero, Nat.reduceSub]; rfl) ?_
  refine ⟨fun vs W hI hV => .inl ⟨by clear hI hV hst; go_simp, .inl (by clear hI hV hst; (try simp only [Act.put, hval, hval2, List.setIfInBounds_toArray, List.set_cons_zero, List.set_cons_succ]); go_simp)⟩, ?_⟩
  refine ⟨fun vs W hI hV => .inl ⟨by clear hI hV hst; go_simp, .inl (by clear hI hV hst; (try simp only [Act.put, hval, hval2, List.setIfInBounds_toArray, List.set_cons_zero, List.set_cons_succ]); go_simp)⟩, ?_⟩
  refine ⟨fun vs W hI hV => .inl ⟨by clear hI hV hst; go_simp, .inl (by have q := Go.cell_of_row _ _ 0 _ _ _ (hI.block' R7.out); clear hI hV hst; (try simp only [Act.put, hval, hval2, List.setIfInBounds_toArray, List.set_cons_zero, List.set_cons_succ]); go_simp)⟩, ?_⟩
  refine ⟨fun vs W hI hV => .inl ⟨by clear hI hV hst; go_simp, .inl (by clear hI hV hst; (try simp only [Act.put, hval, hval2, List.setIfInBounds_toArray, List.set_cons_zero, List.set_cons_succ]); go_simp)⟩, ?_⟩
  refine ⟨fun vs W hI hV => .inl ⟨by clear hI hV hst; go_simp, .inl (by clear hI hV hst; (try simp only [Act.put, hval, hval2, List.setIfInBounds_toArray, List.set_cons_zero, List.set_cons_succ]); go_simp)⟩, ?_⟩
  refine ⟨fun vs W hI hV => .inl ⟨by clear hI hV hst; go_simp, .inl (by clear hI hV hst; (try simp only [Act.put, hval, hval2, List.setIfInBounds_toArray, List.set_cons_zero, List.set_cons_succ]); go_simp)⟩, ?_⟩
  refine ⟨fun vs W hI hV => .inl ⟨by clear hI hV hst; go_simp, .inl (by have q := (A7.out.sees hI).cs.1; clear hI hV hst; (try simp only [Act.put, hval, hval2, List.setIfInBounds_toArray, List.set_cons_zero, List.set_cons_succ]); go_simp)⟩, ?_⟩
  refine ⟨fun vs W hI hV => .inl ⟨by clear hI hV hst; go_simp, .inl (by clear hI hV hst; (try simp only [Act.put, hval, hval2, List.setIfInBounds_toArray, List.set_cons_zero, List.set_cons_succ]); go_simp)⟩, ?_⟩
  refine ⟨fun vs W hI hV => .inl ⟨by clear hI hV hst; go_simp, .inl (by have q := Go.cell_of_row _ _ 1 _ _ _ (hI.block' R7.out); clear hI hV hst; (try simp only [Act.put, hval, hval2, List.setIfInBounds_toArray, List.set_cons_zero, List.set_cons_succ]); go_simp)⟩, ?_⟩
  refine ⟨fun vs W hI hV => .inl ⟨by clear hI hV hst; go_simp, .inl (by clear hI hV hst; (try simp only [Act.put, hval, hval2, List.setIfInBounds_toArray, List.set_cons_zero, List.set_cons_succ]); go_simp)⟩, ?_⟩
  refine ⟨fun vs W hI hV => .inl ⟨by clear hI hV hst; go_simp, .inl (by clear hI hV hst; (try simp only [Act.put, hval, hval2, List.setIfInBounds_toArray, List.set_cons_zero, List.set_cons_succ]); go_simp)⟩, ?_⟩
  refine ⟨fun vs W hI hV => .inl ⟨by clear hI hV hst; go_simp, .inl (by clear hI hV hst; (try simp only [Act.put, hval, hval2, List.setIfInBounds_toArray, List.set_cons_zero, List.set_cons_succ]); go_simp)⟩, ?_⟩
  refine ⟨fun vs W hI hV => .inl ⟨by clear hI hV hst; go_simp, .inl (by clear hI hV hst; (try simp only [Act.put, hval, hval2, List.setIfInBounds_toArray, List.set_cons_zero, List.set_cons_succ]); go_simp)⟩, ?_⟩
  intro vs w8 hI hV
  have A8 := (A7.out.sees hI).row z2
  have B8 := (B7.out.sees hI).off (a := ⟨w.heap.size, 0, none⟩) (by dsimp only; omega) (.int .i64 z2)
  have Z8 := (Z7.out.sees hI).off (a := ⟨w.heap.size, 0, none⟩) (by dsimp only; omega) (.int .i64 z2)
  have S8 := (S7.out.trans hI).setCell (p := ⟨w.heap.size, 0, none⟩) (Nat.le_refl _) (.int .i64 z2)
  have c0 := (A7.out.sees hI).cs.1
  have f0 := frozen_of_row _ _ 0 _ _ (A7.out.sees hI)
  clear hI hV hst A7 B7 R7 Z7 S7 m1 m2
  (try simp only [Act.put, hval, hval2, List.setIfInBounds_toArray, List.set_cons_zero, List.set_cons_succ])
  go_simp
  refine wpFrom_to 14 hB (fun _ _ _ _ _ h => h) (by kernel_rfl) (by simp only [List.cons_append, List.nil_append, List.drop_succ_cons, List.drop_zero, List.take_succ_cons, List.take_zero, Nat.reduceSub]; rfl) ?_
  go_wp2_with fail
  refine wpFrom_end rfl ?_
  clear c0 f0
  go_wp2_with fail
  refine wpFrom_go (by kernel_rfl) (by kernel_rfl) (fun hB w9 hw9 => ?_)
  have A9 := Lib.hid (A8.sees hw9)
  have B9 := Lib.hid (B8.sees hw9)
  have Z9 := Lib.hid (Z8.sees hw9)
  have S9 := Lib.hid (S8.trans hw9)
  clear A8 B8 Z8 S8 hw9
  obtain ⟨z3, hz3⟩ : ∃ z, z = min s.col (a.cols - 1) := ⟨_, rfl⟩
  have m1 : (if a.cols - 1 < s.col then a.cols - 1 else s.col) = z3 := by rw [hz3]; split <;> omega
  have Hz3 := Lib.hid hz3
  have wr : IntKind.i64.wrap (a.cols - 1) = a.cols - 1 := by rw [IntKind.wrap_i64]; omega
  clear hz3
  have hst : segStay (Sees w9) [.is (.pointer (some ⟨w.heap.size, 0, none⟩)), .is (.pointer (some ⟨w.heap.size, 0, none⟩)), .is (.pointer (some ⟨w.heap.size, 0, none⟩)), .is (.pointer (some ⟨w.heap.size, 1, none⟩)), .is (.int .i64 s.col), .is (.pointer (some ⟨w.heap.size + 1, 1, none⟩)), .is (.int .i64 a.cols), .is (.int .i64 (a.cols - 1)), .is (.int .i64 z3), .is (.pointer (some ⟨w.heap.size, 0, none⟩)), .is (.pointer (some ⟨w.heap.size, 1, none⟩))] := trivial
  refine wpFrom_any 11 _ hB (by kernel_rfl) rfl hst (by simp only [List.cons_append, List.nil_append, List.drop_succ_cons, List.drop_zero, List.take_succ_cons, List.take_zero, Nat.reduceSub]; rfl) ?_
  refine ⟨fun vs W hI hV => .inl ⟨by clear hI hV hst; go_simp, .inl (by clear hI hV hst; (try simp only [Act.put, hval, hval2, List.setIfInBounds_toArray, List.set_cons_zero, List.set_cons_succ]); go_simp)⟩, ?_⟩
  refine ⟨fun vs W hI hV => .inl ⟨by clear hI hV hst; go_simp, .inl (by clear hI hV hst; (try simp only [Act.put, hval, hval2, List.setIfInBounds_toArray, List.set_cons_zero, List.set_cons_succ]); go_simp)⟩, ?_⟩
  refine ⟨fun vs W hI hV => .inl ⟨by clear hI hV hst; go_simp, .inl (by clear hI hV hst; (try simp only [Act.put, hval, hval2, List.setIfInBounds_toArray, List.set_cons_zero, List.set_cons_succ]); go_simp)⟩, ?_⟩
  refine ⟨fun vs W hI hV => .inl ⟨by clear hI hV hst; go_simp, .inl (by clear hI hV hst; (try simp only [Act.put, hval, hval2, List.setIfInBounds_toArray, List.set_cons_zero, List.set_cons_succ]); go_simp)⟩, ?_⟩
  refine ⟨fun vs W hI hV => .inl ⟨by clear hI hV hst; go_simp, .inl (by have q := (A9.out.sees hI).cs.2.1; clear hI hV hst; (try simp only [Act.put, hval, hval2, List.setIfInBounds_toArray, List.set_cons_zero, List.set_cons_succ]); go_simp)⟩, ?_⟩
  refine ⟨fun vs W hI hV => .inl ⟨by clear hI hV hst; go_simp, .inl (by clear hI hV hst; (try simp only [Act.put, hval, hval2, List.setIfInBounds_toArray, List.set_cons_zero, List.set_cons_succ]); go_simp)⟩, ?_⟩
  refine ⟨fun vs W hI hV => .inl ⟨by clear hI hV hst; go_simp, .inl (by have q := (B9.out.sees hI).cs.2.1; clear hI hV hst; (try simp only [Act.put, hval, hval2, List.setIfInBounds_toArray, List.set_cons_zero, List.set_cons_succ]); go_simp)⟩, ?_⟩
  refine ⟨fun vs W hI hV => .inl ⟨by clear hI hV hst; go_simp, .inl (by clear hI hV hst; (try simp only [Act.put, hval, hval2, List.setIfInBounds_toArray, List.set_cons_zero, List.set_cons_succ]); go_simp)⟩, ?_⟩
  refine ⟨fun vs W hI hV => .inl ⟨by clear hI hV hst; go_simp, .inl (by clear hI hV hst; (try simp only [Act.put, hval, hval2, List.setIfInBounds_toArray, List.set_cons_zero, List.set_cons_succ]); go_simp)⟩, ?_⟩
  refine ⟨fun vs W hI hV => .inl ⟨by clear hI hV hst; go_simp, .inl (by clear hI hV hst; (try simp only [Act.put, hval, hval2, List.setIfInBounds_toArray, List.set_cons_zero, List.set_cons_succ]); go_simp)⟩, ?_⟩
  refine ⟨fun vs W hI hV => .inl ⟨by clear hI hV hst; go_simp, .inl (by clear hI hV hst; (try simp only [Act.put, hval, hval2, List.setIfInBounds_toArray, List.set_cons_zero, List.set_cons_succ]); go_simp)⟩, ?_⟩
  intro vs w10 hI hV
  have A10 := (A9.out.sees hI).col z3
  have B10 := (B9.out.sees hI).off (a := ⟨w.heap.size, 1, none⟩) (by dsimp only; omega) (.int .i64 z3)
  have Z10 := (Z9.out.sees hI).off (a := ⟨w.heap.size, 1, none⟩) (by dsimp only; omega) (.int .i64 z3)
  have S10 := (S9.out.trans hI).setCell (p := ⟨w.heap.size, 1, none⟩) (Nat.le_refl _) (.int .i64 z3)
  have c1 := (A9.out.sees hI).cs.2.1
  have f1 := frozen_of_row _ _ 1 _ _ (A9.out.sees hI)
  clear hI hV hst A9 B9 Z9 S9 m1
  (try simp only [Act.put, hval, hval2, List.setIfInBounds_toArray, List.set_cons_zero, List.set_cons_succ])
  go_simp
  refine wpFrom_to 12 hB (fun _ _ _ _ _ h => h) (by kernel_rfl) (by simp only [List.cons_append, List.nil_append, List.drop_succ_cons, List.drop_zero, List.take_succ_cons, List.take_zero, Nat.reduceSub]; rfl) ?_
  go_wp2_with fail
  refine wpFrom_end rfl ?_
  clear c1 f1
  go_wp2_with fail
  refine wpFrom_go (by kernel_rfl) (by kernel_rfl) (fun hB w11 hw11 => ?_)
  have A11 := Lib.hid (A10.sees hw11)
  have B11 := Lib.hid (B10.sees hw11)
  have Z11 := Lib.hid (Z10.sees hw11)
  have S11 := Lib.hid (S10.trans hw11)
  clear A10 B10 Z10 S10 hw11
  have hst : segStay (Sees w11) [.is (.pointer (some ⟨w.heap.size, 0, none⟩)), .is (.pointer (some ⟨w.heap.size, 0, none⟩)), .is (.pointer (some ⟨w.heap.size, 0, none⟩)), .is (.pointer (some ⟨w.heap.size, 2, none⟩)), .is (.bool false), .is (.bool false), .is undef, .is undef, .is undef, .is undef, .is undef, .is undef, .is undef, .is undef, .is (.bool false), .is (.pointer (some ⟨w.heap.size, 0, none⟩)), .is (.pointer (some ⟨w.heap.size, 2, none⟩))] := trivial
  refine wpFrom_any 17 _ hB (by kernel_rfl) rfl hst (by simp only [List.cons_append, List.nil_append, List.drop_succ_cons, List.drop_zero, List.take_succ_cons, List.take_zero, Nat.reduceSub]; rfl) ?_
  refine ⟨fun vs W hI hV => .inl ⟨by clear hI hV hst; go_simp, .inl (by clear hI hV hst; (try simp only [Act.put, hval, hval2, List.setIfInBounds_toArray, List.set_cons_zero, List.set_cons_succ]); go_simp)⟩, ?_⟩
  refine ⟨fun vs W hI hV => .inl ⟨by clear hI hV hst; go_simp, .inl (by clear hI hV hst; (try simp only [Act.put, hval, hval2, List.setIfInBounds_toArray, List.set_cons_zero, List.set_cons_succ]); go_simp)⟩, ?_⟩
  refine ⟨fun vs W hI hV => .inl ⟨by clear hI hV hst; go_simp, .inl (by clear hI hV hst; (try simp only [Act.put, hval, hval2, List.setIfInBounds_toArray, List.set_cons_zero, List.set_cons_succ]); go_simp)⟩, ?_⟩
  refine ⟨fun vs W hI hV => .inl ⟨by clear hI hV hst; go_simp, .inl (by clear hI hV hst; (try simp only [Act.put, hval, hval2, List.setIfInBounds_toArray, List.set_cons_zero, List.set_cons_succ]); go_simp)⟩, ?_⟩
  refine ⟨fun vs W hI hV => .inl ⟨by clear hI hV hst; go_simp, .inl (by have q := (A11.out.sees hI).cs.2.2.1; rw [show ({ s with row := z2, col := z3 } : Sv).pend = false from hp] at q; clear hI hV hst; (try simp only [Act.put, hval, hval2, List.setIfInBounds_toArray, List.set_cons_zero, List.set_cons_succ]); go_simp)⟩, ?_⟩
  refine ⟨fun vs W hI hV => .inl ⟨by clear hI hV hst; go_simp, .inl (by clear hI hV hst; (try simp only [Act.put, hval, hval2, List.setIfInBounds_toArray, List.set_cons_zero, List.set_cons_succ]); go_simp)⟩, ?_⟩
  refine ⟨fun vs W hI hV => .inr ⟨by clear hI hV hst; go_simp, rfl⟩, ?_⟩
  refine ⟨fun vs W hI hV => .inr ⟨by clear hI hV hst; go_simp, rfl⟩, ?_⟩
  refine ⟨fun vs W hI hV => .inr ⟨by clear hI hV hst; go_simp, rfl⟩, ?_⟩
  refine ⟨fun vs W hI hV => .inr ⟨by clear hI hV hst; go_simp, rfl⟩, ?_⟩
  refine ⟨fun vs W hI hV => .inr ⟨by clear hI hV hst; go_simp, rfl⟩, ?_⟩
  refine ⟨fun vs W hI hV => .inr ⟨by clear hI hV hst; go_simp, rfl⟩, ?_⟩
  refine ⟨fun vs W hI hV => .inr ⟨by clear hI hV hst; go_simp, rfl⟩, ?_⟩
  refine ⟨fun vs W hI hV => .inr ⟨by clear hI hV hst; go_simp, rfl⟩, ?_⟩
  refine ⟨fun vs W hI hV => .inl ⟨by clear hI hV hst; go_simp, .inl (by clear hI hV hst; (try simp only [Act.put, hval, hval2, List.setIfInBounds_toArray, List.set_cons_zero, List.set_cons_succ]); go_simp)⟩, ?_⟩
  refine ⟨fun vs W hI hV => .inl ⟨by clear hI hV hst; go_simp, .inl (by clear hI hV hst; (try simp only [Act.put, hval, hval2, List.setIfInBounds_toArray, List.set_cons_zero, List.set_cons_succ]); go_simp)⟩, ?_⟩
  refine ⟨fun vs W hI hV => .inl ⟨by clear hI hV hst; go_simp, .inl (by clear hI hV hst; (try simp only [Act.put, hval, hval2, List.setIfInBounds_toArray, List.set_cons_zero, List.set_cons_succ]); go_simp)⟩, ?_⟩
  intro vs w13 hI hV
  have A13 := (A11.out.sees hI).pend false
  have Z13 := (Z11.out.sees hI).off (a := ⟨w.heap.size, 2, none⟩) (by dsimp only; omega) (.bool false)
  have S13 := (S11.out.trans hI).setCell (p := ⟨w.heap.size, 2, none⟩) (Nat.le_refl _) (.bool false)
  have c2 := (A11.out.sees hI).cs.2.2.1
  have f2 := frozen_of_row _ _ 2 _ _ (A11.out.sees hI)
  clear hI hV hst A11 B11 Z11 S11
  (try simp only [Act.put, hval, hval2, List.setIfInBounds_toArray, List.set_cons_zero, List.set_cons_succ])
  go_simp
  refine wpFrom_to 18 hB (fun _ _ _ _ _ h => h) (by kernel_rfl) (by simp only [List.cons_append, List.nil_append, List.drop_succ_cons, List.drop_zero, List.take_succ_cons, List.take_zero, Nat.reduceSub]; rfl) ?_
  go_wp2_with fail
  refine wpFrom_end rfl ?_
  clear c2 f2
  obtain ⟨s', hs'⟩ : ∃ x : Sv, x = { s with row := z2, col := z3, pend := false } := ⟨_, rfl⟩
  have A14 : SvAt _ _ s' := hs' ▸ A13
  have Hs' := Lib.hid hs'
  clear hs' A13
  go_wp2_with (first | (refine wpList_val rfl (exec_load (v := s'.val) rfl rfl (run_loadSv A14)) (fun K hK => ?_); go_simp; refine hK _ _ ?_; clear hK K) | (refine wpList_skip rfl (exec_store (v := s'.val) rfl rfl rfl (run_storeSv Z13 s')) (fun K hK => ?_); go_simp; refine hK _ _ ?_; clear hK K))
  refine bodyPost_ret_by (results_sv (s := s') (v := .int .i64 0) rfl rfl rfl (SvAt.stored Z13 _)) rfl ⟨?_, ?_⟩
  · rw [Hs'.out, Hz3.out, Hz2.out, Hz1.out]
  · exact Sees.setRow S13 (by omega) _
theorem restore_ok (s : Sv) (a : Ar) (hv : s.ok = true) (hw : a.right = true) (w : World) : Calls Tryd.prog 22 #[s.val, a.v] w fun e w' => e = .returned (.tuple #[(resto s a).val, .int .i64 0]) ∧ Sees w w' := by
  cases ho : s.org <;> cases hp : s.pend
  · rw [show resto s a = { s with row := max 0 (min s.row (a.rows - 1)), col := min s.col (a.cols - 1), pend := false } by unfold resto; simp [ho, hp]]
    exact restore_fff s a hv hw ho hp w
  · cases h4 : (min s.col (a.cols - 1) == a.cols - 1)
    · rw [show resto s a = { s with row := max 0 (min s.row (a.rows - 1)), col := min s.col (a.cols - 1), pend := false } by unfold resto; simp [ho, hp, h4]]
      exact restore_ftf s a hv hw ho hp h4 w
    · rw [show resto s a = { s with row := max 0 (min s.row (a.rows - 1)), col := min s.col (a.cols - 1), pend := true } by unfold resto; simp [ho, hp, h4]]
      exact restore_ftt s a hv hw ho hp h4 w
  · rw [show resto s a = { s with row := max a.top (min s.row a.bot), col := min s.col (a.cols - 1), pend := false } by unfold resto; simp [ho, hp]]
    exact restore_tff s a hv hw ho hp w
  · cases h4 : (min s.col (a.cols - 1) == a.cols - 1)
    · rw [show resto s a = { s with row := max a.top (min s.row a.bot), col := min s.col (a.cols - 1), pend := false } by unfold resto; simp [ho, hp, h4]]
      exact restore_ttf s a hv hw ho hp h4 w
    · rw [show resto s a = { s with row := max a.top (min s.row a.bot), col := min s.col (a.cols - 1), pend := true } by unfold resto; simp [ho, hp, h4]]
      exact restore_ttt s a hv hw ho hp h4 w
end Go.Proofs.YtfgifjdholdohaaDoor
