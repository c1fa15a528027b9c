/- near, Placed, the reference's Restore, the law's valid, saved.New, Save and the law's is (23). No condition. -/
import Derived.Test.YtfgifjdholdohaaDoorSaO
import Derived.Deep.Cut
namespace Go.Proofs.YtfgifjdholdohaaDoor
set_option linter.unusedVariables false
set_option linter.unusedSimpArgs false
open Go.RowKit

theorem near_low (n l h : Int) (h0 : n < l) (w : World) : Calls Tryd.prog 30 #[.int .i64 n, .int .i64 l, .int .i64 h] w fun e w' => e = .returned (.int .i64 l) ∧ w' = w := by
  go_enter Tryd.func30, Tryd.ntmps30
  go_wp2
  go_ret
  exact ⟨rfl, rfl⟩
theorem near_high (n l h : Int) (h0 : ¬ n < l) (h1 : h < n) (w : World) : Calls Tryd.prog 30 #[.int .i64 n, .int .i64 l, .int .i64 h] w fun e w' => e = .returned (.int .i64 h) ∧ w' = w := by
  go_enter Tryd.func30, Tryd.ntmps30
  go_wp2
  go_ret
  exact ⟨rfl, rfl⟩
theorem near_in (n l h : Int) (h0 : ¬ n < l) (h1 : ¬ h < n) (w : World) : Calls Tryd.prog 30 #[.int .i64 n, .int .i64 l, .int .i64 h] w fun e w' => e = .returned (.int .i64 n) ∧ w' = w := by
  go_enter Tryd.func30, Tryd.ntmps30
  go_wp2
  go_ret
  exact ⟨rfl, rfl⟩
theorem near_any (n l h z : Int) (hlh : l ≤ h) (hz : z = max l (min n h)) (w : World) : Calls Tryd.prog 30 #[.int .i64 n, .int .i64 l, .int .i64 h] w fun e w' => e = .returned (.int .i64 z) ∧ Sees w w' := by
  by_cases h0 : n < l
  · rw [show z = l by omega]
    exact (near_low n l h h0 w).mono fun e W ⟨he, hw⟩ => ⟨he, hw ▸ Sees.refl w⟩
  · by_cases h1 : h < n
    · rw [show z = h by omega]
      exact (near_high n l h h0 h1 w).mono fun e W ⟨he, hw⟩ => ⟨he, hw ▸ Sees.refl w⟩
    · rw [show z = n by omega]
      exact (near_in n l h h0 h1 w).mono fun e W ⟨he, hw⟩ => ⟨he, hw ▸ Sees.refl w⟩
set_option maxHeartbeats 2000000 in
theorem placed_0 (row col : Int) (p : Bool)  (h0 : ¬ 0 ≤ row) (w : World) : Calls Tryd.prog 26 #[.agg #[.int .i64 row, .int .i64 col, .bool p]] w fun e w' => e = .returned (.bool false) ∧ Sees w w' := by
  have hr := (Sees.refl w).alloc (.cells #[.int .i64 row, .int .i64 col, .bool p] 23)
  have t0 : decide (row ≥ 0) = false := decide_eq_false h0
  go_enter Tryd.func26, Tryd.ntmps26
  go_wp2
  go_ret
  exact ⟨rfl, hr⟩
set_option maxHeartbeats 2000000 in
theorem placed_1 (row col : Int) (p : Bool) (h0 : 0 ≤ row) (h1 : ¬ row < 1000) (w : World) : Calls Tryd.prog 26 #[.agg #[.int .i64 row, .int .i64 col, .bool p]] w fun e w' => e = .returned (.bool false) ∧ Sees w w' := by
  have hr := (Sees.refl w).alloc (.cells #[.int .i64 row, .int .i64 col, .bool p] 23)
  have t0 : decide (row ≥ 0) = true := decide_eq_true h0
  have t1 : decide (row < 1000) = false := decide_eq_false h1
  go_enter Tryd.func26, Tryd.ntmps26
  go_wp2
  go_ret
  exact ⟨rfl, hr⟩
set_option maxHeartbeats 2000000 in
theorem placed_2 (row col : Int) (p : Bool) (h0 : 0 ≤ row) (h1 : row < 1000) (h2 : ¬ 0 ≤ col) (w : World) : Calls Tryd.prog 26 #[.agg #[.int .i64 row, .int .i64 col, .bool p]] w fun e w' => e = .returned (.bool false) ∧ Sees w w' := by
  have hr := (Sees.refl w).alloc (.cells #[.int .i64 row, .int .i64 col, .bool p] 23)
  have t0 : decide (row ≥ 0) = true := decide_eq_true h0
  have t1 : decide (row < 1000) = true := decide_eq_true h1
  have t2 : decide (col ≥ 0) = false := decide_eq_false h2
  go_enter Tryd.func26, Tryd.ntmps26
  go_wp2
  go_ret
  exact ⟨rfl, hr⟩
set_option maxHeartbeats 2000000 in
theorem placed_3 (row col : Int) (p : Bool) (h0 : 0 ≤ row) (h1 : row < 1000) (h2 : 0 ≤ col) (h3 : ¬ col < 1000) (w : World) : Calls Tryd.prog 26 #[.agg #[.int .i64 row, .int .i64 col, .bool p]] w fun e w' => e = .returned (.bool false) ∧ Sees w w' := by
  have hr := (Sees.refl w).alloc (.cells #[.int .i64 row, .int .i64 col, .bool p] 23)
  have t0 : decide (row ≥ 0) = true := decide_eq_true h0
  have t1 : decide (row < 1000) = true := decide_eq_true h1
  have t2 : decide (col ≥ 0) = true := decide_eq_true h2
  have t3 : decide (col < 1000) = false := decide_eq_false h3
  go_enter Tryd.func26, Tryd.ntmps26
  go_wp2
  go_ret
  exact ⟨rfl, hr⟩
set_option maxHeartbeats 2000000 in
theorem placed_4 (row col : Int) (p : Bool) (h0 : 0 ≤ row) (h1 : row < 1000) (h2 : 0 ≤ col) (h3 : col < 1000) (w : World) : Calls Tryd.prog 26 #[.agg #[.int .i64 row, .int .i64 col, .bool p]] w fun e w' => e = .returned (.bool true) ∧ Sees w w' := by
  have hr := (Sees.refl w).alloc (.cells #[.int .i64 row, .int .i64 col, .bool p] 23)
  have t0 : decide (row ≥ 0) = true := decide_eq_true h0
  have t1 : decide (row < 1000) = true := decide_eq_true h1
  have t2 : decide (col ≥ 0) = true := decide_eq_true h2
  have t3 : decide (col < 1000) = true := decide_eq_true h3
  go_enter Tryd.func26, Tryd.ntmps26
  go_wp2
  go_ret
  exact ⟨rfl, hr⟩
theorem placed_any (s : Sv) (w : World) : Calls Tryd.prog 26 #[.agg #[.int .i64 s.row, .int .i64 s.col, .bool s.pend]] w fun e w' => e = .returned (.bool s.placed) ∧ Sees w w' := by
  by_cases h0 : 0 ≤ s.row
  case neg =>
    rw [show s.placed = false from decide_eq_false (by omega)]
    exact placed_0 s.row s.col s.pend h0 w
  by_cases h1 : s.row < 1000
  case neg =>
    rw [show s.placed = false from decide_eq_false (by omega)]
    exact placed_1 s.row s.col s.pend h0 h1 w
  by_cases h2 : 0 ≤ s.col
  case neg =>
    rw [show s.placed = false from decide_eq_false (by omega)]
    exact placed_2 s.row s.col s.pend h0 h1 h2 w
  by_cases h3 : s.col < 1000
  case neg =>
    rw [show s.placed = false from decide_eq_false (by omega)]
    exact placed_3 s.row s.col s.pend h0 h1 h2 h3 w
  rw [show s.placed = true from decide_eq_true ⟨h0, h1, h2, h3⟩]
  exact placed_4 s.row s.col s.pend h0 h1 h2 h3 w
set_option maxHeartbeats 4000000 in
theorem lvalid_p (s : Sv) (h0 : s.placed = false) (w : World) : Calls Tryd.prog 9 #[s.val] w fun e w' => e = .returned (.bool false) ∧ Sees w w' := by
  have kp : Hid (∀ W, Calls Tryd.prog 26 #[.agg #[.int .i64 s.row, .int .i64 s.col, .bool s.pend]] W fun e w' => e = .returned (.bool false) ∧ Sees W w') := fun W => by have := placed_any s W; rw [h0] at this; exact this
  have A0 := SvAt.new w s
  have hr := (Sees.refl w).alloc (.cells s.cells 35)
  obtain ⟨c0, c1, c2, c3, c4, c5, c6, c7, c8, c9, c10, c11, c12, c13, c14, c15, c16, c17⟩ := A0.cs
  clear h0
  show Calls _ _ #[s.v] _ _
  go_enter Tryd.func9, Tryd.ntmps9
  go_wp2_with fail
  refine (kp.out _).mono ?_
  rintro e W1 ⟨rfl, s1⟩
  go_wp2
  go_ret
  exact ⟨rfl, hr.trans s1⟩
set_option maxHeartbeats 4000000 in
theorem lvalid_n (s : Sv) (h0 : s.placed = true) (h1 : s.pen = false) (w : World) : Calls Tryd.prog 9 #[s.val] w fun e w' => e = .returned (.bool false) ∧ Sees w w' := by
  have kp : Hid (∀ W, Calls Tryd.prog 26 #[.agg #[.int .i64 s.row, .int .i64 s.col, .bool s.pend]] W fun e w' => e = .returned (.bool true) ∧ Sees W w') := fun W => by have := placed_any s W; rw [h0] at this; exact this
  have kn : Hid (∀ W, Calls Tryd.prog 24 #[.agg #[.int .i64 s.a0, .int .u8 s.a1, .int .u8 s.a2, .int .u8 s.a3, .int .u8 s.a4, .int .i64 s.a5, .int .u8 s.a6, .int .u8 s.a7, .int .u8 s.a8, .int .u8 s.a9, .int .u8 s.a10]] W fun e w' => e = .returned (.bool false) ∧ Sees W w') := fun W => by
    have := penValid_any s.a0 s.a1 s.a2 s.a3 s.a4 s.a5 s.a6 s.a7 s.a8 s.a9 s.a10 W
    rw [show vPen s.a0 s.a1 s.a2 s.a3 s.a4 s.a5 s.a6 s.a7 s.a8 s.a9 = false from h1] at this
    exact this
  have A0 := SvAt.new w s
  have hr := (Sees.refl w).alloc (.cells s.cells 35)
  obtain ⟨c0, c1, c2, c3, c4, c5, c6, c7, c8, c9, c10, c11, c12, c13, c14, c15, c16, c17⟩ := A0.cs
  clear h0 h1
  show Calls _ _ #[s.v] _ _
  go_enter Tryd.func9, Tryd.ntmps9
  go_wp2_with fail
  refine (kp.out _).mono ?_
  rintro e W1 ⟨rfl, s1⟩
  have A1 := A0.sees s1
  clear c0 c1 c2 c3 c4 c5 c6 c7 c8 c9 c10 c11 c12 c13 c14 c15 c16 c17
  obtain ⟨c0, c1, c2, c3, c4, c5, c6, c7, c8, c9, c10, c11, c12, c13, c14, c15, c16, c17⟩ := A1.cs
  go_wp2_with fail
  refine (kn.out _).mono ?_
  rintro e W2 ⟨rfl, s2⟩
  go_wp2
  go_ret
  exact ⟨rfl, (hr.trans s1).trans s2⟩
set_option maxHeartbeats 4000000 in
theorem lvalid_c (s : Sv) (h0 : s.placed = true) (h1 : s.pen = true) (w : World) : Calls Tryd.prog 9 #[s.val] w fun e w' => e = .returned (.bool s.cs) ∧ Sees w w' := by
  have kp : Hid (∀ W, Calls Tryd.prog 26 #[.agg #[.int .i64 s.row, .int .i64 s.col, .bool s.pend]] W fun e w' => e = .returned (.bool true) ∧ Sees W w') := fun W => by have := placed_any s W; rw [h0] at this; exact this
  have kn : Hid (∀ W, Calls Tryd.prog 24 #[.agg #[.int .i64 s.a0, .int .u8 s.a1, .int .u8 s.a2, .int .u8 s.a3, .int .u8 s.a4, .int .i64 s.a5, .int .u8 s.a6, .int .u8 s.a7, .int .u8 s.a8, .int .u8 s.a9, .int .u8 s.a10]] W fun e w' => e = .returned (.bool true) ∧ Sees W w') := fun W => by
    have := penValid_any s.a0 s.a1 s.a2 s.a3 s.a4 s.a5 s.a6 s.a7 s.a8 s.a9 s.a10 W
    rw [show vPen s.a0 s.a1 s.a2 s.a3 s.a4 s.a5 s.a6 s.a7 s.a8 s.a9 = true from h1] at this
    exact this
  have kc : Hid (∀ W, Calls Tryd.prog 25 #[.agg #[.int .i64 s.g0, .int .i64 s.g1, .int .i64 s.act]] W fun e w' => e = .returned (.bool s.cs) ∧ Sees W w') := fun W => csValid_any s.g0 s.g1 s.act W
  have A0 := SvAt.new w s
  have hr := (Sees.refl w).alloc (.cells s.cells 35)
  obtain ⟨c0, c1, c2, c3, c4, c5, c6, c7, c8, c9, c10, c11, c12, c13, c14, c15, c16, c17⟩ := A0.cs
  clear h0 h1
  show Calls _ _ #[s.v] _ _
  go_enter Tryd.func9, Tryd.ntmps9
  go_wp2_with fail
  refine (kp.out _).mono ?_
  rintro e W1 ⟨rfl, s1⟩
  have A1 := A0.sees s1
  clear c0 c1 c2 c3 c4 c5 c6 c7 c8 c9 c10 c11 c12 c13 c14 c15 c16 c17
  obtain ⟨c0, c1, c2, c3, c4, c5, c6, c7, c8, c9, c10, c11, c12, c13, c14, c15, c16, c17⟩ := A1.cs
  go_wp2_with fail
  refine (kn.out _).mono ?_
  rintro e W2 ⟨rfl, s2⟩
  have A2 := A1.sees s2
  clear c0 c1 c2 c3 c4 c5 c6 c7 c8 c9 c10 c11 c12 c13 c14 c15 c16 c17
  obtain ⟨c0, c1, c2, c3, c4, c5, c6, c7, c8, c9, c10, c11, c12, c13, c14, c15, c16, c17⟩ := A2.cs
  go_wp2_with fail
  refine (kc.out _).mono ?_
  rintro e W3 ⟨rfl, s3⟩
  clear c0 c1 c2 c3 c4 c5 c6 c7 c8 c9 c10 c11 c12 c13 c14 c15 c16 c17
  go_wp2
  go_ret
  exact ⟨rfl, ((hr.trans s1).trans s2).trans s3⟩
theorem lvalid_any (s : Sv) (w : World) : Calls Tryd.prog 9 #[s.val] w fun e w' => e = .returned (.bool s.ok) ∧ Sees w w' := by
  unfold Sv.ok
  cases hp : s.placed
  · exact lvalid_p s hp w
  · cases hn : s.pen
    · exact lvalid_n s hp hn w
    · exact lvalid_c s hp hn w
set_option maxHeartbeats 8000000 in
set_option maxRecDepth 100000 in
theorem rrestore_tt (s : Sv) (a : Ar) (hv : s.ok = true) (hw : a.right = true) (ho : s.org = true) (h4 : (min s.col (a.cols - 1) == a.cols - 1) = true) (w : World) : Calls Tryd.prog 13 #[s.val, a.v] w fun e w' => e = .returned ({ s with row := max a.top (min s.row a.bot), col := min s.col (a.cols - 1), pend := s.pend } : Sv).val ∧ Sees w w' := by
  obtain ⟨r0, r1, r2, r3, r4, r5, r6⟩ := of_decide_eq_true hw
  have hpl : s.placed = true := s.ok_placed hv
  obtain ⟨q0, q1, q2, q3⟩ := of_decide_eq_true hpl
  clear hv hw hpl
  obtain ⟨z2, hz2⟩ : ∃ z, z = max a.top (min s.row a.bot) := ⟨_, rfl⟩
  obtain ⟨z3, hz3⟩ : ∃ z, z = min s.col (a.cols - 1) := ⟨_, rfl⟩
  have K2 : Hid (∀ W, Calls Tryd.prog 30 #[.int .i64 s.row, .int .i64 a.top, .int .i64 a.bot] W fun e w' => e = .returned (.int .i64 z2) ∧ Sees W w') := fun W => near_any s.row a.top a.bot z2 (by omega) hz2 W
  have K3 : Hid (∀ W, Calls Tryd.prog 30 #[.int .i64 s.col, .int .i64 0, .int .i64 (a.cols - 1)] W fun e w' => e = .returned (.int .i64 z3) ∧ Sees W w') := fun W => near_any s.col 0 (a.cols - 1) z3 (by omega) (by omega) W
  rw [← hz3] at h4
  have h5 : (z3 != a.cols - 1) = false := by rw [bne, h4]; rfl
  have Hz2 := Lib.hid hz2
  have Hz3 := Lib.hid hz3
  have H4 := Lib.hid h4
  have wr : IntKind.i64.wrap (a.cols - 1) = a.cols - 1 := by rw [IntKind.wrap_i64]; omega
  have wr2 : IntKind.i64.wrap (a.rows - 1) = a.rows - 1 := by rw [IntKind.wrap_i64]; omega
  clear hz2 hz3 h4
  go_enter Tryd.func13, Tryd.ntmps13
  go_upto_region 1 with (first
    | (refine wpList_val rfl (exec_box (cs := s.cells) rfl rfl) (fun K hK => ?_); go_simp; refine hK _ _ ?_; clear hK K)
    | (refine wpList_val rfl (exec_box (cs := a.cells) rfl rfl) (fun K hK => ?_); go_simp; refine hK _ _ ?_; clear hK K))
  refine wp_world fun W0 hW0 => ?_
  obtain ⟨A0, B0, Z0, S0⟩ := sar3 w s a W0 hW0
  clear hW0
  have hval : ∀ x v, (Spec.is x).val v = x := fun _ _ => rfl
  have hval2 : ∀ V v, (Spec.so V).val v = v := fun _ _ => rfl
  (try go_wp2_with fail)
  refine wpFrom_go (by kernel_rfl) (by kernel_rfl) (fun hB w1 hw1 => ?_)
  have A1 := Lib.hid (A0.sees hw1)
  have B1 := Lib.hid (B0.sees hw1)
  have Z1 := Lib.hid (Z0.sees hw1)
  have S1 := Lib.hid (S0.trans hw1)
  clear A0 B0 Z0 S0 hw1
  have hst : segStay (Sees w1) [.is (.pointer (some ⟨w.heap.size + 1, 0, none⟩)), .is (.int .i64 a.rows), .is (.int .i64 (a.rows - 1)), .is (.int .i64 0), .is (.int .i64 (a.rows - 1))] := trivial
  refine wpFrom_any 5 _ hB (by kernel_rfl) rfl hst (by simp only [List.cons_append, List.nil_append, List.drop_succ_cons, List.drop_zero, List.take_succ_cons, List.take_zero, Nat.reduceSub]; rfl) ?_
  refine ⟨fun vs W hI hV => .inl ⟨by clear hI hV hst; go_simp, .inl (by clear hI hV hst; (try simp only [Act.put, hval, hval2, List.setIfInBounds_toArray, List.set_cons_zero, List.set_cons_succ]); go_simp)⟩, ?_⟩
  refine ⟨fun vs W hI hV => .inl ⟨by clear hI hV hst; go_simp, .inl (by have q := (B1.out.sees hI).cs.1; clear hI hV hst; (try simp only [Act.put, hval, hval2, List.setIfInBounds_toArray, List.set_cons_zero, List.set_cons_succ]); go_simp)⟩, ?_⟩
  refine ⟨fun vs W hI hV => .inl ⟨by clear hI hV hst; go_simp, .inl (by clear hI hV hst; (try simp only [Act.put, hval, hval2, List.setIfInBounds_toArray, List.set_cons_zero, List.set_cons_succ]); go_simp)⟩, ?_⟩
  refine ⟨fun vs W hI hV => .inl ⟨by clear hI hV hst; go_simp, .inl (by clear hI hV hst; (try simp only [Act.put, hval, hval2, List.setIfInBounds_toArray, List.set_cons_zero, List.set_cons_succ]); go_simp)⟩, ?_⟩
  refine ⟨fun vs W hI hV => .inl ⟨by clear hI hV hst; go_simp, .inl (by clear hI hV hst; (try simp only [Act.put, hval, hval2, List.setIfInBounds_toArray, List.set_cons_zero, List.set_cons_succ]); go_simp)⟩, ?_⟩
  intro vs w2 hI hV
  have A2 := A1.out.sees hI
  have B2 := B1.out.sees hI
  have Z2 := Z1.out.sees hI
  have S2 := S1.out.trans hI
  clear hI hV hst A1 B1 Z1 S1
  (try simp only [Act.put, hval, hval2, List.setIfInBounds_toArray, List.set_cons_zero, List.set_cons_succ])
  go_simp
  refine wpFrom_end rfl ?_
  have c14 : w2.cell? ⟨w.heap.size, 14, none⟩ = some (.bool true) := by rw [← ho]; exact A2.cs.2.2.2.2.2.2.2.2.2.2.2.2.2.2.1
  go_wp2_with fail
  refine wpFrom_go (by kernel_rfl) (by kernel_rfl) (fun hB w3 hw3 => ?_)
  have A3 := Lib.hid (A2.sees hw3)
  have B3 := Lib.hid (B2.sees hw3)
  have Z3 := Lib.hid (Z2.sees hw3)
  have S3 := Lib.hid (S2.trans hw3)
  clear A2 B2 Z2 S2 hw3 c14
  have hst : segStay (Sees w3) [.is (.pointer (some ⟨w.heap.size + 1, 2, none⟩)), .is (.pointer (some ⟨w.heap.size + 1, 2, none⟩)), .is (.int .i64 a.top), .is (.pointer (some ⟨w.heap.size + 1, 2, none⟩)), .is (.pointer (some ⟨w.heap.size + 1, 3, none⟩)), .is (.int .i64 a.bot), .is (.int .i64 a.top), .is (.int .i64 a.bot)] := trivial
  refine wpFrom_any 8 _ hB (by kernel_rfl) rfl hst (by simp only [List.cons_append, List.nil_append, List.drop_succ_cons, List.drop_zero, List.take_succ_cons, List.take_zero, Nat.reduceSub]; rfl) ?_
  refine ⟨fun vs W hI hV => .inl ⟨by clear hI hV hst; go_simp, .inl (by clear hI hV hst; (try simp only [Act.put, hval, hval2, List.setIfInBounds_toArray, List.set_cons_zero, List.set_cons_succ]); go_simp)⟩, ?_⟩
  refine ⟨fun vs W hI hV => .inl ⟨by clear hI hV hst; go_simp, .inl (by clear hI hV hst; (try simp only [Act.put, hval, hval2, List.setIfInBounds_toArray, List.set_cons_zero, List.set_cons_succ]); go_simp)⟩, ?_⟩
  refine ⟨fun vs W hI hV => .inl ⟨by clear hI hV hst; go_simp, .inl (by have q := (B3.out.sees hI).cs.2.2.1; clear hI hV hst; (try simp only [Act.put, hval, hval2, List.setIfInBounds_toArray, List.set_cons_zero, List.set_cons_succ]); go_simp)⟩, ?_⟩
  refine ⟨fun vs W hI hV => .inl ⟨by clear hI hV hst; go_simp, .inl (by clear hI hV hst; (try simp only [Act.put, hval, hval2, List.setIfInBounds_toArray, List.set_cons_zero, List.set_cons_succ]); go_simp)⟩, ?_⟩
  refine ⟨fun vs W hI hV => .inl ⟨by clear hI hV hst; go_simp, .inl (by clear hI hV hst; (try simp only [Act.put, hval, hval2, List.setIfInBounds_toArray, List.set_cons_zero, List.set_cons_succ]); go_simp)⟩, ?_⟩
  refine ⟨fun vs W hI hV => .inl ⟨by clear hI hV hst; go_simp, .inl (by have q := (B3.out.sees hI).cs.2.2.2.1; clear hI hV hst; (try simp only [Act.put, hval, hval2, List.setIfInBounds_toArray, List.set_cons_zero, List.set_cons_succ]); go_simp)⟩, ?_⟩
  refine ⟨fun vs W hI hV => .inl ⟨by clear hI hV hst; go_simp, .inl (by clear hI hV hst; (try simp only [Act.put, hval, hval2, List.setIfInBounds_toArray, List.set_cons_zero, List.set_cons_succ]); go_simp)⟩, ?_⟩
  refine ⟨fun vs W hI hV => .inl ⟨by clear hI hV hst; go_simp, .inl (by clear hI hV hst; (try simp only [Act.put, hval, hval2, List.setIfInBounds_toArray, List.set_cons_zero, List.set_cons_succ]); go_simp)⟩, ?_⟩
  intro vs w4 hI hV
  have A4 := A3.out.sees hI
  have B4 := B3.out.sees hI
  have Z4 := Z3.out.sees hI
  have S4 := S3.out.trans hI
  clear hI hV hst A3 B3 Z3 S3
  (try simp only [Act.put, hval, hval2, List.setIfInBounds_toArray, List.set_cons_zero, List.set_cons_succ])
  go_simp
  refine wpFrom_end rfl ?_
  have c0 := A4.cs.1
  go_wp2_with fail
  refine (K2.out _).mono ?_
  rintro e w5 ⟨rfl, s5⟩
  have A5 := (A4.sees s5).row z2
  have B5 := (B4.sees s5).off (a := ⟨w.heap.size, 0, none⟩) (by dsimp only; omega) (.int .i64 z2)
  have Z5 := (Z4.sees s5).off (a := ⟨w.heap.size, 0, none⟩) (by dsimp only; omega) (.int .i64 z2)
  have S5 := (S4.trans s5).setCell (p := ⟨w.heap.size, 0, none⟩) (Nat.le_refl _) (.int .i64 z2)
  have c0' := (A4.sees s5).cs.1
  have f0 := frozen_of_row _ _ 0 _ _ (A4.sees s5)
  have c1 := A5.cs.2.1
  have d1 := B5.cs.2.1
  clear c0 A4 B4 Z4 S4 s5
  go_wp2_with fail
  refine (K3.out _).mono ?_
  rintro e w6 ⟨rfl, s6⟩
  have A6 := (A5.sees s6).col z3
  have B6 := (B5.sees s6).off (a := ⟨w.heap.size, 1, none⟩) (by dsimp only; omega) (.int .i64 z3)
  have Z6 := (Z5.sees s6).off (a := ⟨w.heap.size, 1, none⟩) (by dsimp only; omega) (.int .i64 z3)
  have S6 := (S5.trans s6).setCell (p := ⟨w.heap.size, 1, none⟩) (Nat.le_refl _) (.int .i64 z3)
  have c0 := (A5.sees s6).cs.2.1
  have f0' := frozen_of_row _ _ 1 _ _ (A5.sees s6)
  have c1' := A6.cs.2.1
  have d1' := B6.cs.2.1
  clear c0' f0 c1 d1 A5 B5 Z5 S5 s6
  have A7 := A6
  have Z7 := Z6
  have S7 := S6
  obtain ⟨s', hs'⟩ : ∃ x : Sv, x = { s with row := z2, col := z3, pend := s.pend } := ⟨_, rfl⟩
  have A8 : SvAt _ _ s' := hs' ▸ A7
  have Hs' := Lib.hid hs'
  clear hs' A7 A6
  go_wp2_with (first | (refine wpList_val rfl (exec_load (v := s'.val) rfl rfl (run_loadSv A8)) (fun K hK => ?_); go_simp; refine hK _ _ ?_; clear hK K) | (refine wpList_skip rfl (exec_store (v := s'.val) rfl rfl rfl (run_storeSv Z7 s')) (fun K hK => ?_); go_simp; refine hK _ _ ?_; clear hK K))
  refine bodyPost_ret_by (results_sv1 (s := s') rfl rfl (SvAt.stored Z7 _)) rfl ⟨?_, ?_⟩
  · rw [Hs'.out, Hz3.out, Hz2.out]
  · exact Sees.setRow S7 (by omega) _
set_option maxHeartbeats 8000000 in
set_option maxRecDepth 100000 in
theorem rrestore_tf (s : Sv) (a : Ar) (hv : s.ok = true) (hw : a.right = true) (ho : s.org = true) (h4 : (min s.col (a.cols - 1) == a.cols - 1) = false) (w : World) : Calls Tryd.prog 13 #[s.val, a.v] w fun e w' => e = .returned ({ s with row := max a.top (min s.row a.bot), col := min s.col (a.cols - 1), pend := false } : Sv).val ∧ Sees w w' := by
  obtain ⟨r0, r1, r2, r3, r4, r5, r6⟩ := of_decide_eq_true hw
  have hpl : s.placed = true := s.ok_placed hv
  obtain ⟨q0, q1, q2, q3⟩ := of_decide_eq_true hpl
  clear hv hw hpl
  obtain ⟨z2, hz2⟩ : ∃ z, z = max a.top (min s.row a.bot) := ⟨_, rfl⟩
  obtain ⟨z3, hz3⟩ : ∃ z, z = min s.col (a.cols - 1) := ⟨_, rfl⟩
  have K2 : Hid (∀ W, Calls Tryd.prog 30 #[.int .i64 s.row, .int .i64 a.top, .int .i64 a.bot] W fun e w' => e = .returned (.int .i64 z2) ∧ Sees W w') := fun W => near_any s.row a.top a.bot z2 (by omega) hz2 W
  have K3 : Hid (∀ W, Calls Tryd.prog 30 #[.int .i64 s.col, .int .i64 0, .int .i64 (a.cols - 1)] W fun e w' => e = .returned (.int .i64 z3) ∧ Sees W w') := fun W => near_any s.col 0 (a.cols - 1) z3 (by omega) (by omega) W
  rw [← hz3] at h4
  have h5 : (z3 != a.cols - 1) = true := by rw [bne, h4]; rfl
  have Hz2 := Lib.hid hz2
  have Hz3 := Lib.hid hz3
  have H4 := Lib.hid h4
  have wr : IntKind.i64.wrap (a.cols - 1) = a.cols - 1 := by rw [IntKind.wrap_i64]; omega
  have wr2 : IntKind.i64.wrap (a.rows - 1) = a.rows - 1 := by rw [IntKind.wrap_i64]; omega
  clear hz2 hz3 h4
  go_enter Tryd.func13, Tryd.ntmps13
  go_upto_region 1 with (first
    | (refine wpList_val rfl (exec_box (cs := s.cells) rfl rfl) (fun K hK => ?_); go_simp; refine hK _ _ ?_; clear hK K)
    | (refine wpList_val rfl (exec_box (cs := a.cells) rfl rfl) (fun K hK => ?_); go_simp; refine hK _ _ ?_; clear hK K))
  refine wp_world fun W0 hW0 => ?_
  obtain ⟨A0, B0, Z0, S0⟩ := sar3 w s a W0 hW0
  clear hW0
  have hval : ∀ x v, (Spec.is x).val v = x := fun _ _ => rfl
  have hval2 : ∀ V v, (Spec.so V).val v = v := fun _ _ => rfl
  (try go_wp2_with fail)
  refine wpFrom_go (by kernel_rfl) (by kernel_rfl) (fun hB w1 hw1 => ?_)
  have A1 := Lib.hid (A0.sees hw1)
  have B1 := Lib.hid (B0.sees hw1)
  have Z1 := Lib.hid (Z0.sees hw1)
  have S1 := Lib.hid (S0.trans hw1)
  clear A0 B0 Z0 S0 hw1
  have hst : segStay (Sees w1) [.is (.pointer (some ⟨w.heap.size + 1, 0, none⟩)), .is (.int .i64 a.rows), .is (.int .i64 (a.rows - 1)), .is (.int .i64 0), .is (.int .i64 (a.rows - 1))] := trivial
  refine wpFrom_any 5 _ hB (by kernel_rfl) rfl hst (by simp only [List.cons_append, List.nil_append, List.drop_succ_cons, List.drop_zero, List.take_succ_cons, List.take_zero, Nat.reduceSub]; rfl) ?_
  refine ⟨fun vs W hI hV => .inl ⟨by clear hI hV hst; go_simp, .inl (by clear hI hV hst; (try simp only [Act.put, hval, hval2, List.setIfInBounds_toArray, List.set_cons_zero, List.set_cons_succ]); go_simp)⟩, ?_⟩
  refine ⟨fun vs W hI hV => .inl ⟨by clear hI hV hst; go_simp, .inl (by have q := (B1.out.sees hI).cs.1; clear hI hV hst; (try simp only [Act.put, hval, hval2, List.setIfInBounds_toArray, List.set_cons_zero, List.set_cons_succ]); go_simp)⟩, ?_⟩
  refine ⟨fun vs W hI hV => .inl ⟨by clear hI hV hst; go_simp, .inl (by clear hI hV hst; (try simp only [Act.put, hval, hval2, List.setIfInBounds_toArray, List.set_cons_zero, List.set_cons_succ]); go_simp)⟩, ?_⟩
  refine ⟨fun vs W hI hV => .inl ⟨by clear hI hV hst; go_simp, .inl (by clear hI hV hst; (try simp only [Act.put, hval, hval2, List.setIfInBounds_toArray, List.set_cons_zero, List.set_cons_succ]); go_simp)⟩, ?_⟩
  refine ⟨fun vs W hI hV => .inl ⟨by clear hI hV hst; go_simp, .inl (by clear hI hV hst; (try simp only [Act.put, hval, hval2, List.setIfInBounds_toArray, List.set_cons_zero, List.set_cons_succ]); go_simp)⟩, ?_⟩
  intro vs w2 hI hV
  have A2 := A1.out.sees hI
  have B2 := B1.out.sees hI
  have Z2 := Z1.out.sees hI
  have S2 := S1.out.trans hI
  clear hI hV hst A1 B1 Z1 S1
  (try simp only [Act.put, hval, hval2, List.setIfInBounds_toArray, List.set_cons_zero, List.set_cons_succ])
  go_simp
  refine wpFrom_end rfl ?_
  have c14 : w2.cell? ⟨w.heap.size, 14, none⟩ = some (.bool true) := by rw [← ho]; exact A2.cs.2.2.2.2.2.2.2.2.2.2.2.2.2.2.1
  go_wp2_with fail
  refine wpFrom_go (by kernel_rfl) (by kernel_rfl) (fun hB w3 hw3 => ?_)
  have A3 := Lib.hid (A2.sees hw3)
  have B3 := Lib.hid (B2.sees hw3)
  have Z3 := Lib.hid (Z2.sees hw3)
  have S3 := Lib.hid (S2.trans hw3)
  clear A2 B2 Z2 S2 hw3 c14
  have hst : segStay (Sees w3) [.is (.pointer (some ⟨w.heap.size + 1, 2, none⟩)), .is (.pointer (some ⟨w.heap.size + 1, 2, none⟩)), .is (.int .i64 a.top), .is (.pointer (some ⟨w.heap.size + 1, 2, none⟩)), .is (.pointer (some ⟨w.heap.size + 1, 3, none⟩)), .is (.int .i64 a.bot), .is (.int .i64 a.top), .is (.int .i64 a.bot)] := trivial
  refine wpFrom_any 8 _ hB (by kernel_rfl) rfl hst (by simp only [List.cons_append, List.nil_append, List.drop_succ_cons, List.drop_zero, List.take_succ_cons, List.take_zero, Nat.reduceSub]; rfl) ?_
  refine ⟨fun vs W hI hV => .inl ⟨by clear hI hV hst; go_simp, .inl (by clear hI hV hst; (try simp only [Act.put, hval, hval2, List.setIfInBounds_toArray, List.set_cons_zero, List.set_cons_succ]); go_simp)⟩, ?_⟩
  refine ⟨fun vs W hI hV => .inl ⟨by clear hI hV hst; go_simp, .inl (by clear hI hV hst; (try simp only [Act.put, hval, hval2, List.setIfInBounds_toArray, List.set_cons_zero, List.set_cons_succ]); go_simp)⟩, ?_⟩
  refine ⟨fun vs W hI hV => .inl ⟨by clear hI hV hst; go_simp, .inl (by have q := (B3.out.sees hI).cs.2.2.1; clear hI hV hst; (try simp only [Act.put, hval, hval2, List.setIfInBounds_toArray, List.set_cons_zero, List.set_cons_succ]); go_simp)⟩, ?_⟩
  refine ⟨fun vs W hI hV => .inl ⟨by clear hI hV hst; go_simp, .inl (by clear hI hV hst; (try simp only [Act.put, hval, hval2, List.setIfInBounds_toArray, List.set_cons_zero, List.set_cons_succ]); go_simp)⟩, ?_⟩
  refine ⟨fun vs W hI hV => .inl ⟨by clear hI hV hst; go_simp, .inl (by clear hI hV hst; (try simp only [Act.put, hval, hval2, List.setIfInBounds_toArray, List.set_cons_zero, List.set_cons_succ]); go_simp)⟩, ?_⟩
  refine ⟨fun vs W hI hV => .inl ⟨by clear hI hV hst; go_simp, .inl (by have q := (B3.out.sees hI).cs.2.2.2.1; clear hI hV hst; (try simp only [Act.put, hval, hval2, List.setIfInBounds_toArray, List.set_cons_zero, List.set_cons_succ]); go_simp)⟩, ?_⟩
  refine ⟨fun vs W hI hV => .inl ⟨by clear hI hV hst; go_simp, .inl (by clear hI hV hst; (try simp only [Act.put, hval, hval2, List.setIfInBounds_toArray, List.set_cons_zero, List.set_cons_succ]); go_simp)⟩, ?_⟩
  refine ⟨fun vs W hI hV => .inl ⟨by clear hI hV hst; go_simp, .inl (by clear hI hV hst; (try simp only [Act.put, hval, hval2, List.setIfInBounds_toArray, List.set_cons_zero, List.set_cons_succ]); go_simp)⟩, ?_⟩
  intro vs w4 hI hV
  have A4 := A3.out.sees hI
  have B4 := B3.out.sees hI
  have Z4 := Z3.out.sees hI
  have S4 := S3.out.trans hI
  clear hI hV hst A3 B3 Z3 S3
  (try simp only [Act.put, hval, hval2, List.setIfInBounds_toArray, List.set_cons_zero, List.set_cons_succ])
  go_simp
  refine wpFrom_end rfl ?_
  have c0 := A4.cs.1
  go_wp2_with fail
  refine (K2.out _).mono ?_
  rintro e w5 ⟨rfl, s5⟩
  have A5 := (A4.sees s5).row z2
  have B5 := (B4.sees s5).off (a := ⟨w.heap.size, 0, none⟩) (by dsimp only; omega) (.int .i64 z2)
  have Z5 := (Z4.sees s5).off (a := ⟨w.heap.size, 0, none⟩) (by dsimp only; omega) (.int .i64 z2)
  have S5 := (S4.trans s5).setCell (p := ⟨w.heap.size, 0, none⟩) (Nat.le_refl _) (.int .i64 z2)
  have c0' := (A4.sees s5).cs.1
  have f0 := frozen_of_row _ _ 0 _ _ (A4.sees s5)
  have c1 := A5.cs.2.1
  have d1 := B5.cs.2.1
  clear c0 A4 B4 Z4 S4 s5
  go_wp2_with fail
  refine (K3.out _).mono ?_
  rintro e w6 ⟨rfl, s6⟩
  have A6 := (A5.sees s6).col z3
  have B6 := (B5.sees s6).off (a := ⟨w.heap.size, 1, none⟩) (by dsimp only; omega) (.int .i64 z3)
  have Z6 := (Z5.sees s6).off (a := ⟨w.heap.size, 1, none⟩) (by dsimp only; omega) (.int .i64 z3)
  have S6 := (S5.trans s6).setCell (p := ⟨w.heap.size, 1, none⟩) (Nat.le_refl _) (.int .i64 z3)
  have c0 := (A5.sees s6).cs.2.1
  have f0' := frozen_of_row _ _ 1 _ _ (A5.sees s6)
  have c1' := A6.cs.2.1
  have d1' := B6.cs.2.1
  clear c0' f0 c1 d1 A5 B5 Z5 S5 s6
  have c2 := A6.cs.2.2.1
  have f2 := frozen_of_row _ _ 2 _ _ A6
  go_upto_region 8 with fail
  refine wp_world fun W7 hW7 => ?_
  have A7 : SvAt W7 w.heap.size { s with row := z2, col := z3, pend := false } := hW7 ▸ A6.pend false
  have Z7 : SvAt W7 (w.heap.size + 1 + 1) zSv := hW7 ▸ Z6.off (a := ⟨w.heap.size, 2, none⟩) (by dsimp only; omega) (.bool false)
  have S7 : Sees w W7 := hW7 ▸ S6.setCell (p := ⟨w.heap.size, 2, none⟩) (Nat.le_refl _) (.bool false)
  clear hW7
  obtain ⟨s', hs'⟩ : ∃ x : Sv, x = { s with row := z2, col := z3, pend := false } := ⟨_, rfl⟩
  have A8 : SvAt _ _ s' := hs' ▸ A7
  have Hs' := Lib.hid hs'
  clear hs' A7 A6
  go_wp2_with (first | (refine wpList_val rfl (exec_load (v := s'.val) rfl rfl (run_loadSv A8)) (fun K hK => ?_); go_simp; refine hK _ _ ?_; clear hK K) | (refine wpList_skip rfl (exec_store (v := s'.val) rfl rfl rfl (run_storeSv Z7 s')) (fun K hK => ?_); go_simp; refine hK _ _ ?_; clear hK K))
  refine bodyPost_ret_by (results_sv1 (s := s') rfl rfl (SvAt.stored Z7 _)) rfl ⟨?_, ?_⟩
  · rw [Hs'.out, Hz3.out, Hz2.out]
  · exact Sees.setRow S7 (by omega) _
set_option maxHeartbeats 8000000 in
set_option maxRecDepth 100000 in
theorem rrestore_ft (s : Sv) (a : Ar) (hv : s.ok = true) (hw : a.right = true) (ho : s.org = false) (h4 : (min s.col (a.cols - 1) == a.cols - 1) = true) (w : World) : Calls Tryd.prog 13 #[s.val, a.v] w fun e w' => e = .returned ({ s with row := max 0 (min s.row (a.rows - 1)), col := min s.col (a.cols - 1), pend := s.pend } : Sv).val ∧ Sees w w' := by
  obtain ⟨r0, r1, r2, r3, r4, r5, r6⟩ := of_decide_eq_true hw
  have hpl : s.placed = true := s.ok_placed hv
  obtain ⟨q0, q1, q2, q3⟩ := of_decide_eq_true hpl
  clear hv hw hpl
  obtain ⟨z2, hz2⟩ : ∃ z, z = max 0 (min s.row (a.rows - 1)) := ⟨_, rfl⟩
  obtain ⟨z3, hz3⟩ : ∃ z, z = min s.col (a.cols - 1) := ⟨_, rfl⟩
  have K2 : Hid (∀ W, Calls Tryd.prog 30 #[.int .i64 s.row, .int .i64 0, .int .i64 (a.rows - 1)] W fun e w' => e = .returned (.int .i64 z2) ∧ Sees W w') := fun W => near_any s.row 0 (a.rows - 1) z2 (by omega) hz2 W
  have K3 : Hid (∀ W, Calls Tryd.prog 30 #[.int .i64 s.col, .int .i64 0, .int .i64 (a.cols - 1)] W fun e w' => e = .returned (.int .i64 z3) ∧ Sees W w') := fun W => near_any s.col 0 (a.cols - 1) z3 (by omega) (by omega) W
  rw [← hz3] at h4
  have h5 : (z3 != a.cols - 1) = false := by rw [bne, h4]; rfl
  have Hz2 := Lib.hid hz2
  have Hz3 := Lib.hid hz3
  have H4 := Lib.hid h4
  have wr : IntKind.i64.wrap (a.cols - 1) = a.cols - 1 := by rw [IntKind.wrap_i64]; omega
  have wr2 : IntKind.i64.wrap (a.rows - 1) = a.rows - 1 := by rw [IntKind.wrap_i64]; omega
  clear hz2 hz3 h4
  go_enter Tryd.func13, Tryd.ntmps13
  go_upto_region 1 with (first
    | (refine wpList_val rfl (exec_box (cs := s.cells) rfl rfl) (fun K hK => ?_); go_simp; refine hK _ _ ?_; clear hK K)
    | (refine wpList_val rfl (exec_box (cs := a.cells) rfl rfl) (fun K hK => ?_); go_simp; refine hK _ _ ?_; clear hK K))
  refine wp_world fun W0 hW0 => ?_
  obtain ⟨A0, B0, Z0, S0⟩ := sar3 w s a W0 hW0
  clear hW0
  have hval : ∀ x v, (Spec.is x).val v = x := fun _ _ => rfl
  have hval2 : ∀ V v, (Spec.so V).val v = v := fun _ _ => rfl
  (try go_wp2_with fail)
  refine wpFrom_go (by kernel_rfl) (by kernel_rfl) (fun hB w1 hw1 => ?_)
  have A1 := Lib.hid (A0.sees hw1)
  have B1 := Lib.hid (B0.sees hw1)
  have Z1 := Lib.hid (Z0.sees hw1)
  have S1 := Lib.hid (S0.trans hw1)
  clear A0 B0 Z0 S0 hw1
  have hst : segStay (Sees w1) [.is (.pointer (some ⟨w.heap.size + 1, 0, none⟩)), .is (.int .i64 a.rows), .is (.int .i64 (a.rows - 1)), .is (.int .i64 0), .is (.int .i64 (a.rows - 1))] := trivial
  refine wpFrom_any 5 _ hB (by kernel_rfl) rfl hst (by simp only [List.cons_append, List.nil_append, List.drop_succ_cons, List.drop_zero, List.take_succ_cons, List.take_zero, Nat.reduceSub]; rfl) ?_
  refine ⟨fun vs W hI hV => .inl ⟨by clear hI hV hst; go_simp, .inl (by clear hI hV hst; (try simp only [Act.put, hval, hval2, List.setIfInBounds_toArray, List.set_cons_zero, List.set_cons_succ]); go_simp)⟩, ?_⟩
  refine ⟨fun vs W hI hV => .inl ⟨by clear hI hV hst; go_simp, .inl (by have q := (B1.out.sees hI).cs.1; clear hI hV hst; (try simp only [Act.put, hval, hval2, List.setIfInBounds_toArray, List.set_cons_zero, List.set_cons_succ]); go_simp)⟩, ?_⟩
  refine ⟨fun vs W hI hV => .inl ⟨by clear hI hV hst; go_simp, .inl (by clear hI hV hst; (try simp only [Act.put, hval, hval2, List.setIfInBounds_toArray, List.set_cons_zero, List.set_cons_succ]); go_simp)⟩, ?_⟩
  refine ⟨fun vs W hI hV => .inl ⟨by clear hI hV hst; go_simp, .inl (by clear hI hV hst; (try simp only [Act.put, hval, hval2, List.setIfInBounds_toArray, List.set_cons_zero, List.set_cons_succ]); go_simp)⟩, ?_⟩
  refine ⟨fun vs W hI hV => .inl ⟨by clear hI hV hst; go_simp, .inl (by clear hI hV hst; (try simp only [Act.put, hval, hval2, List.setIfInBounds_toArray, List.set_cons_zero, List.set_cons_succ]); go_simp)⟩, ?_⟩
  intro vs w2 hI hV
  have A2 := A1.out.sees hI
  have B2 := B1.out.sees hI
  have Z2 := Z1.out.sees hI
  have S2 := S1.out.trans hI
  clear hI hV hst A1 B1 Z1 S1
  (try simp only [Act.put, hval, hval2, List.setIfInBounds_toArray, List.set_cons_zero, List.set_cons_succ])
  go_simp
  refine wpFrom_end rfl ?_
  have c14 : w2.cell? ⟨w.heap.size, 14, none⟩ = some (.bool false) := by rw [← ho]; exact A2.cs.2.2.2.2.2.2.2.2.2.2.2.2.2.2.1
  have A4 := A2
  have B4 := B2
  have Z4 := Z2
  have S4 := S2
  clear A2 B2 Z2 S2
  have c0 := A4.cs.1
  go_wp2_with fail
  refine (K2.out _).mono ?_
  rintro e w5 ⟨rfl, s5⟩
  have A5 := (A4.sees s5).row z2
  have B5 := (B4.sees s5).off (a := ⟨w.heap.size, 0, none⟩) (by dsimp only; omega) (.int .i64 z2)
  have Z5 := (Z4.sees s5).off (a := ⟨w.heap.size, 0, none⟩) (by dsimp only; omega) (.int .i64 z2)
  have S5 := (S4.trans s5).setCell (p := ⟨w.heap.size, 0, none⟩) (Nat.le_refl _) (.int .i64 z2)
  have c0' := (A4.sees s5).cs.1
  have f0 := frozen_of_row _ _ 0 _ _ (A4.sees s5)
  have c1 := A5.cs.2.1
  have d1 := B5.cs.2.1
  clear c0 A4 B4 Z4 S4 s5 c14
  go_wp2_with fail
  refine (K3.out _).mono ?_
  rintro e w6 ⟨rfl, s6⟩
  have A6 := (A5.sees s6).col z3
  have B6 := (B5.sees s6).off (a := ⟨w.heap.size, 1, none⟩) (by dsimp only; omega) (.int .i64 z3)
  have Z6 := (Z5.sees s6).off (a := ⟨w.heap.size, 1, none⟩) (by dsimp only; omega) (.int .i64 z3)
  have S6 := (S5.trans s6).setCell (p := ⟨w.heap.size, 1, none⟩) (Nat.le_refl _) (.int .i64 z3)
  have c0 := (A5.sees s6).cs.2.1
  have f0' := frozen_of_row _ _ 1 _ _ (A5.sees s6)
  have c1' := A6.cs.2.1
  have d1' := B6.cs.2.1
  clear c0' f0 c1 d1 A5 B5 Z5 S5 s6
  have A7 := A6
  have Z7 := Z6
  have S7 := S6
  obtain ⟨s', hs'⟩ : ∃ x : Sv, x = { s with row := z2, col := z3, pend := s.pend } := ⟨_, rfl⟩
  have A8 : SvAt _ _ s' := hs' ▸ A7
  have Hs' := Lib.hid hs'
  clear hs' A7 A6
  go_wp2_with (first | (refine wpList_val rfl (exec_load (v := s'.val) rfl rfl (run_loadSv A8)) (fun K hK => ?_); go_simp; refine hK _ _ ?_; clear hK K) | (refine wpList_skip rfl (exec_store (v := s'.val) rfl rfl rfl (run_storeSv Z7 s')) (fun K hK => ?_); go_simp; refine hK _ _ ?_; clear hK K))
  refine bodyPost_ret_by (results_sv1 (s := s') rfl rfl (SvAt.stored Z7 _)) rfl ⟨?_, ?_⟩
  · rw [Hs'.out, Hz3.out, Hz2.out]
  · exact Sees.setRow S7 (by omega) _
set_option maxHeartbeats 8000000 in
set_option maxRecDepth 100000 in
theorem rrestore_ff (s : Sv) (a : Ar) (hv : s.ok = true) (hw : a.right = true) (ho : s.org = false) (h4 : (min s.col (a.cols - 1) == a.cols - 1) = false) (w : World) : Calls Tryd.prog 13 #[s.val, a.v] w fun e w' => e = .returned ({ s with row := max 0 (min s.row (a.rows - 1)), col := min s.col (a.cols - 1), pend := false } : Sv).val ∧ Sees w w' := by
  obtain ⟨r0, r1, r2, r3, r4, r5, r6⟩ := of_decide_eq_true hw
  have hpl : s.placed = true := s.ok_placed hv
  obtain ⟨q0, q1, q2, q3⟩ := of_decide_eq_true hpl
  clear hv hw hpl
  obtain ⟨z2, hz2⟩ : ∃ z, z = max 0 (min s.row (a.rows - 1)) := ⟨_, rfl⟩
  obtain ⟨z3, hz3⟩ : ∃ z, z = min s.col (a.cols - 1) := ⟨_, rfl⟩
  have K2 : Hid (∀ W, Calls Tryd.prog 30 #[.int .i64 s.row, .int .i64 0, .int .i64 (a.rows - 1)] W fun e w' => e = .returned (.int .i64 z2) ∧ Sees W w') := fun W => near_any s.row 0 (a.rows - 1) z2 (by omega) hz2 W
  have K3 : Hid (∀ W, Calls Tryd.prog 30 #[.int .i64 s.col, .int .i64 0, .int .i64 (a.cols - 1)] W fun e w' => e = .returned (.int .i64 z3) ∧ Sees W w') := fun W => near_any s.col 0 (a.cols - 1) z3 (by omega) (by omega) W
  rw [← hz3] at h4
  have h5 : (z3 != a.cols - 1) = true := by rw [bne, h4]; rfl
  have Hz2 := Lib.hid hz2
  have Hz3 := Lib.hid hz3
  have H4 := Lib.hid h4
  have wr : IntKind.i64.wrap (a.cols - 1) = a.cols - 1 := by rw [IntKind.wrap_i64]; omega
  have wr2 : IntKind.i64.wrap (a.rows - 1) = a.rows - 1 := by rw [IntKind.wrap_i64]; omega
  clear hz2 hz3 h4
  go_enter Tryd.func13, Tryd.ntmps13
  go_upto_region 1 with (first
    | (refine wpList_val rfl (exec_box (cs := s.cells) rfl rfl) (fun K hK => ?_); go_simp; refine hK _ _ ?_; clear hK K)
    | (refine wpList_val rfl (exec_box (cs := a.cells) rfl rfl) (fun K hK => ?_); go_simp; refine hK _ _ ?_; clear hK K))
  refine wp_world fun W0 hW0 => ?_
  obtain ⟨A0, B0, Z0, S0⟩ := sar3 w s a W0 hW0
  clear hW0
  have hval : ∀ x v, (Spec.is x).val v = x := fun _ _ => rfl
  have hval2 : ∀ V v, (Spec.so V).val v = v := fun _ _ => rfl
  (try go_wp2_with fail)
  refine wpFrom_go (by kernel_rfl) (by kernel_rfl) (fun hB w1 hw1 => ?_)
  have A1 := Lib.hid (A0.sees hw1)
  have B1 := Lib.hid (B0.sees hw1)
  have Z1 := Lib.hid (Z0.sees hw1)
  have S1 := Lib.hid (S0.trans hw1)
  clear A0 B0 Z0 S0 hw1
  have hst : segStay (Sees w1) [.is (.pointer (some ⟨w.heap.size + 1, 0, none⟩)), .is (.int .i64 a.rows), .is (.int .i64 (a.rows - 1)), .is (.int .i64 0), .is (.int .i64 (a.rows - 1))] := trivial
  refine wpFrom_any 5 _ hB (by kernel_rfl) rfl hst (by simp only [List.cons_append, List.nil_append, List.drop_succ_cons, List.drop_zero, List.take_succ_cons, List.take_zero, Nat.reduceSub]; rfl) ?_
  refine ⟨fun vs W hI hV => .inl ⟨by clear hI hV hst; go_simp, .inl (by clear hI hV hst; (try simp only [Act.put, hval, hval2, List.setIfInBounds_toArray, List.set_cons_zero, List.set_cons_succ]); go_simp)⟩, ?_⟩
  refine ⟨fun vs W hI hV => .inl ⟨by clear hI hV hst; go_simp, .inl (by have q := (B1.out.sees hI).cs.1; clear hI hV hst; (try simp only [Act.put, hval, hval2, List.setIfInBounds_toArray, List.set_cons_zero, List.set_cons_succ]); go_simp)⟩, ?_⟩
  refine ⟨fun vs W hI hV => .inl ⟨by clear hI hV hst; go_simp, .inl (by clear hI hV hst; (try simp only [Act.put, hval, hval2, List.setIfInBounds_toArray, List.set_cons_zero, List.set_cons_succ]); go_simp)⟩, ?_⟩
  refine ⟨fun vs W hI hV => .inl ⟨by clear hI hV hst; go_simp, .inl (by clear hI hV hst; (try simp only [Act.put, hval, hval2, List.setIfInBounds_toArray, List.set_cons_zero, List.set_cons_succ]); go_simp)⟩, ?_⟩
  refine ⟨fun vs W hI hV => .inl ⟨by clear hI hV hst; go_simp, .inl (by clear hI hV hst; (try simp only [Act.put, hval, hval2, List.setIfInBounds_toArray, List.set_cons_zero, List.set_cons_succ]); go_simp)⟩, ?_⟩
  intro vs w2 hI hV
  have A2 := A1.out.sees hI
  have B2 := B1.out.sees hI
  have Z2 := Z1.out.sees hI
  have S2 := S1.out.trans hI
  clear hI hV hst A1 B1 Z1 S1
  (try simp only [Act.put, hval, hval2, List.setIfInBounds_toArray, List.set_cons_zero, List.set_cons_succ])
  go_simp
  refine wpFrom_end rfl ?_
  have c14 : w2.cell? ⟨w.heap.size, 14, none⟩ = some (.bool false) := by rw [← ho]; exact A2.cs.2.2.2.2.2.2.2.2.2.2.2.2.2.2.1
  have A4 := A2
  have B4 := B2
  have Z4 := Z2
  have S4 := S2
  clear A2 B2 Z2 S2
  have c0 := A4.cs.1
  go_wp2_with fail
  refine (K2.out _).mono ?_
  rintro e w5 ⟨rfl, s5⟩
  have A5 := (A4.sees s5).row z2
  have B5 := (B4.sees s5).off (a := ⟨w.heap.size, 0, none⟩) (by dsimp only; omega) (.int .i64 z2)
  have Z5 := (Z4.sees s5).off (a := ⟨w.heap.size, 0, none⟩) (by dsimp only; omega) (.int .i64 z2)
  have S5 := (S4.trans s5).setCell (p := ⟨w.heap.size, 0, none⟩) (Nat.le_refl _) (.int .i64 z2)
  have c0' := (A4.sees s5).cs.1
  have f0 := frozen_of_row _ _ 0 _ _ (A4.sees s5)
  have c1 := A5.cs.2.1
  have d1 := B5.cs.2.1
  clear c0 A4 B4 Z4 S4 s5 c14
  go_wp2_with fail
  refine (K3.out _).mono ?_
  rintro e w6 ⟨rfl, s6⟩
  have A6 := (A5.sees s6).col z3
  have B6 := (B5.sees s6).off (a := ⟨w.heap.size, 1, none⟩) (by dsimp only; omega) (.int .i64 z3)
  have Z6 := (Z5.sees s6).off (a := ⟨w.heap.size, 1, none⟩) (by dsimp only; omega) (.int .i64 z3)
  have S6 := (S5.trans s6).setCell (p := ⟨w.heap.size, 1, none⟩) (Nat.le_refl _) (.int .i64 z3)
  have c0 := (A5.sees s6).cs.2.1
  have f0' := frozen_of_row _ _ 1 _ _ (A5.sees s6)
  have c1' := A6.cs.2.1
  have d1' := B6.cs.2.1
  clear c0' f0 c1 d1 A5 B5 Z5 S5 s6
  have c2 := A6.cs.2.2.1
  have f2 := frozen_of_row _ _ 2 _ _ A6
  go_upto_region 8 with fail
  refine wp_world fun W7 hW7 => ?_
  have A7 : SvAt W7 w.heap.size { s with row := z2, col := z3, pend := false } := hW7 ▸ A6.pend false
  have Z7 : SvAt W7 (w.heap.size + 1 + 1) zSv := hW7 ▸ Z6.off (a := ⟨w.heap.size, 2, none⟩) (by dsimp only; omega) (.bool false)
  have S7 : Sees w W7 := hW7 ▸ S6.setCell (p := ⟨w.heap.size, 2, none⟩) (Nat.le_refl _) (.bool false)
  clear hW7
  obtain ⟨s', hs'⟩ : ∃ x : Sv, x = { s with row := z2, col := z3, pend := false } := ⟨_, rfl⟩
  have A8 : SvAt _ _ s' := hs' ▸ A7
  have Hs' := Lib.hid hs'
  clear hs' A7 A6
  go_wp2_with (first | (refine wpList_val rfl (exec_load (v := s'.val) rfl rfl (run_loadSv A8)) (fun K hK => ?_); go_simp; refine hK _ _ ?_; clear hK K) | (refine wpList_skip rfl (exec_store (v := s'.val) rfl rfl rfl (run_storeSv Z7 s')) (fun K hK => ?_); go_simp; refine hK _ _ ?_; clear hK K))
  refine bodyPost_ret_by (results_sv1 (s := s') rfl rfl (SvAt.stored Z7 _)) rfl ⟨?_, ?_⟩
  · rw [Hs'.out, Hz3.out, Hz2.out]
  · exact Sees.setRow S7 (by omega) _
theorem resto_eq (s : Sv) (a : Ar) (hv : s.ok = true) (row : Int) (hr : row = if s.org then max a.top (min s.row a.bot) else max 0 (min s.row (a.rows - 1))) (b : Bool) (hb : b = (s.pend && (min s.col (a.cols - 1) == a.cols - 1))) : ({ s with row := row, col := min s.col (a.cols - 1), pend := b } : Sv) = resto s a := by
  subst hr hb
  rfl
theorem rrestore_ok (s : Sv) (a : Ar) (hv : s.ok = true) (hw : a.right = true) (w : World) : Calls Tryd.prog 13 #[s.val, a.v] w fun e w' => e = .returned (resto s a).val ∧ Sees w w' := by
  cases ho : s.org <;> cases h4 : (min s.col (a.cols - 1) == a.cols - 1)
  · rw [← resto_eq s a hv (max 0 (min s.row (a.rows - 1))) (by rw [ho]; rfl) false (by rw [h4, Bool.and_false])]
    exact rrestore_ff s a hv hw ho h4 w
  · rw [← resto_eq s a hv (max 0 (min s.row (a.rows - 1))) (by rw [ho]; rfl) s.pend (by rw [h4, Bool.and_true])]
    exact rrestore_ft s a hv hw ho h4 w
  · rw [← resto_eq s a hv (max a.top (min s.row a.bot)) (by rw [ho]; rfl) false (by rw [h4, Bool.and_false])]
    exact rrestore_tf s a hv hw ho h4 w
  · rw [← resto_eq s a hv (max a.top (min s.row a.bot)) (by rw [ho]; rfl) s.pend (by rw [h4, Bool.and_true])]
    exact rrestore_tt s a hv hw ho h4 w
end Go.Proofs.YtfgifjdholdohaaDoor
