/- restores, texts, parses, saves (23). No condition but a text's length. -/
import Derived.Test.YtfgifjdholdohaaDoorSaX
import Derived.Test.YtfgifjdholdohaaDoorSaY
import Derived.Test.YtfgifjdholdohaaDoorSaK
import Derived.Test.YtfgifjdholdohaaDoorSaZ
import Derived.Test.YtfgifjdholdohaaDoorSaS
namespace Go.Proofs.YtfgifjdholdohaaDoor
set_option linter.unusedVariables false
set_option linter.unusedSimpArgs false
open Go.RowKit

theorem wpList_valG {P : Program} {ops : Array Oper} {Q' : Exit → Act → World → Prop} {a : Act} {o : Oper} {rest : List Oper} {w : World} (hg : Region.wanted o (yielded ops a.tmps) = true) {v : Value} {w' : World} (hr : (execOp a.eval o).run P w = .ok (.value v) w') (h : ∀ K : Act → World → Prop, (∀ a w, wpList P ops Q' rest a w → K a w) → K (a.put o.dst v) w') : wpList P ops Q' (o :: rest) a w :=
  wpList_step fun K hK => by rw [if_pos hg]; unfold Oper.wp; rw [hr]; exact h K hK
theorem bex (w : World) (s t : Sv) (a : Ar) (W : World) (hW : W = ((w.alloc (.cells s.cells 35)).alloc (.cells a.cells 39)).alloc (.cells t.cells 35)) : SvAt W w.heap.size s ∧ ArAt W (w.heap.size + 1) a ∧ SvAt W (w.heap.size + 1 + 1) t ∧ Sees w W := by
  subst hW
  have a1 := (Sees.refl (w.alloc (.cells s.cells 35))).alloc (.cells a.cells 39)
  have a2 := (Sees.refl ((w.alloc (.cells s.cells 35)).alloc (.cells a.cells 39))).alloc (.cells t.cells 35)
  have B1 := (ArAt.new (w.alloc (.cells s.cells 35)) a).sees a2
  have Z0 := SvAt.new ((w.alloc (.cells s.cells 35)).alloc (.cells a.cells 39)) t
  rw [size_al] at B1
  rw [size_al, size_al] at Z0
  exact ⟨((SvAt.new w s).sees a1).sees a2, B1, Z0, (((Sees.refl w).alloc _).alloc _).alloc _⟩
set_option maxHeartbeats 8000000 in
set_option maxRecDepth 100000 in
theorem restores_ok (s : Sv) (a : Ar) (t : Sv) (no : Int) (hv : s.ok = true) (hw : a.right = true) (w : World) : Calls Tryd.prog 11 #[s.val, a.v, t.val, .int .i64 no] w fun e w' => e = .returned (.bool (eqSv (resto s a) t && (0 : Int) == no)) ∧ Sees w w' := by
  have K := Lib.hid (fun W => restore_ok s a hv hw W)
  obtain ⟨x, hx⟩ : ∃ x : Sv, x = (resto s a) := ⟨_, rfl⟩
  rw [← hx] at K ⊢
  have KI := Lib.hid (fun W => is_any x t 0 no W)
  generalize (eqSv x t && (0 : Int) == no) = b at KI ⊢
  clear hx
  go_enter Tryd.func11, Tryd.ntmps11
  go_upto_region 1 with (first
    | (refine wpList_val rfl (exec_box (cs := s.cells) rfl rfl) (fun K hK => ?_); go_simp; refine hK _ _ ?_; clear hK K)
    | (refine wpList_val rfl (exec_box (cs := a.cells) rfl rfl) (fun K hK => ?_); go_simp; refine hK _ _ ?_; clear hK K)
    | (refine wpList_val rfl (exec_box (cs := t.cells) rfl rfl) (fun K hK => ?_); go_simp; refine hK _ _ ?_; clear hK K))
  refine wp_world fun W0 hW0 => ?_
  obtain ⟨A0, B0, T0, S0⟩ := bex w s t a W0 hW0
  clear hW0
  go_wp2_with (first
    | (refine wpList_val rfl (exec_load (v := s.val) rfl rfl (run_loadSv A0)) (fun K hK => ?_); go_simp; refine hK _ _ ?_; clear hK K)
    | (refine wpList_val rfl (exec_load (v := a.v) rfl rfl (run_loadAr B0)) (fun K hK => ?_); go_simp; refine hK _ _ ?_; clear hK K))
  refine (K.out _).mono ?_
  rintro e W1 ⟨rfl, s1⟩
  have T1 := T0.sees (s1.alloc (.cells zSv.cells 35))
  have S1 := (S0.trans s1).alloc (.cells zSv.cells 35)
  have Z1 := SvAt.new W1 zSv
  have X1 := SvAt.stored Z1 x
  have T2 := T1.other (p := W1.heap.size) (by have := (Array.getElem?_eq_some_iff.1 T0).1; have := s1.size; omega) x.cells
  have S2 := S1.setRow (p := W1.heap.size) (by have := S0.size; have := s1.size; omega) x.cells
  clear A0 B0 T0 S0 s1 T1 S1
  go_wp2_with (first
    | (refine wpList_skip rfl (exec_store (v := x.val) rfl rfl rfl (run_storeSv Z1 x)) (fun K hK => ?_); go_simp; refine hK _ _ ?_; clear hK K)
    | (refine wpList_val rfl (exec_load (v := x.val) rfl rfl (run_loadSv X1)) (fun K hK => ?_); go_simp; refine hK _ _ ?_; clear hK K)
    | (refine wpList_val rfl (exec_load (v := t.val) rfl rfl (run_loadSv T2)) (fun K hK => ?_); go_simp; refine hK _ _ ?_; clear hK K))
  refine (KI.out _).mono ?_
  rintro e W3 ⟨rfl, s3⟩
  go_wp2
  go_ret
  exact ⟨rfl, S2.trans s3⟩
set_option maxHeartbeats 8000000 in
set_option maxRecDepth 100000 in
theorem restores_bad (s : Sv) (a : Ar) (t : Sv) (no : Int) (hv : s.ok = false) (w : World) : Calls Tryd.prog 11 #[s.val, a.v, t.val, .int .i64 no] w fun e w' => e = .returned (.bool (eqSv zSv t && (2 : Int) == no)) ∧ Sees w w' := by
  have K := Lib.hid (fun W => restore_bad s a hv W)
  obtain ⟨x, hx⟩ : ∃ x : Sv, x = zSv := ⟨_, rfl⟩
  rw [← hx] at K ⊢
  have KI := Lib.hid (fun W => is_any x t 2 no W)
  generalize (eqSv x t && (2 : Int) == no) = b at KI ⊢
  clear hx
  go_enter Tryd.func11, Tryd.ntmps11
  go_upto_region 1 with (first
    | (refine wpList_val rfl (exec_box (cs := s.cells) rfl rfl) (fun K hK => ?_); go_simp; refine hK _ _ ?_; clear hK K)
    | (refine wpList_val rfl (exec_box (cs := a.cells) rfl rfl) (fun K hK => ?_); go_simp; refine hK _ _ ?_; clear hK K)
    | (refine wpList_val rfl (exec_box (cs := t.cells) rfl rfl) (fun K hK => ?_); go_simp; refine hK _ _ ?_; clear hK K))
  refine wp_world fun W0 hW0 => ?_
  obtain ⟨A0, B0, T0, S0⟩ := bex w s t a W0 hW0
  clear hW0
  go_wp2_with (first
    | (refine wpList_val rfl (exec_load (v := s.val) rfl rfl (run_loadSv A0)) (fun K hK => ?_); go_simp; refine hK _ _ ?_; clear hK K)
    | (refine wpList_val rfl (exec_load (v := a.v) rfl rfl (run_loadAr B0)) (fun K hK => ?_); go_simp; refine hK _ _ ?_; clear hK K))
  refine (K.out _).mono ?_
  rintro e W1 ⟨rfl, s1⟩
  have T1 := T0.sees (s1.alloc (.cells zSv.cells 35))
  have S1 := (S0.trans s1).alloc (.cells zSv.cells 35)
  have Z1 := SvAt.new W1 zSv
  have X1 := SvAt.stored Z1 x
  have T2 := T1.other (p := W1.heap.size) (by have := (Array.getElem?_eq_some_iff.1 T0).1; have := s1.size; omega) x.cells
  have S2 := S1.setRow (p := W1.heap.size) (by have := S0.size; have := s1.size; omega) x.cells
  clear A0 B0 T0 S0 s1 T1 S1
  go_wp2_with (first
    | (refine wpList_skip rfl (exec_store (v := x.val) rfl rfl rfl (run_storeSv Z1 x)) (fun K hK => ?_); go_simp; refine hK _ _ ?_; clear hK K)
    | (refine wpList_val rfl (exec_load (v := x.val) rfl rfl (run_loadSv X1)) (fun K hK => ?_); go_simp; refine hK _ _ ?_; clear hK K)
    | (refine wpList_val rfl (exec_load (v := t.val) rfl rfl (run_loadSv T2)) (fun K hK => ?_); go_simp; refine hK _ _ ?_; clear hK K))
  refine (KI.out _).mono ?_
  rintro e W3 ⟨rfl, s3⟩
  go_wp2
  go_ret
  exact ⟨rfl, S2.trans s3⟩
set_option maxHeartbeats 8000000 in
set_option maxRecDepth 100000 in
theorem restores_wrong (s : Sv) (a : Ar) (t : Sv) (no : Int) (hv : s.ok = true) (hw : a.right = false) (w : World) : Calls Tryd.prog 11 #[s.val, a.v, t.val, .int .i64 no] w fun e w' => e = .returned (.bool (eqSv zSv t && (2 : Int) == no)) ∧ Sees w w' := by
  have K := Lib.hid (fun W => restore_wrong s a hv hw W)
  obtain ⟨x, hx⟩ : ∃ x : Sv, x = zSv := ⟨_, rfl⟩
  rw [← hx] at K ⊢
  have KI := Lib.hid (fun W => is_any x t 2 no W)
  generalize (eqSv x t && (2 : Int) == no) = b at KI ⊢
  clear hx
  go_enter Tryd.func11, Tryd.ntmps11
  go_upto_region 1 with (first
    | (refine wpList_val rfl (exec_box (cs := s.cells) rfl rfl) (fun K hK => ?_); go_simp; refine hK _ _ ?_; clear hK K)
    | (refine wpList_val rfl (exec_box (cs := a.cells) rfl rfl) (fun K hK => ?_); go_simp; refine hK _ _ ?_; clear hK K)
    | (refine wpList_val rfl (exec_box (cs := t.cells) rfl rfl) (fun K hK => ?_); go_simp; refine hK _ _ ?_; clear hK K))
  refine wp_world fun W0 hW0 => ?_
  obtain ⟨A0, B0, T0, S0⟩ := bex w s t a W0 hW0
  clear hW0
  go_wp2_with (first
    | (refine wpList_val rfl (exec_load (v := s.val) rfl rfl (run_loadSv A0)) (fun K hK => ?_); go_simp; refine hK _ _ ?_; clear hK K)
    | (refine wpList_val rfl (exec_load (v := a.v) rfl rfl (run_loadAr B0)) (fun K hK => ?_); go_simp; refine hK _ _ ?_; clear hK K))
  refine (K.out _).mono ?_
  rintro e W1 ⟨rfl, s1⟩
  have T1 := T0.sees (s1.alloc (.cells zSv.cells 35))
  have S1 := (S0.trans s1).alloc (.cells zSv.cells 35)
  have Z1 := SvAt.new W1 zSv
  have X1 := SvAt.stored Z1 x
  have T2 := T1.other (p := W1.heap.size) (by have := (Array.getElem?_eq_some_iff.1 T0).1; have := s1.size; omega) x.cells
  have S2 := S1.setRow (p := W1.heap.size) (by have := S0.size; have := s1.size; omega) x.cells
  clear A0 B0 T0 S0 s1 T1 S1
  go_wp2_with (first
    | (refine wpList_skip rfl (exec_store (v := x.val) rfl rfl rfl (run_storeSv Z1 x)) (fun K hK => ?_); go_simp; refine hK _ _ ?_; clear hK K)
    | (refine wpList_val rfl (exec_load (v := x.val) rfl rfl (run_loadSv X1)) (fun K hK => ?_); go_simp; refine hK _ _ ?_; clear hK K)
    | (refine wpList_val rfl (exec_load (v := t.val) rfl rfl (run_loadSv T2)) (fun K hK => ?_); go_simp; refine hK _ _ ?_; clear hK K))
  refine (KI.out _).mono ?_
  rintro e W3 ⟨rfl, s3⟩
  go_wp2
  go_ret
  exact ⟨rfl, S2.trans s3⟩
set_option maxHeartbeats 8000000 in
set_option maxRecDepth 100000 in
theorem texts_ok (s : Sv) (T : ByteArray) (no : Int) (hv : s.ok = true) (hf : s.Fits) (w : World) (hw : Std w) : Calls Tryd.prog 15 #[s.val, .string T, .int .i64 no] w fun e w' => e = .returned (.bool ((⟨s.text.toArray⟩ : ByteArray).toList == T.toList && (0 : Int) == no)) ∧ Sees w w' := by
  have A0 := SvAt.new w s
  have S0 := (Sees.refl w).alloc (.cells s.cells 35)
  have K : RowKit.Hid (Calls Tryd.prog 23 #[s.val] (w.alloc (.cells s.cells 35)) fun e w' => e = .returned (.tuple #[.string ⟨s.text.toArray⟩, .int .i64 0]) ∧ Sees (w.alloc (.cells s.cells 35)) w') := Lib.hid (stext_ok s hv hf _ (hw.sees S0))
  obtain ⟨Y, hY⟩ : ∃ Y : ByteArray, Y = ⟨s.text.toArray⟩ := ⟨_, rfl⟩
  rw [← hY] at K ⊢
  clear hY
  cases h1 : (Y.toList == T.toList) <;> cases h2 : ((0 : Int) == no) <;>
  · go_enter Tryd.func15, Tryd.ntmps15
    go_wp2_with (first | (refine wpList_val rfl (exec_box (cs := s.cells) rfl rfl) (fun K hK => ?_); go_simp; refine hK _ _ ?_; clear hK K) | (refine wpList_val rfl (exec_load (v := s.val) rfl rfl (run_loadSv A0)) (fun K hK => ?_); go_simp; refine hK _ _ ?_; clear hK K))
    refine K.out.mono ?_
    rintro e W1 ⟨rfl, s1⟩
    go_wp2
    go_ret
    exact ⟨rfl, S0.trans s1⟩
set_option maxHeartbeats 8000000 in
set_option maxRecDepth 100000 in
theorem texts_bad (s : Sv) (T : ByteArray) (no : Int) (hv : s.ok = false) (w : World) : Calls Tryd.prog 15 #[s.val, .string T, .int .i64 no] w fun e w' => e = .returned (.bool ((⟨#[]⟩ : ByteArray).toList == T.toList && (2 : Int) == no)) ∧ Sees w w' := by
  have A0 := SvAt.new w s
  have S0 := (Sees.refl w).alloc (.cells s.cells 35)
  have K : RowKit.Hid (Calls Tryd.prog 23 #[s.val] (w.alloc (.cells s.cells 35)) fun e w' => e = .returned (.tuple #[.string ⟨#[]⟩, .int .i64 2]) ∧ Sees (w.alloc (.cells s.cells 35)) w') := Lib.hid (stext_bad s hv _)
  obtain ⟨Y, hY⟩ : ∃ Y : ByteArray, Y = ⟨#[]⟩ := ⟨_, rfl⟩
  rw [← hY] at K ⊢
  clear hY
  cases h1 : (Y.toList == T.toList) <;> cases h2 : ((2 : Int) == no) <;>
  · go_enter Tryd.func15, Tryd.ntmps15
    go_wp2_with (first | (refine wpList_val rfl (exec_box (cs := s.cells) rfl rfl) (fun K hK => ?_); go_simp; refine hK _ _ ?_; clear hK K) | (refine wpList_val rfl (exec_load (v := s.val) rfl rfl (run_loadSv A0)) (fun K hK => ?_); go_simp; refine hK _ _ ?_; clear hK K))
    refine K.out.mono ?_
    rintro e W1 ⟨rfl, s1⟩
    go_wp2
    go_ret
    exact ⟨rfl, S0.trans s1⟩
set_option maxHeartbeats 8000000 in
set_option maxRecDepth 100000 in
theorem parses_at (T : ByteArray) (t : Sv) (no : Int) (x : Sv) (n : Int) (w : World) (K : ∀ W, Sees w W → Calls Tryd.prog 19 #[.string T] W fun e w' => e = .returned (.tuple #[x.val, .int .i64 n]) ∧ Sees W w') : Calls Tryd.prog 18 #[.string T, t.val, .int .i64 no] w fun e w' => e = .returned (.bool (eqSv x t && n == no)) ∧ Sees w w' := by
  have T0 := SvAt.new w t
  have S0 := (Sees.refl w).alloc (.cells t.cells 35)
  have HK := Lib.hid (K _ S0)
  have KI := Lib.hid (fun W => is_any x t n no W)
  generalize (eqSv x t && n == no) = b at KI ⊢
  clear K
  go_enter Tryd.func18, Tryd.ntmps18
  go_wp2_with (first
    | (refine wpList_val rfl (exec_box (cs := t.cells) rfl rfl) (fun K hK => ?_); go_simp; refine hK _ _ ?_; clear hK K))
  refine HK.out.mono ?_
  rintro e W1 ⟨rfl, s1⟩
  have T1 := T0.sees (s1.alloc (.cells zSv.cells 35))
  have S1 := (S0.trans s1).alloc (.cells zSv.cells 35)
  have Z1 := SvAt.new W1 zSv
  have X1 := SvAt.stored Z1 x
  have T2 := T1.other (p := W1.heap.size) (by have := (Array.getElem?_eq_some_iff.1 T0).1; have := s1.size; omega) x.cells
  have S2 := S1.setRow (p := W1.heap.size) (by have := S0.size; have := s1.size; omega) x.cells
  clear T0 S0 s1 T1 S1 HK
  go_wp2_with (first
    | (refine wpList_skip rfl (exec_store (v := x.val) rfl rfl rfl (run_storeSv Z1 x)) (fun K hK => ?_); go_simp; refine hK _ _ ?_; clear hK K)
    | (refine wpList_val rfl (exec_load (v := x.val) rfl rfl (run_loadSv X1)) (fun K hK => ?_); go_simp; refine hK _ _ ?_; clear hK K)
    | (refine wpList_val rfl (exec_load (v := t.val) rfl rfl (run_loadSv T2)) (fun K hK => ?_); go_simp; refine hK _ _ ?_; clear hK K))
  refine (KI.out _).mono ?_
  rintro e W3 ⟨rfl, s3⟩
  go_wp2
  go_ret
  exact ⟨rfl, S2.trans s3⟩
set_option maxHeartbeats 8000000 in
set_option maxRecDepth 100000 in
theorem saves_any (s t : Sv) (no : Int) (w : World) : Calls Tryd.prog 14 #[s.val, t.val, .int .i64 no] w fun e w' => e = .returned (.bool (eqSv (if s.ok then s else zSv) t && (if s.ok then 0 else 2 : Int) == no)) ∧ Sees w w' := by
  have K := Lib.hid (fun W => save_any s W)
  obtain ⟨x, hx⟩ : ∃ x : Sv, x = (if s.ok then s else zSv) := ⟨_, rfl⟩
  obtain ⟨n, hn⟩ : ∃ n : Int, n = (if s.ok then 0 else 2) := ⟨_, rfl⟩
  rw [← hx, ← hn] at K ⊢
  have KI := Lib.hid (fun W => is_any x t n no W)
  generalize (eqSv x t && n == no) = b at KI ⊢
  clear hx hn
  unfold Sv.curV Sv.penV Sv.chsV at K
  go_enter Tryd.func14, Tryd.ntmps14
  go_upto_region 1 with (first
    | (refine wpList_val rfl (exec_box (cs := s.cells) rfl rfl) (fun K hK => ?_); go_simp; refine hK _ _ ?_; clear hK K)
    | (refine wpList_val rfl (exec_box (cs := t.cells) rfl rfl) (fun K hK => ?_); go_simp; refine hK _ _ ?_; clear hK K))
  refine wp_world fun W0 hW0 => ?_
  obtain ⟨A0, T0, S0⟩ := sv2 w s t W0 hW0
  clear hW0
  obtain ⟨c0, c1, c2, c3, c4, c5, c6, c7, c8, c9, c10, c11, c12, c13, c14, c15, c16, c17⟩ := A0.cs
  go_wp2_with fail
  refine (K.out _).mono ?_
  rintro e W1 ⟨rfl, s1⟩
  have T1 := T0.sees (s1.alloc (.cells zSv.cells 35))
  have S1 := (S0.trans s1).alloc (.cells zSv.cells 35)
  have Z1 := SvAt.new W1 zSv
  have X1 := SvAt.stored Z1 x
  have T2 := T1.other (p := W1.heap.size) (by have := (Array.getElem?_eq_some_iff.1 T0).1; have := s1.size; omega) x.cells
  have S2 := S1.setRow (p := W1.heap.size) (by have := S0.size; have := s1.size; omega) x.cells
  clear A0 T0 S0 s1 T1 S1 c0 c1 c2 c3 c4 c5 c6 c7 c8 c9 c10 c11 c12 c13 c14 c15 c16 c17
  go_wp2_with (first
    | (refine wpList_skip rfl (exec_store (v := x.val) rfl rfl rfl (run_storeSv Z1 x)) (fun K hK => ?_); go_simp; refine hK _ _ ?_; clear hK K)
    | (refine wpList_val rfl (exec_load (v := x.val) rfl rfl (run_loadSv X1)) (fun K hK => ?_); go_simp; refine hK _ _ ?_; clear hK K)
    | (refine wpList_val rfl (exec_load (v := t.val) rfl rfl (run_loadSv T2)) (fun K hK => ?_); go_simp; refine hK _ _ ?_; clear hK K))
  refine (KI.out _).mono ?_
  rintro e W3 ⟨rfl, s3⟩
  go_wp2
  go_ret
  exact ⟨rfl, S2.trans s3⟩
end Go.Proofs.YtfgifjdholdohaaDoor
