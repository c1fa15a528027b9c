/- SavedHolds returns true for every input, and leaves its arguments alone; the two tables start as the program's text lays them (the card ties that). -/
import Derived.Test.YtfgifjdholdohaaDoorSaB
import Derived.Test.YtfgifjdholdohaaDoorSaN
import Derived.Test.YtfgifjdholdohaaDoorSaH
namespace Go.Proofs.YtfgifjdholdohaaDoor
set_option linter.unusedVariables false
set_option linter.unusedSimpArgs false
namespace savedHolds
open Go.ChangeShapes Go.WideShapes Go.ChangeAt Go.RowKit

theorem wpList_loadG {P : Program} {ops : Array Oper} {Q' : Exit → Act → World → Prop} {a : Act} {o : Oper} {rest : List Oper} {w : World} {t : TypeId} {x : Operand} {p v : Value} (ho : o.op = .load t x) (hg : Region.wanted o (yielded ops a.tmps) = true) (hx : a.eval x = p) (hr : (Instr.loadAt t p).run P w = .ok v w) (h : ∀ K : Act → World → Prop, (∀ a w, wpList P ops Q' rest a w → K a w) → K (a.put o.dst v) w) : wpList P ops Q' (o :: rest) a w :=
  wpList_valG hg (exec_load ho hx hr) h
theorem sa2 (w : World) (s : Sv) (a : Ar) (W : World) (hW : W = (w.alloc (.cells s.cells 35)).alloc (.cells a.cells 39)) : SvAt W w.heap.size s ∧ ArAt W (w.heap.size + 1) a ∧ Sees w W := by
  subst hW
  have a1 := (Sees.refl (w.alloc (.cells s.cells 35))).alloc (.cells a.cells 39)
  have B1 := ArAt.new (w.alloc (.cells s.cells 35)) a
  rw [size_al] at B1
  exact ⟨(SvAt.new w s).sees a1, B1, ((Sees.refl w).alloc _).alloc _⟩
theorem resto_in {s : Sv} {a : Ar} (hv : s.ok = true) (hr : a.right = true) : 0 ≤ (resto s a).row ∧ (resto s a).row < a.rows ∧ 0 ≤ (resto s a).col ∧ (resto s a).col < a.cols ∧ ((resto s a).pend = true → (resto s a).col = a.cols - 1) ∧ (s.org = true → a.top ≤ (resto s a).row ∧ (resto s a).row ≤ a.bot) := by
  obtain ⟨r0, r1, r2, r3, r4, r5, r6⟩ := of_decide_eq_true hr
  obtain ⟨q0, q1, q2, q3⟩ := of_decide_eq_true (s.ok_placed hv)
  unfold resto
  simp only [Bool.and_eq_true, beq_iff_eq]
  refine ⟨?_, ?_, by omega, by omega, fun h => h.2, fun h => ?_⟩
  · split <;> omega
  · split <;> omega
  · rw [if_pos h]; omega
theorem resto_ok' {s : Sv} {a : Ar} (hv : s.ok = true) (hr : a.right = true) : (resto s a).ok = true := by
  obtain ⟨h0, h1, h2, h3, _⟩ := resto_in hv hr
  obtain ⟨r0, r1, r2, r3, r4, r5, r6⟩ := of_decide_eq_true hr
  have hp : (resto s a).placed = true := decide_eq_true ⟨h0, by omega, h2, by omega⟩
  unfold Sv.ok
  rw [hp, show (resto s a).pen = s.pen from rfl, show (resto s a).cs = s.cs from rfl, s.ok_pen hv, s.ok_cs hv]
  rfl
theorem resto_id {s : Sv} {a : Ar} (h1 : s.row = if s.org then max a.top (min s.row a.bot) else max 0 (min s.row (a.rows - 1))) (h2 : s.col = min s.col (a.cols - 1)) (h3 : s.pend = (s.pend && (s.col == a.cols - 1))) : resto s a = s := by
  cases s
  simp only [resto, Sv.mk.injEq, true_and, and_true] at *
  exact ⟨h1.symm, h2.symm, by rw [← h2]; exact h3.symm⟩
theorem resto_again {s : Sv} {a : Ar} (hv : s.ok = true) (hr : a.right = true) : resto (resto s a) a = resto s a := by
  obtain ⟨h0, h1, h2, h3, h4, h5⟩ := resto_in hv hr
  refine resto_id ?_ (by omega) ?_
  · show (resto s a).row = if s.org then _ else _
    split
    · rename_i h
      have := h5 h
      omega
    · omega
  · cases hp : (resto s a).pend
    · rfl
    · rw [h4 hp]
      simp
theorem resto_same {s : Sv} {a : Ar} (hv : s.ok = true) (hr : a.right = true) (h1 : s.row < a.rows) (h2 : s.col < a.cols) (h3 : s.pend = true → s.col = a.cols - 1) (h4 : s.org = true → a.top ≤ s.row ∧ s.row ≤ a.bot) : resto s a = s := by
  obtain ⟨q0, q1, q2, q3⟩ := of_decide_eq_true (s.ok_placed hv)
  refine resto_id ?_ (by omega) ?_
  · split
    · rename_i h
      have := h4 h
      omega
    · omega
  · cases hp : s.pend
    · rfl
    · rw [h3 hp]
      simp
theorem neq_of_eql {t : TypeId} {xs : Array Value} {W : World} (h : (binOp .eql t (.agg xs) (.agg xs)).run Tryd.prog W = .ok (.bool true) W) : (binOp .neq t (.agg xs) (.agg xs)).run Tryd.prog W = .ok (.bool false) W := by
  rw [run_eql_struct] at h
  rw [run_neq_struct]
  revert h
  generalize (Op.equalIn 10000 t _ _).run Tryd.prog W = r
  cases r with
  | ok b w' => simp only [Result.andThen_ok, Result.ok.injEq, Value.bool.injEq]; rintro ⟨rfl, rfl⟩; exact ⟨rfl, rfl⟩
  | halt x w' => intro h; cases h
theorem neqPen_self (s : Sv) (W : World) : (binOp .neq 29 s.penA s.penA).run Tryd.prog W = .ok (.bool false) W :=
  neq_of_eql (by rw [eqlPen]; simp [eq11, eq5])
theorem neqSv_self (s : Sv) (W : World) : (binOp .neq 35 s.val s.val).run Tryd.prog W = .ok (.bool false) W :=
  neq_of_eql (by rw [show (binOp .eql 35 (.agg s.cells) (.agg s.cells)).run Tryd.prog W = _ from eqlSv0 s s W, eqSv_self])
def chA (s : Sv) : Value := .agg #[.int .i64 s.g0, .int .i64 s.g1, .int .i64 s.act]
theorem eqlCs_self (s : Sv) (W : World) : (binOp .eql 33 (chA s) (chA s)).run Tryd.prog W = .ok (.bool true) W := by
  have hm := fun d => equalGs d s.g0 s.g1 s.g0 s.g1
  have he : eq2 s.g0 s.g1 s.g0 s.g1 = true := by simp [eq2]
  rw [he] at hm
  unfold chA
  go_simp
theorem neqCs_self (s : Sv) (W : World) : (binOp .neq 33 (chA s) (chA s)).run Tryd.prog W = .ok (.bool false) W := neq_of_eql (eqlCs_self s W)
theorem guardPen (x y : Operand) (s : Sv) (W : World) : (eqGuard .neq 29 x y s.penA s.penA).run Tryd.prog W = .ok () W := by go_simp
theorem guardCs (x y : Operand) (s : Sv) (W : World) : (eqGuard .neq 33 x y (chA s) (chA s)).run Tryd.prog W = .ok () W := by unfold chA; go_simp
set_option maxRecDepth 100000 in
theorem guardSv (x y : Operand) (s : Sv) (W : World) : (eqGuard .neq 35 x y s.val s.val).run Tryd.prog W = .ok () W := by unfold Sv.val; go_simp
theorem cs_isAgg : ∀ W, (isAgg 33).run Tryd.prog W = .ok true W := fun _ => by kernel_rfl
theorem cs_sizeOf : ∀ W, (sizeOf 33).run Tryd.prog W = .ok 3 W := fun _ => by kernel_rfl
theorem run_loadCsSv {W : World} {p : Nat} {s : Sv} (h : SvAt W p s) : (Instr.loadAt 33 (.pointer (some ⟨p, 15, none⟩))).run Tryd.prog W = .ok (chA s) W :=
  run_load_agg 33 p 15 [.int .i64 s.g0, .int .i64 s.g1, .int .i64 s.act] cs_isAgg cs_sizeOf fun j x hx => by
    have hx' : (s.cells.toList.drop 15)[j]? = some x := hx
    rw [List.getElem?_drop] at hx'
    rw [Go.cell_of_row W p _ _ _ _ h]
    simpa using hx'
set_option maxHeartbeats 16000000 in
set_option maxRecDepth 100000 in
theorem holds_bad (s : Sv) (a : Ar) (w : World) (hw : Std w) (hv : s.ok = false) : Calls Tryd.prog 7 #[s.val, a.val] w fun e w' => e = .returned (.bool true) ∧ Sees w w' := by
  have HW := Lib.hid hw
  clear hw
  have KK : RowKit.Hid (∀ W, Std W → Calls Tryd.prog 12 #[] W fun e w' => e = .returned (.bool true) ∧ Sees W w') := fun W h0 => by exact known_any W h0
  have KR : RowKit.Hid (∀ W, Calls Tryd.prog 22 #[s.val, a.val] W fun e w' => e = .returned (.tuple #[zSv.val, .int .i64 2]) ∧ Sees W w') := fun W => by exact restore_bad s a hv W
  clear hv
  go_enter Tryd.func7, Tryd.ntmps7
  go_upto_region 1 with (first
    | (refine wpList_val rfl (exec_box (cs := s.cells) rfl rfl) (fun K hK => ?_); go_simp; refine hK _ _ ?_; clear hK K)
    | (refine wpList_val rfl (exec_box (cs := a.cells) rfl rfl) (fun K hK => ?_); go_simp; refine hK _ _ ?_; clear hK K))
  refine wp_world fun W0 hW0 => ?_
  obtain ⟨A0, B0, S0⟩ := sa2 w s a W0 hW0
  clear hW0
  go_wp2_with (first
    | (refine wpList_val rfl (exec_load (v := s.val) rfl rfl (run_loadSv A0)) (fun K hK => ?_); go_simp; refine hK _ _ ?_; clear hK K)
    | (refine wpList_val rfl (exec_load (v := a.val) rfl rfl (run_loadAr B0)) (fun K hK => ?_); go_simp; refine hK _ _ ?_; clear hK K))
  refine (KR.out _).mono ?_
  rintro e W1 ⟨rfl, s1⟩
  have S1 := S0.trans s1
  clear A0 B0 S0 s1
  have Z1 := SvAt.new W1 zSv
  have X1 := SvAt.stored Z1 zSv
  have S2 := (S1.alloc (.cells zSv.cells 35)).setRow (p := W1.heap.size) S1.size zSv.cells
  have EQ := run_eqSv zSv zSv
  rw [eqSv_self] at EQ
  have HEQ := Lib.hid EQ
  clear EQ S1
  go_wp2_with (first
    | (refine wpList_skip rfl (exec_store (v := zSv.val) rfl rfl rfl (run_storeSv Z1 zSv)) (fun K hK => ?_); go_simp; refine hK _ _ ?_; clear hK K)
    | (refine wpList_val rfl (exec_load (v := zSv.val) rfl rfl (run_loadSv X1)) (fun K hK => ?_); go_simp; refine hK _ _ ?_; clear hK K)
    | (refine wpList_val rfl (exec_build_zero rfl) (fun K hK => ?_); go_simp; refine hK _ _ ?_; clear hK K)
    | (refine wpList_val rfl (exec_bin rfl rfl rfl (guard_eqSv _ _ zSv zSv _) (HEQ.out _)) (fun K hK => ?_); go_simp; refine hK _ _ ?_; clear hK K))
  refine (KK.out _ (HW.out.sees S2)).mono ?_
  rintro e W3 ⟨rfl, s3⟩
  go_wp2
  go_ret
  exact ⟨rfl, S2.trans s3⟩
set_option maxHeartbeats 16000000 in
set_option maxRecDepth 100000 in
theorem holds_wrong (s : Sv) (a : Ar) (w : World) (hw : Std w) (hv : s.ok = true) (hr : a.right = false) : Calls Tryd.prog 7 #[s.val, a.val] w fun e w' => e = .returned (.bool true) ∧ Sees w w' := by
  have HW := Lib.hid hw
  clear hw
  have KK : RowKit.Hid (∀ W, Std W → Calls Tryd.prog 12 #[] W fun e w' => e = .returned (.bool true) ∧ Sees W w') := fun W h0 => by exact known_any W h0
  have KR : RowKit.Hid (∀ W, Calls Tryd.prog 22 #[s.val, a.val] W fun e w' => e = .returned (.tuple #[zSv.val, .int .i64 2]) ∧ Sees W w') := fun W => by exact restore_wrong s a hv hr W
  clear hv hr
  go_enter Tryd.func7, Tryd.ntmps7
  go_upto_region 1 with (first
    | (refine wpList_val rfl (exec_box (cs := s.cells) rfl rfl) (fun K hK => ?_); go_simp; refine hK _ _ ?_; clear hK K)
    | (refine wpList_val rfl (exec_box (cs := a.cells) rfl rfl) (fun K hK => ?_); go_simp; refine hK _ _ ?_; clear hK K))
  refine wp_world fun W0 hW0 => ?_
  obtain ⟨A0, B0, S0⟩ := sa2 w s a W0 hW0
  clear hW0
  go_wp2_with (first
    | (refine wpList_val rfl (exec_load (v := s.val) rfl rfl (run_loadSv A0)) (fun K hK => ?_); go_simp; refine hK _ _ ?_; clear hK K)
    | (refine wpList_val rfl (exec_load (v := a.val) rfl rfl (run_loadAr B0)) (fun K hK => ?_); go_simp; refine hK _ _ ?_; clear hK K))
  refine (KR.out _).mono ?_
  rintro e W1 ⟨rfl, s1⟩
  have S1 := S0.trans s1
  clear A0 B0 S0 s1
  have Z1 := SvAt.new W1 zSv
  have X1 := SvAt.stored Z1 zSv
  have S2 := (S1.alloc (.cells zSv.cells 35)).setRow (p := W1.heap.size) S1.size zSv.cells
  have EQ := run_eqSv zSv zSv
  rw [eqSv_self] at EQ
  have HEQ := Lib.hid EQ
  clear EQ S1
  go_wp2_with (first
    | (refine wpList_skip rfl (exec_store (v := zSv.val) rfl rfl rfl (run_storeSv Z1 zSv)) (fun K hK => ?_); go_simp; refine hK _ _ ?_; clear hK K)
    | (refine wpList_val rfl (exec_load (v := zSv.val) rfl rfl (run_loadSv X1)) (fun K hK => ?_); go_simp; refine hK _ _ ?_; clear hK K)
    | (refine wpList_val rfl (exec_build_zero rfl) (fun K hK => ?_); go_simp; refine hK _ _ ?_; clear hK K)
    | (refine wpList_val rfl (exec_bin rfl rfl rfl (guard_eqSv _ _ zSv zSv _) (HEQ.out _)) (fun K hK => ?_); go_simp; refine hK _ _ ?_; clear hK K))
  refine (KK.out _ (HW.out.sees S2)).mono ?_
  rintro e W3 ⟨rfl, s3⟩
  go_wp2
  go_ret
  exact ⟨rfl, S2.trans s3⟩
set_option maxHeartbeats 16000000 in
set_option maxRecDepth 100000 in
theorem holds_good (s : Sv) (a : Ar) (w : World) (hw : Std w) (hv : s.ok = true) (hr : a.right = true) (hf : s.Fits) : Calls Tryd.prog 7 #[s.val, a.val] w fun e w' => e = .returned (.bool true) ∧ Sees w w' := by
  have HW := Lib.hid hw
  clear hw
  have KK : RowKit.Hid (∀ W, Std W → Calls Tryd.prog 12 #[] W fun e w' => e = .returned (.bool true) ∧ Sees W w') := fun W h0 => by exact known_any W h0
  obtain ⟨x, hx⟩ : ∃ x, x = resto s a := ⟨_, rfl⟩
  have xok : x.ok = true := hx ▸ resto_ok' hv hr
  have xfit : x.Fits := hx ▸ ⟨hf.h1, hf.h2, hf.h3, hf.h4, hf.h6, hf.h7, hf.h8, hf.h9, hf.h10⟩
  have xag : resto x a = x := by rw [hx]; exact resto_again hv hr
  obtain ⟨i0, i1, i2, i3, i4, i5⟩ := hx ▸ resto_in hv hr
  have xpen : x.penA = s.penA := by rw [hx]; rfl
  have xch : chA x = chA s := by rw [hx]; rfl
  have xorg : x.org = s.org := by rw [hx]; rfl
  have hsame : RowKit.Hid (s.row < a.rows → s.col < a.cols → (s.pend = true → s.col = a.cols - 1) → (s.org = true → a.top ≤ s.row ∧ s.row ≤ a.bot) → x = s) := fun h1 h2 h3 h4 => by rw [hx]; exact resto_same hv hr h1 h2 h3 h4
  have KR : RowKit.Hid (∀ W, Calls Tryd.prog 22 #[s.val, a.val] W fun e w' => e = .returned (.tuple #[x.val, .int .i64 0]) ∧ Sees W w') := fun W => by rw [hx]; exact restore_ok s a hv hr W
  have KV : RowKit.Hid (∀ W, Calls Tryd.prog 8 #[x.val] W fun e w' => e = .returned (.bool true) ∧ Sees W w') := fun W => by have h := sValid_any x W; rw [xok] at h; exact h
  have KX : RowKit.Hid (∀ W, Calls Tryd.prog 11 #[x.val, a.val, x.val, .int .i64 0] W fun e w' => e = .returned (.bool true) ∧ Sees W w') := fun W => by have h := restores_ok x a x 0 xok hr W; rw [xag, eqSv_self] at h; exact h
  have KT : RowKit.Hid (∀ W, Std W → Calls Tryd.prog 23 #[x.val] W fun e w' => e = .returned (.tuple #[.string ⟨x.text.toArray⟩, .int .i64 0]) ∧ Sees W w') := fun W h0 => by exact stext_ok x xok xfit W h0
  have hsz : x.text.length ≤ 100000 := text_len xok xfit
  have KQ : RowKit.Hid (∀ W, Std W → Calls Tryd.prog 18 #[.string ⟨x.text.toArray⟩, x.val, .int .i64 0] W fun e w' => e = .returned (.bool true) ∧ Sees W w') := fun W h0 => by have h := parses_text x x 0 xok xfit ⟨x.text.toArray⟩ (by simp) (by show x.text.toArray.size ≤ _; simpa using hsz) W h0; rw [eqSv_self] at h; exact h
  obtain ⟨r0, r1, r2, r3, r4, r5, r6⟩ := of_decide_eq_true hr
  obtain ⟨Y, hY⟩ : ∃ Y : ByteArray, Y = ⟨x.text.toArray⟩ := ⟨_, rfl⟩
  rw [← hY] at KT KQ
  have HP := Lib.hid xpen
  have HC := Lib.hid xch
  have HO := Lib.hid xorg
  have I4 := Lib.hid i4
  have I5 := Lib.hid i5
  have wr : IntKind.i64.wrap (a.cols - 1) = a.cols - 1 := IntWalk.i64_in _ (by omega)
  clear i4 i5 hv hr hf hx xok xfit xag xpen xch xorg hsz hY
  go_enter Tryd.func7, Tryd.ntmps7
  go_upto_region 1 with (first
    | (refine wpList_val rfl (exec_box (cs := s.cells) rfl rfl) (fun K hK => ?_); go_simp; refine hK _ _ ?_; clear hK K)
    | (refine wpList_val rfl (exec_box (cs := a.cells) rfl rfl) (fun K hK => ?_); go_simp; refine hK _ _ ?_; clear hK K))
  refine wp_world fun W0 hW0 => ?_
  obtain ⟨A0, B0, S0⟩ := sa2 w s a W0 hW0
  clear hW0
  obtain ⟨pa, hpa⟩ : ∃ p, p = w.heap.size := ⟨_, rfl⟩
  rw [← hpa] at A0 B0
  simp only [← hpa]
  clear hpa
  go_wp2_with (first
    | (refine wpList_val rfl (exec_load (v := s.val) rfl rfl (run_loadSv A0)) (fun K hK => ?_); go_simp; refine hK _ _ ?_; clear hK K)
    | (refine wpList_val rfl (exec_load (v := a.val) rfl rfl (run_loadAr B0)) (fun K hK => ?_); go_simp; refine hK _ _ ?_; clear hK K))
  refine (KR.out _).mono ?_
  rintro e W1 ⟨rfl, s1⟩
  have A1 := A0.sees s1
  have B1 := B0.sees s1
  have S1 := S0.trans s1
  clear A0 B0 S0 s1
  have lt1 := A1.lt
  have lt2 := B1.lt
  have Z1 := SvAt.new W1 zSv
  have al := (Sees.refl W1).alloc (.cells zSv.cells 35)
  go_upto_region 2 with (first
    | (refine wpList_skip rfl (exec_store (v := x.val) rfl rfl rfl (run_storeSv Z1 x)) (fun K hK => ?_); go_simp; refine hK _ _ ?_; clear hK K))
  refine wp_world fun W2 hW2 => ?_
  have X2 : SvAt W2 W1.heap.size x := hW2 ▸ SvAt.stored Z1 x
  have A2 : SvAt W2 pa s := hW2 ▸ (A1.sees al).other (by omega) _
  have B2 : ArAt W2 (pa + 1) a := hW2 ▸ (B1.sees al).other (by omega) _
  have S2 : Sees w W2 := hW2 ▸ (S1.alloc _).setRow (p := W1.heap.size) S1.size _
  clear hW2 Z1 al A1 B1 S1 lt1 lt2
  generalize W1.heap.size = px at *
  obtain ⟨x0, x1, x2, -⟩ := X2.cs
  go_upto_region 5 with fail
  refine wp_world fun W3 hW3 => ?_
  have s3 : Sees W2 W3 := hW3 ▸ (Sees.refl W2).alloc _
  have C3 : RowKit.Hid (W3.heap[W2.heap.size]? = some (.cells #[.int .i64 x.row, .int .i64 x.col, .bool x.pend] 23 (0, 0))) := hW3 ▸ heap_alloc_new W2 _
  have X3 := Lib.hid (X2.sees s3)
  have A3 := Lib.hid (A2.sees s3)
  have B3 := Lib.hid (B2.sees s3)
  have S3 := Lib.hid (S2.trans s3)
  clear hW3 X2 A2 B2 S2 s3 x0 x1 x2
  generalize W2.heap.size = pc at *
  simp only [List.append_eq, List.cons_append, List.nil_append]
  go_cut [92] from 27 to 92 (fun v92 wx => v92 = .bool false ∧ Sees W3 wx)
  case first =>
    go_wp2_with (first
      | (refine wpList_val rfl (exec_load (v := x.val) rfl rfl (run_loadSv X3.out)) (fun K hK => ?_); go_simp; refine hK _ _ ?_; clear hK K))
    refine (KV.out _).mono ?_
    rintro e W4 ⟨rfl, s4⟩
    have C4 := s4.block' C3.out
    have X4 := X3.out.sees s4
    have A4 := A3.out.sees s4
    have B4 := B3.out.sees s4
    have k0 := Go.cell_of_row _ _ 0 _ _ _ C4
    have k1 := Go.cell_of_row _ _ 1 _ _ _ C4
    have k2' : ∀ b, x.pend = b → W4.cell? ⟨pc, 2, none⟩ = some (.bool b) := fun b hb => by rw [Go.cell_of_row _ _ 2 _ _ _ C4, ← hb]; rfl
    obtain ⟨d0, d1, d2, d3, d4⟩ := B4.cs
    have k14' : ∀ b, s.org = b → W4.cell? ⟨pa, 14, none⟩ = some (.bool b) := fun b hb => by rw [← hb]; exact A4.cs.2.2.2.2.2.2.2.2.2.2.2.2.2.2.1
    have g0 : decide (x.row < 0) = false := decide_eq_false (by omega)
    have g1 : decide (x.row ≥ a.rows) = false := decide_eq_false (by omega)
    have g2 : decide (x.col < 0) = false := decide_eq_false (by omega)
    have g3 : decide (x.col ≥ a.cols) = false := decide_eq_false (by omega)
    rcases Bool.eq_false_or_eq_true x.pend with hpp | hpp <;> rcases Bool.eq_false_or_eq_true s.org with hoo | hoo
    · have k2 := k2' _ hpp
      have k14 := k14' _ hoo
      have g4 : (x.col != a.cols - 1) = false := by rw [I4.out hpp]; simp
      have g5 : decide (x.row < a.top) = false := decide_eq_false (by have := I5.out hoo; omega)
      have g6 : decide (x.row > a.bot) = false := decide_eq_false (by have := I5.out hoo; omega)
      clear k2' k14' hpp hoo
      go_wp2_with (first
        | (guard_target = wpList _ _ _ ({ dst := _, op := Op.load 35 _, type := _, pos := _, after := _, guard := _ } :: _) _ _; refine wpList_loadG (t := 35) (p := .pointer (some ⟨px, 0, none⟩)) (v := x.val) rfl ?_ ?_ (run_loadSv X4) (fun K hK => ?_); (focus (go_simp; done)); (focus (go_simp; done)); go_simp; refine hK _ _ ?_; clear hK K)
        | (guard_target = wpList _ _ _ ({ dst := _, op := Op.load 39 _, type := _, pos := _, after := _, guard := _ } :: _) _ _; refine wpList_loadG (t := 39) (p := .pointer (some ⟨pa + 1, 0, none⟩)) (v := a.val) rfl ?_ ?_ (run_loadAr B4) (fun K hK => ?_); (focus (go_simp; done)); (focus (go_simp; done)); go_simp; refine hK _ _ ?_; clear hK K))
      refine (KX.out _).mono ?_
      rintro e W5 ⟨rfl, s5⟩
      clear k0 k1 k2 k14 d0 d1 d2 d3 d4 g0 g1 g2 g3
      go_wp2_with fail
      go_meet
      exact ⟨rfl, s4.trans s5⟩
    · have k2 := k2' _ hpp
      have k14 := k14' _ hoo
      have g4 : (x.col != a.cols - 1) = false := by rw [I4.out hpp]; simp
      clear k2' k14' hpp hoo
      go_wp2_with (first
        | (guard_target = wpList _ _ _ ({ dst := _, op := Op.load 35 _, type := _, pos := _, after := _, guard := _ } :: _) _ _; refine wpList_loadG (t := 35) (p := .pointer (some ⟨px, 0, none⟩)) (v := x.val) rfl ?_ ?_ (run_loadSv X4) (fun K hK => ?_); (focus (go_simp; done)); (focus (go_simp; done)); go_simp; refine hK _ _ ?_; clear hK K)
        | (guard_target = wpList _ _ _ ({ dst := _, op := Op.load 39 _, type := _, pos := _, after := _, guard := _ } :: _) _ _; refine wpList_loadG (t := 39) (p := .pointer (some ⟨pa + 1, 0, none⟩)) (v := a.val) rfl ?_ ?_ (run_loadAr B4) (fun K hK => ?_); (focus (go_simp; done)); (focus (go_simp; done)); go_simp; refine hK _ _ ?_; clear hK K))
      refine (KX.out _).mono ?_
      rintro e W5 ⟨rfl, s5⟩
      clear k0 k1 k2 k14 d0 d1 d2 d3 d4 g0 g1 g2 g3
      go_wp2_with fail
      go_meet
      exact ⟨rfl, s4.trans s5⟩
    · have k2 := k2' _ hpp
      have k14 := k14' _ hoo
      have g5 : decide (x.row < a.top) = false := decide_eq_false (by have := I5.out hoo; omega)
      have g6 : decide (x.row > a.bot) = false := decide_eq_false (by have := I5.out hoo; omega)
      clear k2' k14' hpp hoo
      go_wp2_with (first
        | (guard_target = wpList _ _ _ ({ dst := _, op := Op.load 35 _, type := _, pos := _, after := _, guard := _ } :: _) _ _; refine wpList_loadG (t := 35) (p := .pointer (some ⟨px, 0, none⟩)) (v := x.val) rfl ?_ ?_ (run_loadSv X4) (fun K hK => ?_); (focus (go_simp; done)); (focus (go_simp; done)); go_simp; refine hK _ _ ?_; clear hK K)
        | (guard_target = wpList _ _ _ ({ dst := _, op := Op.load 39 _, type := _, pos := _, after := _, guard := _ } :: _) _ _; refine wpList_loadG (t := 39) (p := .pointer (some ⟨pa + 1, 0, none⟩)) (v := a.val) rfl ?_ ?_ (run_loadAr B4) (fun K hK => ?_); (focus (go_simp; done)); (focus (go_simp; done)); go_simp; refine hK _ _ ?_; clear hK K))
      refine (KX.out _).mono ?_
      rintro e W5 ⟨rfl, s5⟩
      clear k0 k1 k2 k14 d0 d1 d2 d3 d4 g0 g1 g2 g3
      go_wp2_with fail
      go_meet
      exact ⟨rfl, s4.trans s5⟩
    · have k2 := k2' _ hpp
      have k14 := k14' _ hoo
      clear k2' k14' hpp hoo
      go_wp2_with (first
        | (guard_target = wpList _ _ _ ({ dst := _, op := Op.load 35 _, type := _, pos := _, after := _, guard := _ } :: _) _ _; refine wpList_loadG (t := 35) (p := .pointer (some ⟨px, 0, none⟩)) (v := x.val) rfl ?_ ?_ (run_loadSv X4) (fun K hK => ?_); (focus (go_simp; done)); (focus (go_simp; done)); go_simp; refine hK _ _ ?_; clear hK K)
        | (guard_target = wpList _ _ _ ({ dst := _, op := Op.load 39 _, type := _, pos := _, after := _, guard := _ } :: _) _ _; refine wpList_loadG (t := 39) (p := .pointer (some ⟨pa + 1, 0, none⟩)) (v := a.val) rfl ?_ ?_ (run_loadAr B4) (fun K hK => ?_); (focus (go_simp; done)); (focus (go_simp; done)); go_simp; refine hK _ _ ?_; clear hK K))
      refine (KX.out _).mono ?_
      rintro e W5 ⟨rfl, s5⟩
      clear k0 k1 k2 k14 d0 d1 d2 d3 d4 g0 g1 g2 g3
      go_wp2_with fail
      go_meet
      exact ⟨rfl, s4.trans s5⟩
  case rest =>
    obtain ⟨rfl, s5⟩ := hcut
    have X5 := X3.out.sees s5
    have A5 := A3.out.sees s5
    have B5 := B3.out.sees s5
    have S5 := S3.out.trans s5
    clear C3 X3 A3 B3 S3 s5 KV KX KR
    obtain ⟨a0, a1, a2, -⟩ := A5.cs
    go_upto_region 8 with fail
    refine wp_world fun W6 hW6 => ?_
    have s6 : Sees wc W6 := hW6 ▸ (Sees.refl wc).alloc _
    have C6 : W6.heap[wc.heap.size]? = some (.cells #[.int .i64 s.row, .int .i64 s.col, .bool s.pend] 23 (0, 0)) := hW6 ▸ heap_alloc_new wc _
    have X6' := Lib.hid (X5.sees s6)
    have A6' := Lib.hid (A5.sees s6)
    have B6' := Lib.hid (B5.sees s6)
    have S6' := Lib.hid (S5.trans s6)
    clear hW6 X5 A5 B5 S5 s6 a0 a1 a2
    generalize wc.heap.size = pd at *
    have k0 := Go.cell_of_row _ _ 0 _ _ _ C6
    have k1 := Go.cell_of_row _ _ 1 _ _ _ C6
    have k2' : ∀ b, s.pend = b → W6.cell? ⟨pd, 2, none⟩ = some (.bool b) := fun b hb => by rw [Go.cell_of_row _ _ 2 _ _ _ C6, ← hb]; rfl
    obtain ⟨d0, d1, d2, d3, d4⟩ := B6'.out.cs
    have k14' : ∀ b, s.org = b → W6.cell? ⟨pa, 14, none⟩ = some (.bool b) := fun b hb => by rw [← hb]; exact A6'.out.cs.2.2.2.2.2.2.2.2.2.2.2.2.2.2.1
    obtain ⟨fit, hfit⟩ : ∃ fit : Bool, fit = (decide (s.row < a.rows) && (decide (s.col < a.cols) && ((!s.pend || (s.col == a.cols - 1)) && (!s.org || (decide (s.row ≥ a.top) && decide (s.row ≤ a.bot)))))) := ⟨_, rfl⟩
    have HF := Lib.hid hfit
    clear hfit C6
    go_cut [9] from 95 to 140 (fun v9 wx => v9 = .bool fit ∧ wx = W6)
    case first =>
      have hf := HF.out
      cases t1 : decide (s.row < a.rows)
      case false =>
        simp only [t1, Bool.false_and, Bool.true_and, Bool.and_false, Bool.and_true, Bool.not_true, Bool.not_false, Bool.true_or, Bool.false_or] at hf
        have Hf := Lib.hid hf
        clear hf k2' k14'
        go_wp2_with fail
        go_meet
        exact ⟨by rw [Hf.out], rfl⟩
      cases t2 : decide (s.col < a.cols)
      case false =>
        simp only [t1, t2, Bool.false_and, Bool.true_and, Bool.and_false, Bool.and_true, Bool.not_true, Bool.not_false, Bool.true_or, Bool.false_or] at hf
        have Hf := Lib.hid hf
        clear hf k2' k14'
        go_wp2_with fail
        go_meet
        exact ⟨by rw [Hf.out], rfl⟩
      rcases Bool.eq_false_or_eq_true s.pend with hp | hp
      · have k2 := k2' _ hp
        cases t3 : (s.col == a.cols - 1)
        case false =>
          simp only [t1, t2, hp, t3, Bool.false_and, Bool.true_and, Bool.and_false, Bool.and_true, Bool.not_true, Bool.not_false, Bool.true_or, Bool.false_or] at hf
          have Hf := Lib.hid hf
          clear hf k2' k14' hp
          go_wp2_with fail
          go_meet
          exact ⟨by rw [Hf.out], rfl⟩
        rcases Bool.eq_false_or_eq_true s.org with ho | ho
        · have k14 := k14' _ ho
          cases t4 : decide (s.row ≥ a.top)
          case false =>
            simp only [t1, t2, hp, t3, ho, t4, Bool.false_and, Bool.true_and, Bool.and_false, Bool.and_true, Bool.not_true, Bool.not_false, Bool.true_or, Bool.false_or] at hf
            have Hf := Lib.hid hf
            clear hf k2' k14' hp ho
            go_wp2_with fail
            go_meet
            exact ⟨by rw [Hf.out], rfl⟩
          cases t5 : decide (s.row ≤ a.bot)
          · skip
            simp only [t1, t2, hp, t3, ho, t4, t5, Bool.false_and, Bool.true_and, Bool.and_false, Bool.and_true, Bool.not_true, Bool.not_false, Bool.true_or, Bool.false_or] at hf
            have Hf := Lib.hid hf
            clear hf k2' k14' hp ho
            go_wp2_with fail
            go_meet
            exact ⟨by rw [Hf.out], rfl⟩
          · skip
            simp only [t1, t2, hp, t3, ho, t4, t5, Bool.false_and, Bool.true_and, Bool.and_false, Bool.and_true, Bool.not_true, Bool.not_false, Bool.true_or, Bool.false_or] at hf
            have Hf := Lib.hid hf
            clear hf k2' k14' hp ho
            go_wp2_with fail
            go_meet
            exact ⟨by rw [Hf.out], rfl⟩
        · have k14 := k14' _ ho
          simp only [t1, t2, hp, t3, ho, Bool.false_and, Bool.true_and, Bool.and_false, Bool.and_true, Bool.not_true, Bool.not_false, Bool.true_or, Bool.false_or] at hf
          have Hf := Lib.hid hf
          clear hf k2' k14' hp ho
          go_wp2_with fail
          go_meet
          exact ⟨by rw [Hf.out], rfl⟩
      · have k2 := k2' _ hp
        rcases Bool.eq_false_or_eq_true s.org with ho | ho
        · have k14 := k14' _ ho
          cases t4 : decide (s.row ≥ a.top)
          case false =>
            simp only [t1, t2, hp, ho, t4, Bool.false_and, Bool.true_and, Bool.and_false, Bool.and_true, Bool.not_true, Bool.not_false, Bool.true_or, Bool.false_or] at hf
            have Hf := Lib.hid hf
            clear hf k2' k14' hp ho
            go_wp2_with fail
            go_meet
            exact ⟨by rw [Hf.out], rfl⟩
          cases t5 : decide (s.row ≤ a.bot)
          · skip
            simp only [t1, t2, hp, ho, t4, t5, Bool.false_and, Bool.true_and, Bool.and_false, Bool.and_true, Bool.not_true, Bool.not_false, Bool.true_or, Bool.false_or] at hf
            have Hf := Lib.hid hf
            clear hf k2' k14' hp ho
            go_wp2_with fail
            go_meet
            exact ⟨by rw [Hf.out], rfl⟩
          · skip
            simp only [t1, t2, hp, ho, t4, t5, Bool.false_and, Bool.true_and, Bool.and_false, Bool.and_true, Bool.not_true, Bool.not_false, Bool.true_or, Bool.false_or] at hf
            have Hf := Lib.hid hf
            clear hf k2' k14' hp ho
            go_wp2_with fail
            go_meet
            exact ⟨by rw [Hf.out], rfl⟩
        · have k14 := k14' _ ho
          simp only [t1, t2, hp, ho, Bool.false_and, Bool.true_and, Bool.and_false, Bool.and_true, Bool.not_true, Bool.not_false, Bool.true_or, Bool.false_or] at hf
          have Hf := Lib.hid hf
          clear hf k2' k14' hp ho
          go_wp2_with fail
          go_meet
          exact ⟨by rw [Hf.out], rfl⟩
    case rest =>
      obtain ⟨rfl, hwc⟩ := hcut
      subst hwc
      clear k0 k1 k2' d0 d1 d2 d3 d4 k14'
      rename_i wb wd
      have X6 := X6'.out
      have A6 := A6'.out
      have S6 := S6'.out
      obtain ⟨og, hog⟩ : ∃ og, og = s.org := ⟨_, rfl⟩
      have hX : (Instr.loadAt 29 (.pointer (some ⟨px, 3, none⟩))).run Tryd.prog wc = .ok s.penA wc := by rw [← HP.out]; exact run_loadPenSv X6
      have hA : (Instr.loadAt 29 (.pointer (some ⟨pa, 3, none⟩))).run Tryd.prog wc = .ok s.penA wc := run_loadPenSv A6
      have hXc : (Instr.loadAt 33 (.pointer (some ⟨px, 15, none⟩))).run Tryd.prog wc = .ok (chA s) wc := by rw [← HC.out]; exact run_loadCsSv X6
      have hAc : (Instr.loadAt 33 (.pointer (some ⟨pa, 15, none⟩))).run Tryd.prog wc = .ok (chA s) wc := run_loadCsSv A6
      have k14 : wc.cell? ⟨pa, 14, none⟩ = some (.bool og) := by rw [hog]; exact A6.cs.2.2.2.2.2.2.2.2.2.2.2.2.2.2.1
      have k15 : wc.cell? ⟨px, 14, none⟩ = some (.bool og) := by rw [hog, ← HO.out]; exact X6.cs.2.2.2.2.2.2.2.2.2.2.2.2.2.2.1
      have hq : (og != og) = false := by simp
      have hmain : fit = true → x = s := fun h => by
        have hf := HF.out
        rw [h] at hf
        have hf := hf.symm
        simp only [Bool.and_eq_true, Bool.or_eq_true, decide_eq_true_eq, Bool.not_eq_true', beq_iff_eq] at hf
        obtain ⟨f1, f2, f3, f4⟩ := hf
        refine hsame.out f1 f2 (fun hp => ?_) (fun ho => ?_)
        · rcases f3 with f3 | f3
          · rw [hp] at f3; cases f3
          · exact f3
        · rcases f4 with f4 | f4
          · rw [ho] at f4; cases f4
          · exact ⟨f4.1, f4.2⟩
      clear HF X6' A6' B6' S6' hog HP HC HO
      cases hfit : fit
      · clear hmain hfit
        go_wp2_with (first
          | (refine wpList_valG ?_ (exec_load (t := 29) (v := s.penA) rfl rfl hX) (fun K hK => ?_); (focus (go_simp; done)); go_simp; refine hK _ _ ?_; clear hK K)
          | (refine wpList_valG ?_ (exec_load (t := 29) (v := s.penA) rfl rfl hA) (fun K hK => ?_); (focus (go_simp; done)); go_simp; refine hK _ _ ?_; clear hK K)
          | (refine wpList_valG ?_ (exec_load (t := 33) (v := chA s) rfl rfl hXc) (fun K hK => ?_); (focus (go_simp; done)); go_simp; refine hK _ _ ?_; clear hK K)
          | (refine wpList_valG ?_ (exec_load (t := 33) (v := chA s) rfl rfl hAc) (fun K hK => ?_); (focus (go_simp; done)); go_simp; refine hK _ _ ?_; clear hK K)
          | (refine wpList_valG ?_ (exec_bin (op := .neq) (t := 29) (t' := 29) rfl (show _ = s.penA by go_simp) (show _ = s.penA by go_simp) (guardPen _ _ s wc) (neqPen_self s wc)) (fun K hK => ?_); (focus (go_simp; done)); go_simp; refine hK _ _ ?_; clear hK K)
          | (refine wpList_valG ?_ (exec_bin (op := .neq) (t := 33) (t' := 33) rfl (show _ = chA s by go_simp) (show _ = chA s by go_simp) (guardCs _ _ s wc) (neqCs_self s wc)) (fun K hK => ?_); (focus (go_simp; done)); go_simp; refine hK _ _ ?_; clear hK K)
          | (refine wpList_valG ?_ (exec_load (t := 35) (v := x.val) rfl rfl (run_loadSv X6)) (fun K hK => ?_); (focus (go_simp; done)); go_simp; refine hK _ _ ?_; clear hK K))
        refine (KT.out _ (HW.out.sees S6)).mono ?_
        rintro e W7 ⟨rfl, s7⟩
        have X7 := X6.sees s7
        have S7 := S6.trans s7
        clear k14 k15 hX hA hXc hAc A6 X6 S6 s7
        go_wp2_with (first
          | (refine wpList_valG ?_ (exec_load (v := x.val) rfl rfl (run_loadSv X7)) (fun K hK => ?_); (focus (go_simp; done)); go_simp; refine hK _ _ ?_; clear hK K))
        refine (KQ.out _ (HW.out.sees S7)).mono ?_
        rintro e W8 ⟨rfl, s8⟩
        have S8 := S7.trans s8
        go_wp2_with fail
        refine (KK.out _ (HW.out.sees S8)).mono ?_
        rintro e W9 ⟨rfl, s9⟩
        go_wp2
        go_ret
        exact ⟨rfl, S8.trans s9⟩
      · obtain rfl := (hmain hfit).symm
        clear hfit
        go_wp2_with (first
          | (refine wpList_valG ?_ (exec_load (t := 35) (v := s.val) rfl rfl (run_loadSv X6)) (fun K hK => ?_); (focus (go_simp; done)); go_simp; refine hK _ _ ?_; clear hK K)
          | (refine wpList_valG ?_ (exec_load (t := 35) (v := s.val) rfl rfl (run_loadSv A6)) (fun K hK => ?_); (focus (go_simp; done)); go_simp; refine hK _ _ ?_; clear hK K)
          | (refine wpList_valG ?_ (exec_bin (op := .neq) (t := 35) (t' := 35) rfl (show _ = s.val by go_simp) (show _ = s.val by go_simp) (guardSv _ _ s wc) (neqSv_self s wc)) (fun K hK => ?_); (focus (go_simp; done)); go_simp; refine hK _ _ ?_; clear hK K)
          | (refine wpList_valG ?_ (exec_load (t := 29) (v := s.penA) rfl rfl hX) (fun K hK => ?_); (focus (go_simp; done)); go_simp; refine hK _ _ ?_; clear hK K)
          | (refine wpList_valG ?_ (exec_load (t := 29) (v := s.penA) rfl rfl hA) (fun K hK => ?_); (focus (go_simp; done)); go_simp; refine hK _ _ ?_; clear hK K)
          | (refine wpList_valG ?_ (exec_load (t := 33) (v := chA s) rfl rfl hXc) (fun K hK => ?_); (focus (go_simp; done)); go_simp; refine hK _ _ ?_; clear hK K)
          | (refine wpList_valG ?_ (exec_load (t := 33) (v := chA s) rfl rfl hAc) (fun K hK => ?_); (focus (go_simp; done)); go_simp; refine hK _ _ ?_; clear hK K)
          | (refine wpList_valG ?_ (exec_bin (op := .neq) (t := 29) (t' := 29) rfl (show _ = s.penA by go_simp) (show _ = s.penA by go_simp) (guardPen _ _ s wc) (neqPen_self s wc)) (fun K hK => ?_); (focus (go_simp; done)); go_simp; refine hK _ _ ?_; clear hK K)
          | (refine wpList_valG ?_ (exec_bin (op := .neq) (t := 33) (t' := 33) rfl (show _ = chA s by go_simp) (show _ = chA s by go_simp) (guardCs _ _ s wc) (neqCs_self s wc)) (fun K hK => ?_); (focus (go_simp; done)); go_simp; refine hK _ _ ?_; clear hK K))
        refine (KT.out _ (HW.out.sees S6)).mono ?_
        rintro e W7 ⟨rfl, s7⟩
        have X7 := X6.sees s7
        have S7 := S6.trans s7
        clear k14 k15 hX hA hXc hAc A6 X6 S6 s7
        go_wp2_with (first
          | (refine wpList_valG ?_ (exec_load (v := s.val) rfl rfl (run_loadSv X7)) (fun K hK => ?_); (focus (go_simp; done)); go_simp; refine hK _ _ ?_; clear hK K))
        refine (KQ.out _ (HW.out.sees S7)).mono ?_
        rintro e W8 ⟨rfl, s8⟩
        have S8 := S7.trans s8
        go_wp2_with fail
        refine (KK.out _ (HW.out.sees S8)).mono ?_
        rintro e W9 ⟨rfl, s9⟩
        go_wp2
        go_ret
        exact ⟨rfl, S8.trans s9⟩
theorem walk (s : Sv) (a : Ar) (w : World) (hw : Std w) (hf : s.Fits) : Calls Tryd.prog 7 #[s.val, a.val] w fun e w' => e = .returned (.bool true) ∧ Sees w w' := by
  cases hv : s.ok
  · exact holds_bad s a w hw hv
  · cases hr : a.right
    · exact holds_wrong s a w hw hv hr
    · exact holds_good s a w hw hv hr hf

set_option maxRecDepth 100000 in
theorem contract (H : Type) (enc : TypeId × Value → H) (W : World) (base : Nat) (args : Array Value) (ds gs : List (DataW H)) (before : List MemPlace)
    (hval : ∀ (j : Nat) t v, Tryd.f7.params[j]? = some t → args[j]? = some v → Value.okWide Tryd.prog W .any base t v)
    (hW : DataW.Whole enc Tryd.prog Tryd.f7.params.toList Rows.savedHoldsSpec.vars false W args.toList ds gs before) (hL : laidMetH Tryd.prog Rows.savedHoldsRow.laid W) (hsh : W.ShapedOpen Tryd.prog) :
    Calls Tryd.prog 7 args W fun e W' => ∃ v, e = .returned v ∧ Rows.savedHoldsSpec.post enc Tryd.prog Tryd.f7 false true false false W args v W' := by
  have hW' := hW
  obtain ⟨p, q, hA0, hV, rfl, hfz, hnd⟩ := hW
  have hA : DataW.TrodAll enc Tryd.prog W 0 (fun _ => true) true Tryd.f7.params.toList args.toList ds p := hA0
  rw [Tryd.params7] at hA hval
  obtain ⟨v0, vs0, d0, ds0, p0, q0, hargs, rfl, rfl, h0, r0⟩ := trodAll_cons hA
  obtain ⟨v1, vs1, d1, ds1, p1, q1, rfl, rfl, rfl, h1, r1⟩ := trodAll_cons r0
  obtain ⟨rfl, rfl, rfl⟩ := trodAll_nil r1
  obtain rfl : args = #[v0, v1] := by cases args; simp_all
  obtain ⟨s, rfl, xs⟩ := open_saved (hval 0 35 v0 rfl rfl) h0
  obtain ⟨a, rfl⟩ := open_area (hval 1 39 v1 rfl rfl) h1
  refine (walk s a W (std_of_laid hL hsh) xs).mono fun e W' ⟨he, hs⟩ => ?_
  subst he
  exact ⟨_, rfl, law_post (tb := 4) laidOut (by
    rw [Tryd.params7]; intro t ht
    simp only [List.mem_cons, List.not_mem_nil, or_false] at ht
    rcases ht with rfl | rfl <;> exact ⟨by kernel_rfl, of_decide_eq_true (by kernel_rfl)⟩) hW' rfl (fun ds hl => by
    rw [Tryd.params7] at hl
    match ds, hl with
    | [_, _], _ => rfl) (by kernel_rfl) Tryd.underlying4 hs⟩

abbrev startArgs : Array Value := #[.agg #[.int .i64 0, .int .i64 0, .bool false, .int .i64 0, .int .u8 0, .int .u8 0, .int .u8 0, .int .u8 0, .int .i64 0, .int .u8 0, .int .u8 0, .int .u8 0, .int .u8 0, .int .u8 0, .bool false, .int .i64 0, .int .i64 0, .int .i64 0], .agg #[.int .i64 0, .int .i64 0, .int .i64 0, .int .i64 0, .bool false]]
noncomputable abbrev start (os : Os) : World := laidWorld os
theorem laid_met (os : Os) : laidMet Tryd.prog Rows.savedHoldsRow.laid ((start os).forCall (fun _ _ => 0) ⟨#[], startArgs, []⟩).memory :=
  laidMet_of_run' 8 (by kernel_rfl) (by kernel_rfl)
theorem reads (os : Os) {H : Type} (enc : TypeId × Value → H) : ∃ x, DataW.whole enc Tryd.prog ((start os).forCall (fun _ _ => 0) ⟨#[], startArgs, []⟩).memory Tryd.f7.params.toList Rows.savedHoldsSpec.vars false startArgs.toList 8 = some x :=
  ⟨([.agg [.agg [.lit (.int .i64 0), .lit (.int .i64 0), .lit (.bool false)], .agg [.agg [.lit (.int .i64 0), .lit (.int .u8 0), .lit (.int .u8 0), .lit (.int .u8 0), .lit (.int .u8 0)], .agg [.lit (.int .i64 0), .lit (.int .u8 0), .lit (.int .u8 0), .lit (.int .u8 0), .lit (.int .u8 0)], .lit (.int .u8 0)], .lit (.bool false), .agg [.agg [.lit (.int .i64 0), .lit (.int .i64 0)], .lit (.int .i64 0)]], .agg [.lit (.int .i64 0), .lit (.int .i64 0), .agg [.lit (.int .i64 0), .lit (.int .i64 0)], .lit (.bool false)]], [], []), by kernel_rfl⟩

set_option maxRecDepth 100000 in
theorem lifted (os : Os) (started : os.Started) (H : Type) (enc : TypeId × Value → H) (F : Stop.Interp) :
    ReturnsInHanded {} Tryd.checked os 7 .any ((OpenSpec.ofChange Rows.savedHoldsSpec).preRow enc Tryd.prog Tryd.f7 Rows.savedHoldsRow.domain false Rows.savedHoldsRow.laid) (((OpenSpec.ofChange Rows.savedHoldsSpec).at F).post enc Tryd.prog Tryd.f7 false true false false) := by
  obtain ⟨x, hx⟩ := reads os enc
  refine returnsInHanded_of_row (C := Tryd.checked) (s := OpenSpec.ofChange Rows.savedHoldsSpec) ownK started (by kernel_rfl) Tryd.func7
    (witness_row_at (enc := enc) (C := Tryd.checked) false (start os) startArgs rfl (by kernel_rfl) (by kernel_rfl) (by kernel_rfl)
      (OpenSpec.preRow_of_cond 8 hx (by kernel_rfl) (fun k hk => by cases hk) (by kernel_rfl) (laid_met os))) ?_
  intro W base args ds gs before hval hW _ _ _ hL hsh _
  exact contract H enc W base args ds gs before hval hW hL hsh

theorem said : Rows.SavedHoldsSaid :=
  OpenClaim.holds_of_cond 7 Tryd.f7 rfl rfl rfl rfl rfl rfl rfl ⟨rfl, rfl, rfl, rfl, rfl⟩ rfl rfl rfl rfl rfl (by kernel_rfl) Tryd.func7 (by kernel_rfl)
    (of_decide_eq_true (by kernel_rfl)) (by unfold Func.isWrapper; first | (rw [if_pos (by decide +kernel)]; kernel_rfl) | (rw [if_neg (by decide +kernel)]; exact ⟨rfl, rfl⟩))
    (fun os started H enc _ F => by rw [OpenClaim.pre_eq_preRow]; exact lifted os started H enc F)

theorem plain (f : FuncId) (fn : Func) (hf : Tryd.pinned.checked.prog.funcNamed Rows.savedHoldsRow.func = some f) (hfn : Tryd.pinned.checked.prog.funcs[f]? = some fn) :
    true = Tryd.pinned.checked.prog.looks [] ∧ ∀ (j : Nat) t, fn.params[j]? = some t → Tryd.pinned.checked.prog.wantsStandIn t = false := by
  obtain rfl : f = 7 := Option.some.inj ((show Tryd.prog.funcNamed Rows.savedHoldsRow.func = some 7 by kernel_rfl).symm.trans hf) |>.symm
  obtain rfl : fn = Tryd.f7 := (Option.some.inj (Tryd.func7.symm.trans hfn)).symm
  refine ⟨by kernel_rfl, fun j t ht => ?_⟩
  rw [Tryd.params7] at ht
  have hm := Array.mem_of_getElem? ht
  simp only [List.mem_toArray, List.mem_cons, List.not_mem_nil, or_false] at hm
  rcases hm with rfl | rfl
  · exact (show Tryd.prog.wantsStandIn 35 = false by kernel_rfl)
  · exact (show Tryd.prog.wantsStandIn 39 = false by kernel_rfl)

theorem card : Rows.SavedHoldsCardSaid :=
  Claim7.holds_tied_plain_at .later [] _ _ _ _ said (fun _ h => by cases h) (by kernel_rfl) (fun _ h => by cases h) savedHolds_row_tie rfl ⟨rfl, rfl⟩ (by kernel_rfl) rfl plain (by kernel_rfl)
end savedHolds
end Go.Proofs.YtfgifjdholdohaaDoor
