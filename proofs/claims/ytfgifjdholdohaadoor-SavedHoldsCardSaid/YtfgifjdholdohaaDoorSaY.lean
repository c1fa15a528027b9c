/- What is kept, compared; saved.New, Save and the law's is (23). No condition. -/
import Derived.Test.YtfgifjdholdohaaDoorSaO
import Derived.Deep.Cut
namespace Go.Proofs.YtfgifjdholdohaaDoor
set_option linter.unusedVariables false
set_option linter.unusedSimpArgs false
open Go.RowKit

def eq2 (a0 a1 b0 b1 : Int) : Bool := a0 == b0 && a1 == b1
theorem equalGs (d : Nat) (a0 a1 b0 b1 : Int) (W : World) :
   (Op.equalIn (d + 2) 31 (.agg #[.int .i64 a0, .int .i64 a1]) (.agg #[.int .i64 b0, .int .i64 b1])).run Tryd.prog W = .ok (eq2 a0 a1 b0 b1) W := by
  have hr : List.range 2 = [0, 1] := rfl
  obtain ⟨i, hi, _⟩ := info_parts (show (Tryd.prog.info? 30).map (fun i => (i.zero, i.size, i.bytes)) = some (some (.int .i64 0), 1, 8) by kernel_rfl)
  rw [run_equalIn_array W (d + 1) _ _ Tryd.underlying31 hi, hr]
  unfold eq2
  have hc : Tryd.prog.cellsOf 30 = 1 := by kernel_rfl
  simp only [Op.eqItems, hc]
  go_simp
  simp only [ite_ok0, Result.ok.injEq, and_true, eq_arm]
  by_cases h : a1 = b1 <;> simp [h]
theorem bool_beq (a b : Bool) : (a == b) = decide (a = b) := by cases a <;> cases b <;> rfl
def eqSv (s t : Sv) : Bool := (s.row == t.row && (s.col == t.col && s.pend == t.pend)) && (eq11 s.a0 s.a1 s.a2 s.a3 s.a4 s.a5 s.a6 s.a7 s.a8 s.a9 s.a10 t.a0 t.a1 t.a2 t.a3 t.a4 t.a5 t.a6 t.a7 t.a8 t.a9 t.a10 && (s.org == t.org && (eq2 s.g0 s.g1 t.g0 t.g1 && s.act == t.act)))
theorem eqSv_iff (s t : Sv) : eqSv s t = true ↔ s = t := by
  cases s; cases t
  simp [eqSv, eq11, eq5, eq2, and_assoc]
theorem eqSv_self (s : Sv) : eqSv s s = true := (eqSv_iff s s).2 rfl
set_option maxHeartbeats 4000000 in
set_option maxRecDepth 100000 in
theorem eqlSv0 (s t : Sv) (W : World) : (binOp .eql 35 s.v t.v).run Tryd.prog W = .ok (.bool (eqSv s t)) W := by
  have hm := fun d => equalGs d s.g0 s.g1 t.g0 t.g1
  unfold eqSv eq11 eq5
  go_simp
  simp only [ite_ok (f := Value.bool), Result.ok.injEq, Value.bool.injEq, and_true, eq_arm]
  simp only [bool_beq]
  cases eq2 s.g0 s.g1 t.g0 t.g1 <;> by_cases hp : s.pend = t.pend <;> by_cases ho : s.org = t.org <;> simp [hp, ho, Bool.and_assoc]
theorem run_eqSv (s t : Sv) (W : World) : (binOp .eql 35 s.val t.val).run Tryd.prog W = .ok (.bool (eqSv s t)) W := eqlSv0 s t W
theorem exec_bin {P : Program} {ρ : Operand → Value} {o : Oper} {op : BinOp} {t t' : TypeId} {x y : Operand} {a b v : Value} {W W' : World} (ho : o.op = .binOp op t x y t') (hx : ρ x = a) (hy : ρ y = b)
    (hg : (eqGuard op t x y a b).run P W = .ok () W) (h : (binOp op t a b).run P W = .ok v W') : (execOp ρ o).run P W = .ok (.value v) W' := by
  unfold execOp
  rw [ho]
  simp only [hx, hy, hg, Sem.run_bind, h, Result.andThen_ok, Sem.run_pure]
theorem guard_eqSv (x y : Operand) (s t : Sv) (W : World) : (eqGuard .eql 35 x y s.val t.val).run Tryd.prog W = .ok () W := by unfold Sv.val; go_simp
theorem sv2 (w : World) (s t : Sv) (W : World) (hW : W = (w.alloc (.cells s.cells 35)).alloc (.cells t.cells 35)) : SvAt W w.heap.size s ∧ SvAt W (w.heap.size + 1) t ∧ Sees w W := by
  subst hW
  have a1 := (Sees.refl (w.alloc (.cells s.cells 35))).alloc (.cells t.cells 35)
  have B1 := SvAt.new (w.alloc (.cells s.cells 35)) t
  rw [size_al] at B1
  exact ⟨(SvAt.new w s).sees a1, B1, ((Sees.refl w).alloc _).alloc _⟩
theorem sv5 (w : World) (o1 o2 o3 : Obj) (s : Sv) (W : World) (hW : W = ((((w.alloc o1).alloc o2).alloc o3).alloc (.cells zSv.cells 35)).alloc (.cells s.cells 35)) : SvAt W (w.heap.size + 1 + 1 + 1 + 1) s ∧ SvAt W (w.heap.size + 1 + 1 + 1) zSv ∧ Sees w W := by
  subst hW
  have Z0 := SvAt.new (((w.alloc o1).alloc o2).alloc o3) zSv
  have a1 := (Sees.refl ((((w.alloc o1).alloc o2).alloc o3).alloc (.cells zSv.cells 35))).alloc (.cells s.cells 35)
  have B1 := SvAt.new ((((w.alloc o1).alloc o2).alloc o3).alloc (.cells zSv.cells 35)) s
  rw [size_al, size_al, size_al, size_al] at B1
  have Z1 := Z0.sees a1
  rw [size_al, size_al, size_al] at Z1
  exact ⟨B1, Z1, (((((Sees.refl w).alloc _).alloc _).alloc _).alloc _).alloc _⟩
set_option maxHeartbeats 4000000 in
set_option maxRecDepth 100000 in
theorem is_any (s t : Sv) (e n : Int) (w : World) : Calls Tryd.prog 27 #[s.val, .int .i64 e, t.val, .int .i64 n] w fun r w' => r = .returned (.bool (eqSv s t && e == n)) ∧ Sees w w' := by
  obtain ⟨b, hb⟩ : ∃ b, b = eqSv s t := ⟨_, rfl⟩
  have he := run_eqSv s t
  rw [← hb] at he ⊢
  clear hb
  have HE := Lib.hid he
  clear he
  cases b <;> cases hen : (e == n) <;>
  · go_enter Tryd.func27, Tryd.ntmps27
    go_upto_region 1 with (first
      | (refine wpList_val rfl (exec_box (cs := s.cells) rfl rfl) (fun K hK => ?_); go_simp; refine hK _ _ ?_; clear hK K)
      | (refine wpList_val rfl (exec_box (cs := t.cells) rfl rfl) (fun K hK => ?_); go_simp; refine hK _ _ ?_; clear hK K))
    refine wp_world fun W0 hW0 => ?_
    obtain ⟨A0, B0, S0⟩ := sv2 w s t W0 hW0
    clear hW0
    go_wp2_with (first
      | (refine wpList_val rfl (exec_load (v := s.val) rfl rfl (run_loadSv A0)) (fun K hK => ?_); go_simp; refine hK _ _ ?_; clear hK K)
      | (refine wpList_val rfl (exec_load (v := t.val) rfl rfl (run_loadSv B0)) (fun K hK => ?_); go_simp; refine hK _ _ ?_; clear hK K)
      | (refine wpList_val rfl (exec_bin rfl rfl rfl (guard_eqSv _ _ s t W0) (HE.out W0)) (fun K hK => ?_); go_simp; refine hK _ _ ?_; clear hK K))
    go_ret
    exact ⟨rfl, S0⟩
set_option maxHeartbeats 4000000 in
set_option maxRecDepth 100000 in
theorem new_any (w : World) : Calls Tryd.prog 29 #[] w fun r w' => r = .returned zSv.val ∧ Sees w w' := by
  have Z0 := SvAt.new w zSv
  have S0 := (Sees.refl w).alloc (.cells zSv.cells 35)
  go_enter Tryd.func29, Tryd.ntmps29
  go_upto_region 1 with fail
  go_wp2_with (first | (refine wpList_val rfl (exec_build_zero rfl) (fun K hK => ?_); go_simp; refine hK _ _ ?_; clear hK K) | (refine wpList_skip rfl (exec_store (v := zSv.val) rfl rfl rfl (run_storeSv Z0 zSv)) (fun K hK => ?_); go_simp; refine hK _ _ ?_; clear hK K))
  refine bodyPost_ret_by (results_sv1 (s := zSv) rfl rfl (SvAt.stored Z0 zSv)) rfl ⟨rfl, ?_⟩
  exact Sees.setRow S0 (by omega) _
/-- What Save is called with. -/
def Sv.curV (s : Sv) : Value := .agg #[.int .i64 s.row, .int .i64 s.col, .bool s.pend]
def Sv.penV (s : Sv) : Value := .agg #[.int .i64 s.a0, .int .u8 s.a1, .int .u8 s.a2, .int .u8 s.a3, .int .u8 s.a4, .int .i64 s.a5, .int .u8 s.a6, .int .u8 s.a7, .int .u8 s.a8, .int .u8 s.a9, .int .u8 s.a10]
def Sv.chsV (s : Sv) : Value := .agg #[.int .i64 s.g0, .int .i64 s.g1, .int .i64 s.act]
set_option maxHeartbeats 8000000 in
set_option maxRecDepth 100000 in
theorem save_any (s : Sv) (w : World) : Calls Tryd.prog 28 #[s.curV, s.penV, .bool s.org, s.chsV] w fun r w' => r = .returned (.tuple #[(if s.ok then s else zSv).val, .int .i64 (if s.ok then 0 else 2)]) ∧ Sees w w' := by
  unfold Sv.curV Sv.penV Sv.chsV
  have KV := Lib.hid (fun W => sValid_any s W)
  cases hv : s.ok
  all_goals
    rw [hv] at KV
    go_enter Tryd.func28, Tryd.ntmps28
    go_upto_region 2 with fail
    refine wp_world fun W0 hW0 => ?_
    obtain ⟨A0, Z0, S0⟩ := sv5 w _ _ _ s W0 hW0
    clear hW0
    go_wp2_with (first | (refine wpList_val rfl (exec_load (v := s.val) rfl rfl (run_loadSv A0)) (fun K hK => ?_); go_simp; refine hK _ _ ?_; clear hK K))
    refine (KV.out _).mono ?_
    rintro e W1 ⟨rfl, s1⟩
    have A1 := A0.sees s1
    have Z1 := Z0.sees s1
    have S1 := S0.trans s1
    clear A0 Z0 S0 s1
    go_wp2_with (first
      | (refine wpList_val rfl (exec_build_zero rfl) (fun K hK => ?_); go_simp; refine hK _ _ ?_; clear hK K)
      | (refine wpList_val rfl (exec_load (v := s.val) rfl rfl (run_loadSv A1)) (fun K hK => ?_); go_simp; refine hK _ _ ?_; clear hK K)
      | (refine wpList_skip rfl (exec_store (v := s.val) rfl rfl rfl (run_storeSv Z1 s)) (fun K hK => ?_); go_simp; refine hK _ _ ?_; clear hK K)
      | (refine wpList_skip rfl (exec_store (v := zSv.val) rfl rfl rfl (run_storeSv Z1 zSv)) (fun K hK => ?_); go_simp; refine hK _ _ ?_; clear hK K))
  · refine bodyPost_ret_by (results_sv (s := zSv) rfl rfl rfl (SvAt.stored Z1 zSv)) rfl ⟨rfl, ?_⟩
    exact Sees.setRow S1 (by omega) _
  · refine bodyPost_ret_by (results_sv (s := s) rfl rfl rfl (SvAt.stored Z1 s)) rfl ⟨rfl, ?_⟩
    exact Sees.setRow S1 (by omega) _
end Go.Proofs.YtfgifjdholdohaaDoor
