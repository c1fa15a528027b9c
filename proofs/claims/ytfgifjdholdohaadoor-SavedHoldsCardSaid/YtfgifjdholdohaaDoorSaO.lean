/- Something kept as a value: what loads and stores of it run to (23). No condition. -/
import Derived.Test.YtfgifjdholdohaaDoorSaR
import Derived.OneCell
import Derived.Laws.Tables
import Derived.BigQuiet
namespace Go.Proofs.YtfgifjdholdohaaDoor
set_option linter.unusedVariables false
set_option linter.unusedSimpArgs false
open Go.RowKit

section
variable {P : Program} {ops : Array Oper} {Q' : Exit → Act → World → Prop} {a : Act} {o : Oper} {rest : List Oper}
theorem wpList_val {w : World} (hg : o.guard = none) {v : Value} {w' : World} (hr : (execOp a.eval o).run P w = .ok (.value v) w') (h : ∀ K : Act → World → Prop, (∀ a w, wpList P ops Q' rest a w → K a w) → K (a.put o.dst v) w') : wpList P ops Q' (o :: rest) a w :=
  wpList_plain hg fun K hK => by unfold Oper.wp; rw [hr]; exact h K hK
theorem wpList_skip {w : World} (hg : o.guard = none) {w' : World} (hr : (execOp a.eval o).run P w = .ok .skip w') (h : ∀ K : Act → World → Prop, (∀ a w, wpList P ops Q' rest a w → K a w) → K (a.put o.dst undef) w') : wpList P ops Q' (o :: rest) a w :=
  wpList_plain hg fun K hK => by unfold Oper.wp; rw [hr]; exact h K hK
end
theorem run_load_agg {P : Program} {W : World} (t : TypeId) (b p : Nat) (cs : List Value) (ha : ∀ W, (isAgg t).run P W = .ok true W) (hs : ∀ W, (sizeOf t).run P W = .ok cs.length W) (h : ∀ j x, cs[j]? = some x → W.cell? ⟨b, p + j, none⟩ = some x) :
    (Instr.loadAt t (.pointer (some ⟨b, p, none⟩))).run P W = .ok (.agg cs.toArray) W := by
  have hl := run_loadCells_list (P := P) W ⟨b, p, none⟩ cs (fun j x hx => by rw [show (⟨b, p, none⟩ : Addr).add j = ⟨b, p + j, none⟩ by unfold Addr.add; split <;> simp_all]; exact h j x hx)
  have hc : (Instr.sureAddr (.pointer (some ⟨b, p, none⟩))).run P W = .ok ⟨b, p, none⟩ W := rfl
  unfold Instr.loadAt loadVar
  simp only [Sem.run_bind, hc, Result.andThen_ok, ha, if_true, hs, hl]
  rfl

theorem exec_load {P : Program} {ρ : Operand → Value} {o : Oper} {t : TypeId} {x : Operand} {a v : Value} {W W' : World} (ho : o.op = .load t x) (hx : ρ x = a) (h : (Instr.loadAt t a).run P W = .ok v W') : (execOp ρ o).run P W = .ok (.value v) W' := by
  unfold execOp
  rw [ho]
  simp only [hx, Sem.run_bind, h, Result.andThen_ok]
  rfl
theorem run_storeAt_row {P : Program} {W : World} (t : TypeId) (g : Nat) (cur : Array Value) (u : TypeId) (vs : List Value) (hs : ∀ W, (sizeOf t).run P W = .ok vs.length W) (hg : W.heap[g]? = some (.cells cur u (0, 0))) (hl : vs.length = cur.size) (h1 : ∀ v ∈ vs, v.oneCell' = true) :
    (Instr.storeAt t (.pointer (some ⟨g, 0, none⟩)) (.agg vs.toArray)).run P W = .ok () (W.setRow g vs.toArray) := by
  have hc : (Instr.sureAddr (.pointer (some ⟨g, 0, none⟩))).run P W = .ok ⟨g, 0, none⟩ W := rfl
  have h := run_storeCells_at (P := P) g 0 u vs 0 cur W hg (by omega) h1
  unfold Instr.storeAt storeVar
  simp only [Sem.run_bind, hc, Result.andThen_ok, hs, Value.cells]
  simp only [List.size_toArray, ne_eq, not_true_eq_false, if_false, h, Sem.run_ite]
  simp only [Nat.add_zero, List.take_zero, List.nil_append]
  rw [List.drop_of_length_le (by simp; omega)]
  simp
theorem exec_store {P : Program} {ρ : Operand → Value} {o : Oper} {t : TypeId} {x y : Operand} {a v : Value} {W W' : World} (ho : o.op = .store t x y) (hx : ρ x = a) (hy : ρ y = v) (h : (Instr.storeAt t a v).run P W = .ok () W') : (execOp ρ o).run P W = .ok .skip W' := by
  unfold execOp
  rw [ho]
  simp only [hx, hy, Sem.run_bind, h, Result.andThen_ok]
  rfl

theorem sv_isAgg : ∀ W, (isAgg 35).run Tryd.prog W = .ok true W := fun _ => by kernel_rfl
theorem sv_sizeOf : ∀ W, (sizeOf 35).run Tryd.prog W = .ok 18 W := fun _ => by kernel_rfl
theorem sv_one (s : Sv) : ∀ v ∈ s.cells.toList, v.oneCell' = true := by
  intro v hv
  simp only [Sv.cells, List.mem_cons, List.not_mem_nil, or_false] at hv
  rcases hv with rfl | rfl | rfl | rfl | rfl | rfl | rfl | rfl | rfl | rfl | rfl | rfl | rfl | rfl | rfl | rfl | rfl | rfl <;> rfl
theorem run_loadSv {W : World} {p : Nat} {s : Sv} (h : SvAt W p s) : (Instr.loadAt 35 (.pointer (some ⟨p, 0, none⟩))).run Tryd.prog W = .ok s.v W :=
  run_load_agg 35 p 0 s.cells.toList sv_isAgg sv_sizeOf fun j x hx => by
    rw [Nat.zero_add, Go.cell_of_row W p _ _ _ _ h]
    simpa using hx
theorem run_storeSv {W : World} {p : Nat} {z : Sv} (h : SvAt W p z) (s : Sv) : (Instr.storeAt 35 (.pointer (some ⟨p, 0, none⟩)) s.v).run Tryd.prog W = .ok () (W.setRow p s.cells) :=
  run_storeAt_row (P := Tryd.prog) (W := W) 35 p z.cells 35 s.cells.toList sv_sizeOf h rfl (sv_one s)
theorem Sees.setRow {w W : World} (h : Sees w W) {p : Nat} (hp : w.heap.size ≤ p) (cs : Array Value) : Sees w (W.setRow p cs) :=
  Below.trans h ⟨rfl, rfl, rfl, by simp [World.setRow], fun k hk => setRow_other _ _ _ _ (by omega)⟩
namespace SvAt
variable {W : World} {p q : Nat} {s z : Sv}
theorem stored (h : SvAt W p z) (s : Sv) : SvAt (W.setRow p s.cells) p s := setRow_heap W p _ _ _ _ h
theorem other (h : SvAt W q z) (hne : q ≠ p) (cs : Array Value) : SvAt (W.setRow p cs) q z := by
  unfold SvAt
  rw [setRow_other _ _ _ _ hne]
  exact h
theorem off (h : SvAt W q z) {a : Addr} (hne : q ≠ a.block) (v : Value) : SvAt (W.setCell a v) q z := by
  unfold SvAt
  rw [Below.heap_setCell _ _ _ _ hne]
  exact h
theorem row (h : SvAt W p s) (x : Int) : SvAt (W.setCell ⟨p, 0, none⟩ (.int .i64 x)) p { s with row := x } := heap_setCell_same _ _ _ _ _ _ h
theorem col (h : SvAt W p s) (x : Int) : SvAt (W.setCell ⟨p, 1, none⟩ (.int .i64 x)) p { s with col := x } := heap_setCell_same _ _ _ _ _ _ h
theorem pend (h : SvAt W p s) (x : Bool) : SvAt (W.setCell ⟨p, 2, none⟩ (.bool x)) p { s with pend := x } := heap_setCell_same _ _ _ _ _ _ h
end SvAt
theorem ArAt.off {W : World} {q : Nat} {z : Ar} (h : ArAt W q z) {a : Addr} (hne : q ≠ a.block) (v : Value) : ArAt (W.setCell a v) q z := by
  unfold ArAt
  rw [Below.heap_setCell _ _ _ _ hne]
  exact h
/-- Something kept, as a value (folded). -/
def Sv.val (s : Sv) : Value := .agg s.cells
theorem Sv.val_v (s : Sv) : s.val = s.v := rfl
def Ar.val (a : Ar) : Value := .agg a.cells
theorem exec_box {P : Program} {ρ : Operand → Value} {o : Oper} {t : TypeId} {x : Operand} {cs : Array Value} {W : World} (ho : o.op = .box t x) (hx : ρ x = .agg cs) : (execOp ρ o).run P W = .ok (.value (.pointer (some ⟨W.heap.size, 0, none⟩))) (W.alloc (.cells cs t)) := by
  unfold execOp
  rw [ho]
  simp only [hx]
  rfl
theorem ar_isAgg : ∀ W, (isAgg 39).run Tryd.prog W = .ok true W := fun _ => by kernel_rfl
theorem ar_sizeOf : ∀ W, (sizeOf 39).run Tryd.prog W = .ok 5 W := fun _ => by kernel_rfl
theorem run_loadAr {W : World} {p : Nat} {a : Ar} (h : ArAt W p a) : (Instr.loadAt 39 (.pointer (some ⟨p, 0, none⟩))).run Tryd.prog W = .ok a.val W :=
  run_load_agg 39 p 0 a.cells.toList ar_isAgg ar_sizeOf fun j x hx => by
    rw [Nat.zero_add, Go.cell_of_row W p _ _ _ _ h]
    simpa using hx
theorem results_cell {P : Program} {fn : Func} {tmps : Array Value} {W : World} {i j p : Nat} {T : TypeId} {x v : Value} (hr : fn.results = #[.cell i T, .tmp j]) (hi : tmps[i]?.getD undef = .pointer (some ⟨p, 0, none⟩)) (hj : tmps[j]?.getD undef = v) (hl : (loadVar T ⟨p, 0, none⟩).run P W = .ok x W) :
    (results fn tmps).run P W = .ok (.tuple #[x, v]) W := by
  unfold results
  rw [hr]
  simp [hi, hj, asAddr, hl]
theorem exec_build_zero {ρ : Operand → Value} {o : Oper} {W : World} (ho : o.op = .build 35 #[]) : (execOp ρ o).run Tryd.prog W = .ok (.value zSv.val) W := by
  have h : ∀ ρ W, (execOp ρ { dst := none, op := .build 35 #[], type := 0, pos := "", after := #[], guard := none }).run Tryd.prog W = .ok (.value zSv.val) W := fun ρ W => by kernel_rfl
  have h := h ρ W
  unfold execOp at h ⊢
  rw [ho]
  exact h
/-- What is handed back: something kept in memory, and an error's number. -/
theorem results_sv {fn : Func} {tmps : Array Value} {W : World} {i j p : Nat} {s : Sv} {v : Value} (hr : fn.results = #[.cell i 35, .tmp j]) (hi : tmps[i]?.getD undef = .pointer (some ⟨p, 0, none⟩)) (hj : tmps[j]?.getD undef = v) (h : SvAt W p s) :
    (results fn tmps).run Tryd.prog W = .ok (.tuple #[s.val, v]) W := results_cell hr hi hj (run_loadSv h)
theorem results_cell1 {P : Program} {fn : Func} {tmps : Array Value} {W : World} {i p : Nat} {T : TypeId} {x : Value} (hr : fn.results = #[.cell i T]) (hi : tmps[i]?.getD undef = .pointer (some ⟨p, 0, none⟩)) (hl : (loadVar T ⟨p, 0, none⟩).run P W = .ok x W) :
    (results fn tmps).run P W = .ok x W := by
  unfold results
  rw [hr]
  simp [hi, asAddr, hl]
theorem results_sv1 {fn : Func} {tmps : Array Value} {W : World} {i p : Nat} {s : Sv} (hr : fn.results = #[.cell i 35]) (hi : tmps[i]?.getD undef = .pointer (some ⟨p, 0, none⟩)) (h : SvAt W p s) :
    (results fn tmps).run Tryd.prog W = .ok s.val W := results_cell1 hr hi (run_loadSv h)
theorem sar3 (w : World) (s : Sv) (a : Ar) (W : World) (hW : W = ((w.alloc (.cells s.cells 35)).alloc (.cells a.cells 39)).alloc (.cells zSv.cells 35)) : SvAt W w.heap.size s ∧ ArAt W (w.heap.size + 1) a ∧ SvAt W (w.heap.size + 1 + 1) zSv ∧ Sees w W := by
  subst hW
  have a1 := (Sees.refl (w.alloc (.cells s.cells 35))).alloc (.cells a.cells 39)
  have a2 := (Sees.refl ((w.alloc (.cells s.cells 35)).alloc (.cells a.cells 39))).alloc (.cells zSv.cells 35)
  have B1 := (ArAt.new (w.alloc (.cells s.cells 35)) a).sees a2
  have Z0 := SvAt.new ((w.alloc (.cells s.cells 35)).alloc (.cells a.cells 39)) zSv
  rw [size_al] at B1
  rw [size_al, size_al] at Z0
  exact ⟨((SvAt.new w s).sees a1).sees a2, B1, Z0, (((Sees.refl w).alloc _).alloc _).alloc _⟩
theorem Sv.ok_placed (s : Sv) (h : s.ok = true) : s.placed = true := by unfold Sv.ok at h; rw [Bool.and_eq_true, Bool.and_eq_true] at h; exact h.1
theorem Sv.ok_pen (s : Sv) (h : s.ok = true) : s.pen = true := by unfold Sv.ok at h; rw [Bool.and_eq_true, Bool.and_eq_true] at h; exact h.2.1
theorem Sv.ok_cs (s : Sv) (h : s.ok = true) : s.cs = true := by unfold Sv.ok at h; rw [Bool.and_eq_true, Bool.and_eq_true] at h; exact h.2.2
theorem pen_isAgg : ∀ W, (isAgg 29).run Tryd.prog W = .ok true W := fun _ => by kernel_rfl
theorem pen_sizeOf : ∀ W, (sizeOf 29).run Tryd.prog W = .ok 11 W := fun _ => by kernel_rfl
theorem run_loadPenSv {W : World} {p : Nat} {s : Sv} (h : SvAt W p s) : (Instr.loadAt 29 (.pointer (some ⟨p, 3, none⟩))).run Tryd.prog W = .ok (.agg #[.int .i64 s.a0, .int .u8 s.a1, .int .u8 s.a2, .int .u8 s.a3, .int .u8 s.a4, .int .i64 s.a5, .int .u8 s.a6, .int .u8 s.a7, .int .u8 s.a8, .int .u8 s.a9, .int .u8 s.a10]) W :=
  run_load_agg 29 p 3 [.int .i64 s.a0, .int .u8 s.a1, .int .u8 s.a2, .int .u8 s.a3, .int .u8 s.a4, .int .i64 s.a5, .int .u8 s.a6, .int .u8 s.a7, .int .u8 s.a8, .int .u8 s.a9, .int .u8 s.a10] pen_isAgg pen_sizeOf fun j x hx => by
    have hx' : (s.cells.toList.drop 3)[j]? = some x := by
      rw [show s.cells.toList.drop 3 = [.int .i64 s.a0, .int .u8 s.a1, .int .u8 s.a2, .int .u8 s.a3, .int .u8 s.a4, .int .i64 s.a5, .int .u8 s.a6, .int .u8 s.a7, .int .u8 s.a8, .int .u8 s.a9, .int .u8 s.a10] ++ [.bool s.org, .int .i64 s.g0, .int .i64 s.g1, .int .i64 s.act] from rfl, List.getElem?_append_left (List.getElem?_eq_some_iff.1 hx).1]
      exact hx
    rw [List.getElem?_drop] at hx'
    rw [Go.cell_of_row W p _ _ _ _ h]
    simpa using hx'
end Go.Proofs.YtfgifjdholdohaaDoor
