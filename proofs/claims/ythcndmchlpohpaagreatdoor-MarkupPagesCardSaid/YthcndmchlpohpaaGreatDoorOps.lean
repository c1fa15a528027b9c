/- Whole cells, pens and rows as values: what an operation on them runs to. No condition. -/
import Derived.Test.YthcndmchlpohpaaGreatDoorRow
import Derived.BigQuiet
import Derived.Lib.QuietBelow
namespace Go.Proofs.YthcndmchlpohpaaGreatDoor
set_option linter.unusedVariables false
set_option linter.unusedSimpArgs false
open Go.RowKit

section
variable {P : Program} {ops : Array Oper} {C : World → Prop} {Q : Act → Prop} {Q' : Exit → Act → World → Prop} {a : Act} {o : Oper} {rest : List Oper}
/-- One operation of a plain region, by what it runs to. -/
theorem wpList_val {w : World} (hg : o.guard = none) {v : Value} {w' : World} (hr : (execOp a.eval o).run P w = .ok (.value v) w') (h : ∀ K : Act → World → Prop, (∀ a w, wpList P ops Q' rest a w → K a w) → K (a.put o.dst v) w') : wpList P ops Q' (o :: rest) a w :=
  wpList_plain hg fun K hK => by unfold Oper.wp; rw [hr]; exact h K hK
theorem wpList_skip {w : World} (hg : o.guard = none) {w' : World} (hr : (execOp a.eval o).run P w = .ok .skip w') (h : ∀ K : Act → World → Prop, (∀ a w, wpList P ops Q' rest a w → K a w) → K (a.put o.dst undef) w') : wpList P ops Q' (o :: rest) a w :=
  wpList_plain hg fun K hK => by unfold Oper.wp; rw [hr]; exact h K hK
/-- One operation of a region that draws its order, by what it runs to in each world. -/
theorem wpQuiet_run (v : Value) (hw : Region.wanted o (yielded ops a.tmps) = true) (hr : ∀ W, C W → (execOp a.eval o).run P W = .ok (.value v) W) (h : ∀ K : Act → Prop, (∀ a, wpQuiet P ops C Q rest a → K a) → K (a.put o.dst v)) : wpQuiet P ops C Q (o :: rest) a :=
  wpQuiet_val fun K hK => ⟨hw, v, hr, h K hK⟩
theorem quiet_run {K : Act → Prop} (v : Value) (hr : ∀ W, C W → (execOp a.eval o).run P W = .ok (.value v) W) (h : K (a.put o.dst v)) : o.quiet P a C K :=
  ⟨v, fun W hW => by unfold Oper.quietAt; rw [hr W hW]; exact ⟨rfl, rfl⟩, h⟩
end
theorem regrown_sees {w W : World} (h : ∃ p : Regrown, W = Sort.grow (redrawn w p.d) p.os) : Sees w W := by
  obtain ⟨p, rfl⟩ := h
  exact below_regrown w p.d p.os
theorem sees_grow (w : World) (d : Nat) (os : Array Obj) : Sees w (Sort.grow (redrawn w d) os) := below_regrown w d os

theorem run_load_agg {P : Program} {W : World} (t : TypeId) (b p : Nat) (cs : List Value) (ha : ∀ W, (isAgg t).run P W = .ok true W) (hs : ∀ W, (sizeOf t).run P W = .ok cs.length W) (h : ∀ j x, cs[j]? = some x → W.cell? ⟨b, p + j, none⟩ = some x) :
    (Instr.loadAt t (.pointer (some ⟨b, p, none⟩))).run P W = .ok (.agg cs.toArray) W := by
  have hl := run_loadCells_list (P := P) W ⟨b, p, none⟩ cs (fun j x hx => by rw [show (⟨b, p, none⟩ : Addr).add j = ⟨b, p + j, none⟩ by unfold Addr.add; split <;> simp_all]; exact h j x hx)
  have hc : (Instr.sureAddr (.pointer (some ⟨b, p, none⟩))).run P W = .ok ⟨b, p, none⟩ W := rfl
  unfold Instr.loadAt loadVar
  simp only [Sem.run_bind, hc, Result.andThen_ok, ha, if_true, hs, hl]
  rfl

theorem cell_isAgg : ∀ W, (isAgg 42).run Tryz.prog W = .ok true W := fun _ => by kernel_rfl
theorem cell_sizeOf : ∀ W, (sizeOf 42).run Tryz.prog W = .ok 16 W := fun _ => by kernel_rfl
theorem pen_isAgg : ∀ W, (isAgg 40).run Tryz.prog W = .ok true W := fun _ => by kernel_rfl
theorem pen_sizeOf : ∀ W, (sizeOf 40).run Tryz.prog W = .ok 11 W := fun _ => by kernel_rfl

theorem run_loadCell {W : World} {b p : Nat} {c : Cell} (h : CellAt W b p c) : (Instr.loadAt 42 (.pointer (some ⟨b, p, none⟩))).run Tryz.prog W = .ok c.val W :=
  run_load_agg 42 b p c.vals cell_isAgg cell_sizeOf h
/-- A cell's pen. -/
def Cell.pvals (c : Cell) : List Value := [.int .i64 c.f0, .int .u8 c.f1, .int .u8 c.f2, .int .u8 c.f3, .int .u8 c.f4, .int .i64 c.b0, .int .u8 c.b1, .int .u8 c.b2, .int .u8 c.b3, .int .u8 c.b4, .int .u8 c.flags]
def Cell.pen (c : Cell) : Value := .agg #[.int .i64 c.f0, .int .u8 c.f1, .int .u8 c.f2, .int .u8 c.f3, .int .u8 c.f4, .int .i64 c.b0, .int .u8 c.b1, .int .u8 c.b2, .int .u8 c.b3, .int .u8 c.b4, .int .u8 c.flags]
theorem pvals_at {c : Cell} {j : Nat} {x : Value} (h : c.pvals[j]? = some x) : c.vals[5 + j]? = some x := by
  rw [show c.vals = [.int .i32 c.rune, .int .i32 c.m0, .int .i32 c.m1, .int .i32 c.m2, .int .i64 c.width] ++ c.pvals from rfl, List.getElem?_append_right (by simp)]
  simpa using h
theorem run_loadPen {W : World} {b p : Nat} {c : Cell} (h : CellAt W b p c) : (Instr.loadAt 40 (.pointer (some ⟨b, p + 5, none⟩))).run Tryz.prog W = .ok c.pen W :=
  run_load_agg 40 b (p + 5) c.pvals pen_isAgg pen_sizeOf fun j x hx => by rw [Nat.add_assoc]; exact h _ _ (pvals_at hx)

theorem exec_load {P : Program} {ρ : Operand → Value} {o : Oper} {t : TypeId} {x : Operand} {a v : Value} {W W' : World} (ho : o.op = .load t x) (hx : ρ x = a) (h : (Instr.loadAt t a).run P W = .ok v W') : (execOp ρ o).run P W = .ok (.value v) W' := by
  unfold execOp
  rw [ho]
  simp only [hx, Sem.run_bind, h, Result.andThen_ok]
  rfl
theorem exec_bin {P : Program} {ρ : Operand → Value} {o : Oper} {op : BinOp} {t t' : TypeId} {x y : Operand} {a b v : Value} {W W' : World} (ho : o.op = .binOp op t x y t') (hx : ρ x = a) (hy : ρ y = b)
    (hg : (eqGuard op t x y a b).run P W = .ok () W) (h : (binOp op t a b).run P W = .ok v W') : (execOp ρ o).run P W = .ok (.value v) W' := by
  unfold execOp
  rw [ho]
  simp only [hx, hy, hg, Sem.run_bind, h, Result.andThen_ok, Sem.run_pure]

def penEq (c d : Cell) : Bool := eq11 c.f0 c.f1 c.f2 c.f3 c.f4 c.b0 c.b1 c.b2 c.b3 c.b4 c.flags d.f0 d.f1 d.f2 d.f3 d.f4 d.b0 d.b1 d.b2 d.b3 d.b4 d.flags
theorem run_neqPen (c d : Cell) (W : World) : (binOp .neq 40 c.pen d.pen).run Tryz.prog W = .ok (.bool (!penEq c d)) W := by
  have h := eqlPen c.f0 c.f1 c.f2 c.f3 c.f4 c.b0 c.b1 c.b2 c.b3 c.b4 c.flags d.f0 d.f1 d.f2 d.f3 d.f4 d.b0 d.b1 d.b2 d.b3 d.b4 d.flags W
  unfold Cell.pen penEq
  rw [run_eql_struct] at h
  rw [run_neq_struct]
  revert h
  generalize (Op.equalIn 10000 40 _ _).run Tryz.prog W = r
  cases r with
  | ok b w' => simp only [Result.andThen_ok, Result.ok.injEq, Value.bool.injEq]; rintro ⟨rfl, rfl⟩; exact ⟨rfl, rfl⟩
  | halt x w' => intro h; cases h
theorem run_neqCell (c d : Cell) (W : World) : (binOp .neq 42 c.val d.val).run Tryz.prog W = .ok (.bool (!decide (c = d))) W := by
  unfold Cell.val
  rw [neqCell, eq16_iff]
theorem run_eqlCell (c d : Cell) (W : World) : (binOp .eql 42 c.val d.val).run Tryz.prog W = .ok (.bool (decide (c = d))) W := by
  unfold Cell.val
  rw [eqlCell, eq16_iff]
theorem guard_neqCell (x y : Operand) (c d : Cell) (W : World) : (eqGuard .neq 42 x y c.val d.val).run Tryz.prog W = .ok () W := by unfold Cell.val; go_simp
theorem guard_neqPen (x y : Operand) (c d : Cell) (W : World) : (eqGuard .neq 40 x y c.pen d.pen).run Tryz.prog W = .ok () W := by unfold Cell.pen; go_simp
theorem guard_eqlCell (x y : Operand) (c d : Cell) (W : World) : (eqGuard .eql 42 x y c.val d.val).run Tryz.prog W = .ok () W := by unfold Cell.val; go_simp
theorem run_storeAt_row {P : Program} {W : World} (t : TypeId) (g : Nat) (cur : Array Value) (u : TypeId) (vs : List Value) (hs : ∀ W, (sizeOf t).run P W = .ok vs.length W) (hg : W.heap[g]? = some (.cells cur u (0, 0))) (hl : vs.length = cur.size) (h1 : ∀ v ∈ vs, v.oneCell' = true) :
    (Instr.storeAt t (.pointer (some ⟨g, 0, none⟩)) (.agg vs.toArray)).run P W = .ok () (W.setRow g vs.toArray) := by
  have hc : (Instr.sureAddr (.pointer (some ⟨g, 0, none⟩))).run P W = .ok ⟨g, 0, none⟩ W := rfl
  have h := run_storeCells_at (P := P) g 0 u vs 0 cur W hg (by omega) h1
  unfold Instr.storeAt storeVar
  simp only [Sem.run_bind, hc, Result.andThen_ok, hs, Value.cells]
  simp only [List.size_toArray, ne_eq, not_true_eq_false, if_false, h, Sem.run_ite]
  simp only [Nat.add_zero, List.take_zero, List.nil_append]
  rw [List.drop_of_length_le (by simp; omega)]
  simp
theorem setRow_alloc (w : World) (x y : Array Value) (t : TypeId) : (w.alloc (.cells x t)).setRow w.heap.size y = w.alloc (.cells y t) := by
  show ({ w with heap := (w.heap.push (.cells x t)).modify w.heap.size _ } : World) = { w with heap := w.heap.push (.cells y t) }
  congr 1
  apply Array.ext
  · simp
  · intro i h1 h2
    rw [Array.getElem_modify]
    by_cases h : w.heap.size = i
    · subst h; simp
    · rw [if_neg h, Array.getElem_push_lt (by simp at h2; omega), Array.getElem_push_lt (by simp at h2; omega)]
theorem vals_one (c : Cell) : ∀ v ∈ c.vals, v.oneCell' = true := by
  intro v hv
  simp only [Cell.vals, List.mem_cons, List.not_mem_nil, or_false] at hv
  rcases hv with rfl | rfl | rfl | rfl | rfl | rfl | rfl | rfl | rfl | rfl | rfl | rfl | rfl | rfl | rfl | rfl <;> rfl
theorem exec_store {P : Program} {ρ : Operand → Value} {o : Oper} {t : TypeId} {x y : Operand} {a v : Value} {W W' : World} (ho : o.op = .store t x y) (hx : ρ x = a) (hy : ρ y = v) (h : (Instr.storeAt t a v).run P W = .ok () W') : (execOp ρ o).run P W = .ok .skip W' := by
  unfold execOp
  rw [ho]
  simp only [hx, hy, Sem.run_bind, h, Result.andThen_ok]
  rfl

/-- A new block with a cell in it. -/
theorem run_storeNew {W : World} (c : Cell) (x : Array Value) (hx : x.size = 16) (g : Nat) (hg : g = W.heap.size) : (Instr.storeAt 42 (.pointer (some ⟨g, 0, none⟩)) c.val).run Tryz.prog (W.alloc (.cells x 42)) = .ok () (W.alloc (.cells c.vals.toArray 42)) := by
  subst hg
  have h := run_storeAt_row (P := Tryz.prog) (W := W.alloc (.cells x 42)) 42 W.heap.size x 42 c.vals cell_sizeOf (heap_alloc_new W _) (by rw [hx]; rfl) (vals_one c)
  rw [setRow_alloc] at h
  exact h
theorem cellAt_new (W : World) (c : Cell) (t : TypeId) : CellAt (W.alloc (.cells c.vals.toArray t)) W.heap.size 0 c := by
  intro j x hx
  rw [Nat.zero_add, cell_of_row _ _ _ _ _ _ (heap_alloc_new W _)]
  simpa using hx
end Go.Proofs.YthcndmchlpohpaaGreatDoor
