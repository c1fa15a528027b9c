/- Cells that came in, with their bytes in range (48). No condition. -/
import Derived.Test.YthcndmchlpohpaaGreatDoorOpenL
import Derived.Test.YthcndmchlpohpaaGreatDoorMkI
namespace Go.Proofs.YthcndmchlpohpaaGreatDoor
set_option linter.unusedVariables false
set_option linter.unusedSimpArgs false
open Go.ChangeShapes Go.WideShapes Go.RowKit

theorem u8_wf {z : Int} (h : (Lit.int IntKind.u8 z).wf = true) : 0 ≤ z ∧ z < 256 := by
  have h2 : IntKind.u8.min ≤ z ∧ z ≤ IntKind.u8.max := by simpa [Lit.wf] using h
  have e1 : IntKind.u8.min = 0 := by decide
  have e2 : IntKind.u8.max = 255 := by decide
  omega
section
variable {H : Type} {enc : TypeId × Value → H} {w : World} {base : Nat} {spare : Nat → Bool} {held : Bool}
theorem open_cellB {fuel : Nat} {cs : List Value} {x : DataW H × List MemPlace} (h : DataW.trod enc Tryz.prog w base spare held fuel 42 cs = some x) : ∃ c : Cell, cs = c.vals ∧ c.Bd := by
  obtain ⟨c, rfl⟩ := open_cell h
  obtain ⟨_, hg⟩ := leaves 8 _ _ flat_cell fuel _ x h
  obtain ⟨z6, e6, w6⟩ := leaf_int (hg 6 _ rfl) Tryz.underlying5
  obtain ⟨z7, e7, w7⟩ := leaf_int (hg 7 _ rfl) Tryz.underlying5
  obtain ⟨z8, e8, w8⟩ := leaf_int (hg 8 _ rfl) Tryz.underlying5
  obtain ⟨z9, e9, w9⟩ := leaf_int (hg 9 _ rfl) Tryz.underlying5
  obtain ⟨z11, e11, w11⟩ := leaf_int (hg 11 _ rfl) Tryz.underlying5
  obtain ⟨z12, e12, w12⟩ := leaf_int (hg 12 _ rfl) Tryz.underlying5
  obtain ⟨z13, e13, w13⟩ := leaf_int (hg 13 _ rfl) Tryz.underlying5
  obtain ⟨z14, e14, w14⟩ := leaf_int (hg 14 _ rfl) Tryz.underlying5
  obtain ⟨z15, e15, w15⟩ := leaf_int (hg 15 _ rfl) Tryz.underlying38
  cases e6; cases e7; cases e8; cases e9; cases e11; cases e12; cases e13; cases e14; cases e15
  exact ⟨c, rfl, u8_wf w6, u8_wf w7, u8_wf w8, u8_wf w9, u8_wf w11, u8_wf w12, u8_wf w13, u8_wf w14, u8_wf w15⟩
/-- Cells whose bytes are in range. -/
def cellBEl : El Cell where
  ty := 42
  n := 16
  n0 := by decide
  rel _ _ vs c := vs = c.vals ∧ c.Bd
  own _ _ vs c := vs = c.vals ∧ c.Bd
  len := by rintro F w vs x ⟨rfl, _⟩; rfl
  one := by rintro F w vs x ⟨rfl, _⟩ v hv; exact vals_one x v hv
  keeps h _ _ := h
  mono h _ := h
  own_rel h := h
  own_keeps h _ _ := h
  own_mono h _ := h
theorem cellB_of {F : Nat → Prop} {w : World} {v : Value} {xs : List Cell} (h : cellBEl.Rd F w v xs) : cellEl.Rd F w v xs ∧ ∀ c ∈ xs, c.Bd := by
  obtain ⟨ao, cap, h1, h2, h3⟩ := h
  refine ⟨⟨ao, cap, h1, h2, fun hne => ?_⟩, fun c hc => ?_⟩
  · obtain ⟨b, o, e, hb, h4⟩ := h3 hne
    refine ⟨b, o, e, hb, fun i x hx => ?_⟩
    obtain ⟨vs, ⟨r1, _⟩, h5⟩ := h4 i x hx
    exact ⟨vs, r1, h5⟩
  · have hne : xs ≠ [] := fun e => by rw [e] at hc; cases hc
    obtain ⟨b, o, e, hb, h4⟩ := h3 hne
    obtain ⟨i, hi⟩ := List.mem_iff_getElem?.1 hc
    obtain ⟨vs, ⟨_, r2⟩, _⟩ := h4 i c hi
    exact r2
theorem open_cellsB {fuel : Nat} {v : Value} {x : DataW H × List MemPlace} (h : DataW.trod enc Tryz.prog w base spare held fuel 25 [v] = some x) : ∃ xs, cellEl.Rd (fun b => b < w.heap.size) w v xs ∧ ∀ c ∈ xs, c.Bd := by
  obtain ⟨xs, hx⟩ := open_el cellBEl _ Tryz.underlying25 (by kernel_rfl) (fun fuel cs x h => open_cellB h) h
  exact ⟨xs, cellB_of hx⟩
set_option maxRecDepth 100000 in
/-- A pen that came in: a cell's that was never written. -/
theorem open_pen {r : Reach} {b0 : Nat} {v : Value} {d : DataW H} {ps : List MemPlace} (hv : Value.okWide Tryz.prog w r b0 40 v) (h : DataW.Trod enc Tryz.prog w base spare held 40 v d ps) : ∃ c : Cell, v = c.pen ∧ c.Bd := by
  obtain ⟨fuel, h⟩ := h
  have hft : flatT Tryz.prog 8 40 = some [35, 5, 5, 5, 5, 35, 5, 5, 5, 5, 38] := by kernel_rfl
  obtain ⟨hl, hg⟩ := leaves 8 _ _ hft fuel _ _ h
  obtain ⟨z0, e0, w0⟩ := leaf_int (hg 0 _ rfl) Tryz.underlying35
  obtain ⟨z1, e1, w1⟩ := leaf_int (hg 1 _ rfl) Tryz.underlying5
  obtain ⟨z2, e2, w2⟩ := leaf_int (hg 2 _ rfl) Tryz.underlying5
  obtain ⟨z3, e3, w3⟩ := leaf_int (hg 3 _ rfl) Tryz.underlying5
  obtain ⟨z4, e4, w4⟩ := leaf_int (hg 4 _ rfl) Tryz.underlying5
  obtain ⟨z5, e5, w5⟩ := leaf_int (hg 5 _ rfl) Tryz.underlying35
  obtain ⟨z6, e6, w6⟩ := leaf_int (hg 6 _ rfl) Tryz.underlying5
  obtain ⟨z7, e7, w7⟩ := leaf_int (hg 7 _ rfl) Tryz.underlying5
  obtain ⟨z8, e8, w8⟩ := leaf_int (hg 8 _ rfl) Tryz.underlying5
  obtain ⟨z9, e9, w9⟩ := leaf_int (hg 9 _ rfl) Tryz.underlying5
  obtain ⟨z10, e10, w10⟩ := leaf_int (hg 10 _ rfl) Tryz.underlying38
  obtain ⟨xs, rfl, _⟩ := okWide_struct Tryz.underlying40 hv
  refine ⟨⟨0, 0, 0, 0, 0, z0, z1, z2, z3, z4, z5, z6, z7, z8, z9, z10⟩, ?_, u8_wf w1, u8_wf w2, u8_wf w3, u8_wf w4, u8_wf w6, u8_wf w7, u8_wf w8, u8_wf w9, u8_wf w10⟩
  obtain ⟨xs⟩ := xs
  simp only [Value.cells] at hl e0 e1 e2 e3 e4 e5 e6 e7 e8 e9 e10
  match xs, hl with
  | [a0, a1, a2, a3, a4, a5, a6, a7, a8, a9, a10], _ =>
    simp at e0 e1 e2 e3 e4 e5 e6 e7 e8 e9 e10
    subst e0 e1 e2 e3 e4 e5 e6 e7 e8 e9 e10
    rfl
set_option maxRecDepth 100000 in
/-- A line that came in. -/
theorem open_lineB {r : Reach} {b0 : Nat} {v : Value} {d : DataW H} {ps : List MemPlace} (hv : Value.okWide Tryz.prog w r b0 27 v) (h : DataW.Trod enc Tryz.prog w base spare held 27 v d ps) :
    ∃ (u : Value) (cs : List Cell) (soft : Bool), v = .agg #[u, .bool soft] ∧ cellEl.Rd (fun b => b < w.heap.size) w u cs ∧ ∀ c ∈ cs, c.Bd := by
  obtain ⟨fuel, h⟩ := h
  have hft : flatT Tryz.prog 8 27 = some [25, 4] := by kernel_rfl
  obtain ⟨hl, hg⟩ := leaves 8 _ _ hft fuel _ _ h
  obtain ⟨u, n, y, e0, h0⟩ := hg 0 _ rfl
  obtain ⟨soft, e1⟩ := leaf_bool (hg 1 _ rfl) Tryz.underlying4
  obtain ⟨cs, hcs, hbd⟩ := open_cellsB h0
  obtain ⟨xs, rfl, _⟩ := okWide_struct Tryz.underlying27 hv
  refine ⟨u, cs, soft, ?_, hcs, hbd⟩
  obtain ⟨xs⟩ := xs
  simp only [Value.cells] at hl e0 e1
  obtain ⟨a, b, rfl⟩ : ∃ a b, xs = [a, b] := by
    have hl2 : xs.length = 2 := hl
    clear hl e0 e1
    match xs, hl2 with
    | [a, b], _ => exact ⟨a, b, rfl⟩
  simp at e0 e1
  subst e0 e1
  rfl
def lnBEl : El Ln := sliceAnd cellBEl 27 2 (·.cells) (fun _ => []) (fun l => [.bool l.soft]) (by decide) (fun _ => rfl) (by intro x v hv; simp at hv; subst hv; rfl)
theorem lnB_of {F : Nat → Prop} {w : World} {v : Value} {ls : List Ln} (h : lnBEl.Rd F w v ls) : lnEl.Rd F w v ls ∧ ∀ x ∈ ls, ∀ c ∈ x.cells, c.Bd := by
  obtain ⟨ao, cap, h1, h2, h3⟩ := h
  refine ⟨⟨ao, cap, h1, h2, fun hne => ?_⟩, fun x hx => ?_⟩
  · obtain ⟨b, o, e, hb, h4⟩ := h3 hne
    refine ⟨b, o, e, hb, fun i x hx => ?_⟩
    obtain ⟨vs, ⟨u, r1, r2⟩, h5⟩ := h4 i x hx
    exact ⟨vs, ⟨u, r1, (cellB_of r2).1⟩, h5⟩
  · have hne : ls ≠ [] := fun e => by rw [e] at hx; cases hx
    obtain ⟨b, o, e, hb, h4⟩ := h3 hne
    obtain ⟨i, hi⟩ := List.mem_iff_getElem?.1 hx
    obtain ⟨vs, ⟨u, r1, r2⟩, _⟩ := h4 i x hi
    exact (cellB_of r2).2
theorem line_wordsB {fuel : Nat} {cs : List Value} {x : DataW H × List MemPlace} (h : DataW.trod enc Tryz.prog w base spare held fuel 27 cs = some x) : ∃ d, lnBEl.rel (fun b => b < w.heap.size) w cs d := by
  have hft : flatT Tryz.prog 8 27 = some [25, 4] := by kernel_rfl
  obtain ⟨hl, hg⟩ := leaves 8 _ _ hft fuel _ _ h
  obtain ⟨u, n, y, e0, h0⟩ := hg 0 _ rfl
  obtain ⟨soft, e1⟩ := leaf_bool (hg 1 _ rfl) Tryz.underlying4
  obtain ⟨xs, hxs⟩ := open_el cellBEl _ Tryz.underlying25 (by kernel_rfl) (fun fuel cs x h => open_cellB h) h0
  match cs, hl with
  | [a, b], _ =>
    simp only [List.getElem?_cons_zero, List.getElem?_cons_succ, Option.some.injEq] at e0 e1
    subst e0 e1
    exact ⟨⟨xs, soft⟩, a, rfl, hxs⟩
set_option maxRecDepth 100000 in
theorem open_linesB {r : Reach} {b0 : Nat} {v : Value} {d : DataW H} {ps : List MemPlace} (hv : Value.okWide Tryz.prog w r b0 30 v) (h : DataW.Trod enc Tryz.prog w base spare held 30 v d ps) : ∃ ls, lnEl.Rd (fun b => b < w.heap.size) w v ls ∧ ∀ x ∈ ls, ∀ c ∈ x.cells, c.Bd := by
  obtain ⟨a, len, cap, rfl⟩ := okWide_slice Tryz.underlying30 hv
  obtain ⟨fuel, h⟩ := h
  obtain ⟨ls, hls⟩ := open_el lnBEl _ Tryz.underlying30 (by kernel_rfl) (fun fuel cs x h => line_wordsB h) h
  exact ⟨ls, lnB_of hls⟩
end
end Go.Proofs.YthcndmchlpohpaaGreatDoor
