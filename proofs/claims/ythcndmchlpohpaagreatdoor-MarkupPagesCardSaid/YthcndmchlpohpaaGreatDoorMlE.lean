/- The chapter's examples (48): what is known of them. scrollbacklaw48.known (48). The library's variables hold what the program's text lays. No condition. -/
import Derived.Test.YthcndmchlpohpaaGreatDoorMkY
import Derived.Deep.Cut
namespace Go.Proofs.YthcndmchlpohpaaGreatDoor
set_option linter.unusedVariables false
set_option linter.unusedSimpArgs false
open Go.RowKit Go.Shelf

def kBold : Cell := ⟨0, 0, 0, 0, 0, 0, 0, 0, 0, 0, 0, 0, 0, 0, 0, 1⟩
def kRed : Cell := ⟨0, 0, 0, 0, 0, 0, 0, 0, 0, 0, 1, 1, 0, 0, 0, 0⟩
def kA : Cell := ⟨97, 0, 0, 0, 1, 0, 0, 0, 0, 0, 0, 0, 0, 0, 0, 1⟩
def kB : Cell := ⟨98, 0, 0, 0, 1, 0, 0, 0, 0, 0, 0, 0, 0, 0, 0, 1⟩
def kHan : Cell := ⟨28450, 0, 0, 0, 2, 0, 0, 0, 0, 0, 1, 1, 0, 0, 0, 0⟩
def kSp : Cell := ⟨0, 0, 0, 0, 0, 0, 0, 0, 0, 0, 1, 1, 0, 0, 0, 0⟩
def kBl : Cell := ⟨0, 0, 0, 0, 1, 0, 0, 0, 0, 0, 1, 1, 0, 0, 0, 0⟩
def kBr : Cell := ⟨91, 0, 0, 0, 1, 0, 0, 0, 0, 0, 0, 0, 0, 0, 0, 0⟩
def kL : List Cell := [kA, kB, blankC, kHan, kSp, kBl, kBr, blankC]
def kR0 : Rn := ⟨0, 2, [97, 98], kBold⟩
def kR1 : Rn := ⟨2, 1, [32], zeroM⟩
def kR2 : Rn := ⟨3, 3, [230, 188, 162, 32], kRed⟩
def kR3 : Rn := ⟨6, 1, [91], zeroM⟩
def kR : List Rn := [kR0, kR1, kR2, kR3]
theorem bd_of {c : Cell} (h : (decide (0 ≤ c.f1 ∧ c.f1 < 256) && decide (0 ≤ c.f2 ∧ c.f2 < 256) && decide (0 ≤ c.f3 ∧ c.f3 < 256) && decide (0 ≤ c.f4 ∧ c.f4 < 256) && decide (0 ≤ c.b1 ∧ c.b1 < 256) && decide (0 ≤ c.b2 ∧ c.b2 < 256) && decide (0 ≤ c.b3 ∧ c.b3 < 256) && decide (0 ≤ c.b4 ∧ c.b4 < 256) && decide (0 ≤ c.flags ∧ c.flags < 256)) = true) : c.Bd := by
  simp only [Bool.and_eq_true, decide_eq_true_eq] at h
  obtain ⟨⟨⟨⟨⟨⟨⟨⟨h1, h2⟩, h3⟩, h4⟩, h5⟩, h6⟩, h7⟩, h8⟩, h9⟩ := h
  exact ⟨h1, h2, h3, h4, h5, h6, h7, h8, h9⟩
theorem kL_bd : ∀ c ∈ kL, c.Bd := by
  intro c hc
  simp only [kL, List.mem_cons, List.not_mem_nil, or_false] at hc
  rcases hc with rfl | rfl | rfl | rfl | rfl | rfl | rfl | rfl <;> exact bd_of (by decide)
theorem kL_ok : lnOk kL = true := by decide +kernel
theorem k1_ok : lnOk [blankC] = true := by decide +kernel
theorem k1_bd : ∀ c ∈ [blankC], c.Bd := by
  intro c hc
  obtain rfl := List.mem_singleton.1 hc
  exact bd_of (by decide)
theorem kL_runs : (runsL kL).map Rn.key = kR.map Rn.key := by decide +kernel
theorem kL_mk : mkL kL false = [91, 98, 93, 97, 98, 91, 93, 95, 91, 45, 49, 93, 230, 188, 162, 95, 91, 93, 92, 91] := by decide +kernel
theorem k1_mk : mkL [blankC] false = [] := by decide +kernel
theorem k1_mks : mkL [blankC] true = [92] := by decide +kernel
theorem kT_bold : tagsL kBold = [98] := by decide +kernel
theorem kT_red : tagsL kRed = [45, 49] := by decide +kernel
theorem kT_zero : tagsL zeroM = [] := by decide +kernel
theorem kRd1 : lineB [91, 98, 93, 97, 98] 3 = ([kA, kB, blankC], false, 0) := by decide +kernel
theorem kRd2 : lineB [97, 98] 9 = ([], false, 6) := by decide +kernel
theorem kRd3 : lineB [91, 93, 97, 98, 99] 2 = ([], false, 3) := by decide +kernel
theorem kRd4 : lineB [91, 122, 93, 97] 9 = ([], false, 6) := by decide +kernel
theorem kRd5 : lineB [91, 93, 97, 92, 98] 9 = ([], false, 6) := by decide +kernel
theorem kRd6 : lineB [] 0 = ([], false, 0) := by decide +kernel
end Go.Proofs.YthcndmchlpohpaaGreatDoor

namespace Go.Proofs.YthcndmchlpohpaaGreatDoor
set_option linter.unusedVariables false
set_option linter.unusedSimpArgs false
open Go.RowKit Go.Shelf
attribute [local go_sem] Oper.semAt_some

theorem wpList_valG {P : Program} {ops : Array Oper} {Q' : Exit → Act → World → Prop} {a : Act} {o : Oper} {rest : List Oper} {w : World} (hg : Region.wanted o (yielded ops a.tmps) = true) {v : Value} {w' : World} (hr : (execOp a.eval o).run P w = .ok (.value v) w') (h : ∀ K : Act → World → Prop, (∀ a w, wpList P ops Q' rest a w → K a w) → K (a.put o.dst v) w') : wpList P ops Q' (o :: rest) a w :=
  wpList_step fun K hK => by rw [if_pos hg]; unfold Oper.wp; rw [hr]; exact h K hK
theorem exec_alloc_cl {ρ : Operand → Value} {o : Oper} {W : World} (ho : o.op = .alloc 42) : (execOp ρ o).run Tryz.prog W = .ok (.value (.pointer (some ⟨W.heap.size, 0, none⟩))) (W.alloc (.cells zeroM.vals.toArray 42)) := by
  unfold execOp
  rw [ho]
  go_simp
  rfl
theorem exec_alloc_pe {ρ : Operand → Value} {o : Oper} {W : World} (ho : o.op = .alloc 40) : (execOp ρ o).run Tryz.prog W = .ok (.value (.pointer (some ⟨W.heap.size, 0, none⟩))) (W.alloc (.cells zeroM.pvals.toArray 40)) := by
  unfold execOp
  rw [ho]
  go_simp
  rfl
theorem exec_buildL {P : Program} {ρ : Operand → Value} {o : Oper} {t : TypeId} {ops : List (Nat × Operand)} {vals : List (Nat × Value)} {v : Value} {W : World} (ho : o.op = .build t ops.toArray) (hx : ops.map (fun p => (p.1, ρ p.2)) = vals)
    (h : (Instr.build t vals.toArray).run P W = .ok v W) : (execOp ρ o).run P W = .ok (.value v) W := by
  unfold execOp
  rw [ho]
  simp only [List.map_toArray, hx, Sem.run_bind, h, Result.andThen_ok]
  rfl
theorem exec_sliceL {P : Program} {ρ : Operand → Value} {o : Oper} {t : TypeId} {n : Nat} {ops : List (Nat × Operand)} {vals : List (Nat × Value)} {v : Value} {W W' : World} (ho : o.op = .buildSlice t n ops.toArray) (hx : ops.map (fun p => (p.1, ρ p.2)) = vals)
    (h : (Instr.buildSlice t n vals.toArray).run P W = .ok v W') : (execOp ρ o).run P W = .ok (.value v) W' := by
  unfold execOp
  rw [ho]
  simp only [List.map_toArray, hx, Sem.run_bind, h, Result.andThen_ok]
  rfl
theorem cq_other {W : World} {p q : Nat} {c : Cell} (h : CqAt W q c) (hne : q ≠ p) (cs : Array Value) : CqAt (W.setRow p cs) q c := by
  unfold CqAt
  rw [setRow_other _ _ _ _ hne]
  exact h
theorem pe_other {W : World} {p q : Nat} {c : Cell} (h : PeAt W q c) (hne : q ≠ p) (cs : Array Value) : PeAt (W.setRow p cs) q c := by
  unfold PeAt
  rw [setRow_other _ _ _ _ hne]
  exact h
set_option maxRecDepth 100000 in
theorem slice_kL (W : World) : (Instr.buildSlice 25 8 #[(0, kA.val), (1, kB.val), (2, blankC.val), (3, kHan.val), (4, kSp.val), (5, kBl.val), (6, kBr.val), (7, blankC.val)]).run Tryz.prog W = .ok (.slice (some ⟨W.heap.size, 0, none⟩) 8 8) (W.alloc (.cells (flat kL).toArray 42)) := by
  unfold Cell.val; go_simp; rfl
set_option maxRecDepth 100000 in
theorem slice_k3 (W : World) : (Instr.buildSlice 25 3 #[(0, kA.val), (1, kB.val), (2, blankC.val)]).run Tryz.prog W = .ok (.slice (some ⟨W.heap.size, 0, none⟩) 3 3) (W.alloc (.cells (flat [kA, kB, blankC]).toArray 42)) := by
  unfold Cell.val; go_simp; rfl
def flatR (rs : List Rn) : List Value := rs.flatMap Rn.vals
set_option maxRecDepth 100000 in
theorem slice_kR (W : World) : (Instr.buildSlice 55 4 #[(0, kR0.val), (1, kR1.val), (2, kR2.val), (3, kR3.val)]).run Tryz.prog W = .ok (.slice (some ⟨W.heap.size, 0, none⟩) 4 4) (W.alloc (.cells (flatR kR).toArray 58)) := by
  unfold Rn.val; go_simp; rfl
theorem own_cells {W : World} {b : Nat} (cs : List Cell) (n : Nat) (hn : n = cs.length) (h : W.heap[b]? = some (.cells (flat cs).toArray 42 (0, 0))) (hm : cs.length ≤ maxLen) : cellEl.Own (fun _ => True) W (.slice (some ⟨b, 0, none⟩) n n) cs := by
  subst hn
  have h1 : OwnCells W 0 (.slice (some ⟨b, 0, none⟩) cs.length cs.length) cs := ⟨flat_length cs, .inr ⟨b, cs.length, _, rfl, Nat.zero_le _, h, Nat.le_refl _, hm, by show (flat cs).toArray.size = _; rw [List.size_toArray, flat_length], by
    show ((flat cs).toArray.toList).take (cs.length * 16) = flat cs
    rw [← flat_length]; simp⟩⟩
  exact h1.el.mono fun _ _ _ => trivial
theorem kL_rd {W W' : World} {b : Nat} (h : W.heap[b]? = some (.cells (flat kL).toArray 42 (0, 0))) (hs : Sees W W') : cellEl.Rd (fun _ => True) W' (.slice (some ⟨b, 0, none⟩) 8 8) kL :=
  ((own_cells kL 8 rfl h (by decide)).sees hs).rd
theorem k3_rd {W : World} {b : Nat} (h : W.heap[b]? = some (.cells (flat [kA, kB, blankC]).toArray 42 (0, 0))) : cellEl.Rd (fun _ => True) W (.slice (some ⟨b, 0, none⟩) 3 3) [kA, kB, blankC] :=
  (own_cells [kA, kB, blankC] 3 rfl h (by decide)).rd
theorem k1_rd {W : World} {b : Nat} (h : W.heap[b]? = some (.cells blankC.vals.toArray 42 (0, 0))) : cellEl.Rd (fun _ => True) W (.slice (some ⟨b, 0, none⟩) 1 1) [blankC] :=
  (own_cells [blankC] 1 rfl (by simpa [flat] using h) (by decide)).rd
theorem kR_rd {W : World} {b : Nat} (h : W.heap[b]? = some (.cells (flatR kR).toArray 58 (0, 0))) : rnEl.Rd (fun _ => True) W (.slice (some ⟨b, 0, none⟩) 4 4) kR := by
  refine ⟨_, _, rfl, Nat.le_refl _, fun _ => ⟨b, 0, rfl, trivial, fun i x hx => ?_⟩⟩
  refine ⟨x.vals, rfl, fun j u hu => ?_⟩
  rw [Nat.zero_add, cell_of_row _ _ _ _ _ _ h]
  have hi : i < 4 := (List.getElem?_eq_some_iff.1 hx).1
  have hj : j < 14 := (List.getElem?_eq_some_iff.1 hu).1
  rcases (show i = 0 ∨ i = 1 ∨ i = 2 ∨ i = 3 by omega) with rfl | rfl | rfl | rfl <;> cases hx <;> (
    rcases (show j = 0 ∨ j = 1 ∨ j = 2 ∨ j = 3 ∨ j = 4 ∨ j = 5 ∨ j = 6 ∨ j = 7 ∨ j = 8 ∨ j = 9 ∨ j = 10 ∨ j = 11 ∨ j = 12 ∨ j = 13 by omega) with rfl | rfl | rfl | rfl | rfl | rfl | rfl | rfl | rfl | rfl | rfl | rfl | rfl | rfl <;> exact hu)
set_option maxHeartbeats 4000000 in
set_option maxRecDepth 100000 in
theorem known48_any (w : World) (hw : Sd w) : Calls Tryz.prog 8 #[] w fun e w' => e = .returned (.bool true) ∧ Sees w w' := by
  have KR : Hid (∀ (W : World) (g : Nat), Sees w W → cellEl.Rd (fun _ => True) W (.slice (some ⟨g, 0, none⟩) 8 8) kL → Calls Tryz.prog 20 #[.agg #[.slice (some ⟨g, 0, none⟩) 8 8, .bool false], .slice (some ⟨W.heap.size, 0, none⟩) 4 4, .int .i64 0] (W.alloc (.cells (flatR kR).toArray 58)) fun e w' => e = .returned (.bool true) ∧ Sees W w') := fun W g hs hr => by
    have hs2 : Sees W (W.alloc (.cells (flatR kR).toArray 58)) := (Sees.refl W).alloc _
    have h := runs48_any _ _ (.slice (some ⟨g, 0, none⟩) 8 8) (.slice (some ⟨W.heap.size, 0, none⟩) 4 4) ⟨kL, false⟩ kR 0 _ (hw.sees (hs.trans hs2)).t (hr.sees hs2) (by decide) (kR_rd (heap_alloc_new W _)) (by decide)
    simp only [kL_ok, if_true, kL_runs] at h
    refine h.mono ?_
    rintro e W' ⟨rfl, s⟩
    exact ⟨by simp, hs2.trans s⟩
  have KT1 : Hid (∀ W, Sees w W → Calls Tryz.prog 16 #[kBold.pen] W fun e w' => e = .returned (.string ⟨#[98]⟩) ∧ Sees W w') := fun W hs => by
    have h := tags_cell kBold (bd_of (by decide)) W (hw.sees hs)
    rw [show kBold.pOk = true by decide, if_pos rfl, kT_bold] at h
    exact h
  have KT2 : Hid (∀ W, Sees w W → Calls Tryz.prog 16 #[kRed.pen] W fun e w' => e = .returned (.string ⟨#[45, 49]⟩) ∧ Sees W w') := fun W hs => by
    have h := tags_cell kRed (bd_of (by decide)) W (hw.sees hs)
    rw [show kRed.pOk = true by decide, if_pos rfl, kT_red] at h
    exact h
  have KT3 : Hid (∀ W, Sees w W → Calls Tryz.prog 16 #[zeroM.pen] W fun e w' => e = .returned (.string ⟨#[]⟩) ∧ Sees W w') := fun W hs => by
    have h := tags_cell zeroM (bd_of (by decide)) W (hw.sees hs)
    rw [show zeroM.pOk = true by decide, if_pos rfl, kT_zero] at h
    exact h
  have KM1 : Hid (∀ (W : World) (g : Nat), Sees w W → cellEl.Rd (fun _ => True) W (.slice (some ⟨g, 0, none⟩) 8 8) kL → Calls Tryz.prog 21 #[.agg #[.slice (some ⟨g, 0, none⟩) 8 8, .bool false], .string ⟨#[91, 98, 93, 97, 98, 91, 93, 95, 91, 45, 49, 93, 230, 188, 162, 95, 91, 93, 92, 91]⟩, .int .i64 0] W fun e w' => e = .returned (.bool true) ∧ Sees W w') := fun W g hs hr => by
    have h := marks_true (.slice (some ⟨g, 0, none⟩) 8 8) kL false _ W (hw.sees hs) hr (by decide) kL_bd
    simp only [kL_ok, if_true, kL_mk] at h
    exact h
  have KM2 : Hid (∀ W, Sees w W → Calls Tryz.prog 21 #[.agg #[.slice (some ⟨W.heap.size, 0, none⟩) 1 1, .bool false], .string ⟨#[]⟩, .int .i64 0] (W.alloc (.cells blankC.vals.toArray 42)) fun e w' => e = .returned (.bool true) ∧ Sees W w') := fun W hs => by
    have hs2 : Sees W (W.alloc (.cells blankC.vals.toArray 42)) := (Sees.refl W).alloc _
    have h := marks_true (.slice (some ⟨W.heap.size, 0, none⟩) 1 1) [blankC] false _ _ (hw.sees (hs.trans hs2)) (k1_rd (heap_alloc_new W _)) (by decide) k1_bd
    simp only [k1_ok, if_true, k1_mk] at h
    exact h.mono fun e W' ⟨he, s⟩ => ⟨he, hs2.trans s⟩
  have KM3 : Hid (∀ W, Sees w W → Calls Tryz.prog 21 #[.agg #[.slice (some ⟨W.heap.size, 0, none⟩) 1 1, .bool true], .string ⟨#[92]⟩, .int .i64 0] (W.alloc (.cells blankC.vals.toArray 42)) fun e w' => e = .returned (.bool true) ∧ Sees W w') := fun W hs => by
    have hs2 : Sees W (W.alloc (.cells blankC.vals.toArray 42)) := (Sees.refl W).alloc _
    have h := marks_true (.slice (some ⟨W.heap.size, 0, none⟩) 1 1) [blankC] true _ _ (hw.sees (hs.trans hs2)) (k1_rd (heap_alloc_new W _)) (by decide) k1_bd
    simp only [k1_ok, if_true, k1_mks] at h
    exact h.mono fun e W' ⟨he, s⟩ => ⟨he, hs2.trans s⟩
  have KD1 : Hid (∀ W, Sees w W → Calls Tryz.prog 9 #[.string ⟨#[91, 98, 93, 97, 98]⟩, .int .i64 3, .agg #[.slice (some ⟨W.heap.size, 0, none⟩) 3 3, .bool false], .int .i64 0] (W.alloc (.cells (flat [kA, kB, blankC]).toArray 42)) fun e w' => e = .returned (.bool true) ∧ Sees W w') := fun W hs => by
    have hs2 : Sees W (W.alloc (.cells (flat [kA, kB, blankC]).toArray 42)) := (Sees.refl W).alloc _
    have h := reads_any [91, 98, 93, 97, 98] 3 (by decide) (.slice (some ⟨W.heap.size, 0, none⟩) 3 3) ⟨[kA, kB, blankC], false⟩ _ 0 _ (hw.sees (hs.trans hs2)) (k3_rd (heap_alloc_new W _))
    rw [kRd1] at h
    exact h.mono fun e W' ⟨he, s⟩ => ⟨he.trans (by simp), hs2.trans s⟩
  have KD2 : Hid (∀ W, Sees w W → Calls Tryz.prog 9 #[.string ⟨#[97, 98]⟩, .int .i64 9, .agg #[.slice none 0 0, .bool false], .int .i64 6] W fun e w' => e = .returned (.bool true) ∧ Sees W w') := fun W hs => by
    have h := reads_any [97, 98] 9 (by decide) (.slice none 0 0) ⟨[], false⟩ (fun _ => True) 6 W (hw.sees hs) (El.Rd.nil _ _)
    rw [kRd2] at h
    exact h.mono fun e W' ⟨he, s⟩ => ⟨he.trans (by simp), s⟩
  have KD3 : Hid (∀ W, Sees w W → Calls Tryz.prog 9 #[.string ⟨#[91, 93, 97, 98, 99]⟩, .int .i64 2, .agg #[.slice none 0 0, .bool false], .int .i64 3] W fun e w' => e = .returned (.bool true) ∧ Sees W w') := fun W hs => by
    have h := reads_any [91, 93, 97, 98, 99] 2 (by decide) (.slice none 0 0) ⟨[], false⟩ (fun _ => True) 3 W (hw.sees hs) (El.Rd.nil _ _)
    rw [kRd3] at h
    exact h.mono fun e W' ⟨he, s⟩ => ⟨he.trans (by simp), s⟩
  have KD4 : Hid (∀ W, Sees w W → Calls Tryz.prog 9 #[.string ⟨#[91, 122, 93, 97]⟩, .int .i64 9, .agg #[.slice none 0 0, .bool false], .int .i64 6] W fun e w' => e = .returned (.bool true) ∧ Sees W w') := fun W hs => by
    have h := reads_any [91, 122, 93, 97] 9 (by decide) (.slice none 0 0) ⟨[], false⟩ (fun _ => True) 6 W (hw.sees hs) (El.Rd.nil _ _)
    rw [kRd4] at h
    exact h.mono fun e W' ⟨he, s⟩ => ⟨he.trans (by simp), s⟩
  have KD5 : Hid (∀ W, Sees w W → Calls Tryz.prog 9 #[.string ⟨#[91, 93, 97, 92, 98]⟩, .int .i64 9, .agg #[.slice none 0 0, .bool false], .int .i64 6] W fun e w' => e = .returned (.bool true) ∧ Sees W w') := fun W hs => by
    have h := reads_any [91, 93, 97, 92, 98] 9 (by decide) (.slice none 0 0) ⟨[], false⟩ (fun _ => True) 6 W (hw.sees hs) (El.Rd.nil _ _)
    rw [kRd5] at h
    exact h.mono fun e W' ⟨he, s⟩ => ⟨he.trans (by simp), s⟩
  have KD6 : Hid (∀ W, Sees w W → Calls Tryz.prog 9 #[.string ⟨#[]⟩, .int .i64 0, .agg #[.slice none 0 0, .bool false], .int .i64 0] W fun e w' => e = .returned (.bool true) ∧ Sees W w') := fun W hs => by
    have h := reads_any [] 0 (by decide) (.slice none 0 0) ⟨[], false⟩ (fun _ => True) 0 W (hw.sees hs) (El.Rd.nil _ _)
    rw [kRd6] at h
    exact h.mono fun e W' ⟨he, s⟩ => ⟨he.trans (by simp), s⟩
  obtain ⟨X1, hX1⟩ : ∃ X1, X1 = w.alloc (.cells zeroM.pvals.toArray 40) := ⟨_, rfl⟩
  obtain ⟨X2, hX2⟩ : ∃ X2, X2 = X1.alloc (.cells zeroM.pvals.toArray 40) := ⟨_, rfl⟩
  have e1 : X1.heap.size = w.heap.size + 1 := by rw [hX1]; exact World.size_alloc _ _
  have Z1 : PeAt X2 w.heap.size zeroM := PeAt.sees (W := X1) (by rw [hX1]; exact heap_alloc_new _ _) (by rw [hX2]; exact (Sees.refl _).alloc _)
  have Z2 : PeAt X2 (w.heap.size + 1) zeroM := by rw [hX2, ← e1]; exact heap_alloc_new _ _
  have Z3 : PeAt (X2.setRow w.heap.size kBold.pvals.toArray) (w.heap.size + 1) zeroM := pe_other Z2 (by omega) _
  have P1 : Hid (PeAt ((X2.setRow w.heap.size kBold.pvals.toArray).setRow (w.heap.size + 1) kRed.pvals.toArray) w.heap.size kBold) := pe_other (setRow_heap _ _ _ _ _ _ Z1 : PeAt _ _ _) (by omega) _
  have Q1 : Hid (PeAt ((X2.setRow w.heap.size kBold.pvals.toArray).setRow (w.heap.size + 1) kRed.pvals.toArray) (w.heap.size + 1) kRed) := setRow_heap _ _ _ _ _ _ Z3
  have S1 : Hid (Sees w ((X2.setRow w.heap.size kBold.pvals.toArray).setRow (w.heap.size + 1) kRed.pvals.toArray)) := by
    have s : Sees w X2 := by rw [hX2, hX1]; exact ((Sees.refl w).alloc _).alloc _
    exact ((Keeps.setRow' (F := fun _ => False) (Keeps.setRow' (F := fun _ => False) (Keeps.of_sees s) (Nat.le_refl _) _) (Nat.le_succ _) _)).sees_end (fun _ _ h => h)
  have HX1 := Lib.hid hX1
  have HX2 := Lib.hid hX2
  have HE1 := Lib.hid e1
  clear hw hX1 hX2 e1
  go_enter Tryz.func8, Tryz.ntmps8
  go_upto_region 2 with (first
    | (guard_target = wpList _ _ _ ({ dst := some 7, op := _, type := _, pos := _, after := _, guard := _ } :: _) _ _; refine wpList_val rfl (exec_buildL (vals := [(2, .int .u8 1)]) (v := kBold.pen) rfl rfl (by kernel_rfl)) (fun K hK => ?_); go_simp; refine hK _ _ ?_; clear hK K)
    | (guard_target = wpList _ _ _ ({ dst := some 9, op := _, type := _, pos := _, after := _, guard := _ } :: _) _ _; refine wpList_val rfl (exec_buildL (vals := [(1, .agg #[.int .i64 1, .int .u8 1, .int .u8 0, .int .u8 0, .int .u8 0])]) (v := kRed.pen) rfl rfl (by kernel_rfl)) (fun K hK => ?_); go_simp; refine hK _ _ ?_; clear hK K)
    | (guard_target = wpList _ _ _ ({ dst := some 1, op := _, type := _, pos := _, after := _, guard := _ } :: _) _ _; refine wpList_val rfl (exec_alloc_pe rfl) (fun K hK => ?_); go_simp; refine hK _ _ ?_; rw [← HX1.out]; clear hK K)
    | (guard_target = wpList _ _ _ ({ dst := some 2, op := _, type := _, pos := _, after := _, guard := _ } :: _) _ _; refine wpList_val rfl (exec_alloc_pe rfl) (fun K hK => ?_); go_simp; refine hK _ _ ?_; rw [← HX2.out, HE1.out]; clear hK K)
    | (refine wpList_skip rfl (exec_store (v := kBold.pen) rfl rfl rfl (run_storePe Z1 kBold)) (fun K hK => ?_); go_simp; refine hK _ _ ?_; clear hK K)
    | (refine wpList_skip rfl (exec_store (v := kRed.pen) rfl rfl rfl (run_storePe Z3 kRed)) (fun K hK => ?_); go_simp; refine hK _ _ ?_; clear hK K))
  refine wp_world fun W1 hW1 => ?_
  rw [← hW1] at P1 Q1 S1
  clear hW1 Z1 Z2 Z3 HX1 HX2 HE1 X1 X2
  go_cut [3, 4, 5] from 10 to 14 (fun v3 v4 v5 wx => ∃ p3 p4 p5 : Nat, v3 = .pointer (some ⟨p3, 0, none⟩) ∧ v4 = .pointer (some ⟨p4, 0, none⟩) ∧ v5 = .pointer (some ⟨p5, 0, none⟩) ∧ CqAt wx p3 kA ∧ CqAt wx p4 kB ∧ CqAt wx p5 blankC ∧ Sees W1 wx)
  case first =>
    (try go_wp2_with fail)
    refine wpH_go (fun _ => False) 11 (by kernel_rfl) (by kernel_rfl) (by rfl) (fun hB w4 hw4 => ?_)
    have hS0 : Keeps (fun _ => False) w4 w4 := Keeps.refl _ w4
    refine wpH_take (i := 0) (v := kBold.pen) hB (by rfl) (by kernel_rfl) (fun _ _ _ _ _ h => h) (by rfl) hS0 (fun W hI => exec_load rfl (by go_simp) (run_loadPe (P1.out.sees (hw4.trans (hI.sees_end (fun _ _ h => h)))))) ?_; (try simp only [Act.put, List.setIfInBounds_toArray, List.set_cons_zero, List.set_cons_succ])
    refine wpH_take (i := 1) (v := kA.val) hB (by rfl) (by kernel_rfl) (fun _ _ _ _ _ h => h) (by rfl) hS0 (fun W hI => exec_buildL (vals := [(0, .int .i32 97), (2, .int .i64 1), (3, kBold.pen)]) (v := kA.val) rfl rfl (by kernel_rfl)) ?_; (try simp only [Act.put, List.setIfInBounds_toArray, List.set_cons_zero, List.set_cons_succ])
    refine wpH_take (i := 2) (v := kBold.pen) hB (by rfl) (by kernel_rfl) (fun _ _ _ _ _ h => h) (by rfl) hS0 (fun W hI => exec_load rfl (by go_simp) (run_loadPe (P1.out.sees (hw4.trans (hI.sees_end (fun _ _ h => h)))))) ?_; (try simp only [Act.put, List.setIfInBounds_toArray, List.set_cons_zero, List.set_cons_succ])
    refine wpH_take (i := 3) (v := kB.val) hB (by rfl) (by kernel_rfl) (fun _ _ _ _ _ h => h) (by rfl) hS0 (fun W hI => exec_buildL (vals := [(0, .int .i32 98), (2, .int .i64 1), (3, kBold.pen)]) (v := kB.val) rfl rfl (by kernel_rfl)) ?_; (try simp only [Act.put, List.setIfInBounds_toArray, List.set_cons_zero, List.set_cons_succ])
    refine wpH_take (i := 4) (v := blankC.val) hB (by rfl) (by kernel_rfl) (fun _ _ _ _ _ h => h) (by rfl) hS0 (fun W hI => exec_buildL (vals := [(2, .int .i64 1)]) (v := blankC.val) rfl rfl (by kernel_rfl)) ?_; (try simp only [Act.put, List.setIfInBounds_toArray, List.set_cons_zero, List.set_cons_succ])
    refine wpH_three (i := 5) (j := 6) (k := 7) (by kernel_rfl) ?_ ?_ ?_
    · obtain ⟨p3, hp3⟩ : ∃ b, b = w4.heap.size := ⟨_, rfl⟩
      obtain ⟨x1, hnew⟩ : ∃ x, x = w4.alloc (.cells zeroM.vals.toArray 42) := ⟨_, rfl⟩
      have hal : Sees w4 x1 := by rw [hnew]; exact (Sees.refl w4).alloc _
      have T3 : RowKit.Hid (CqAt x1 p3 zeroM) := by show CqAt _ _ _; rw [hnew, hp3]; exact heap_alloc_new _ _
      have G3 : RowKit.Hid (w4.heap.size ≤ p3 ∧ p3 < x1.heap.size) := ⟨by have := hS0.size; omega, T3.out.lt⟩
      have hS0 : Keeps (fun _ => False) w4 x1 := hS0.trans (Keeps.of_sees hal)
      refine wpOp_val (v := .pointer (some ⟨p3, 0, none⟩)) (w' := x1) (by rfl) (wanted_none (by rfl) _) (by rw [hp3, hnew]; exact exec_alloc_cl rfl) ⟨hS0, ?_⟩
      (try simp only [Act.put, List.setIfInBounds_toArray, List.set_cons_zero, List.set_cons_succ])
      clear hnew hp3 hal
      refine wpH_two (i := 6) (j := 7) (by kernel_rfl) ?_ ?_
      · obtain ⟨p4, hp4⟩ : ∃ b, b = x1.heap.size := ⟨_, rfl⟩
        obtain ⟨x2, hnew⟩ : ∃ x, x = x1.alloc (.cells zeroM.vals.toArray 42) := ⟨_, rfl⟩
        have hal : Sees x1 x2 := by rw [hnew]; exact (Sees.refl x1).alloc _
        have T4 : RowKit.Hid (CqAt x2 p4 zeroM) := by show CqAt _ _ _; rw [hnew, hp4]; exact heap_alloc_new _ _
        have G4 : RowKit.Hid (w4.heap.size ≤ p4 ∧ p4 < x2.heap.size) := ⟨by have := hS0.size; omega, T4.out.lt⟩
        have NE34 : RowKit.Hid (p3 ≠ p4) := by have := G3.out; show _ ≠ _; omega
        have T3 := Lib.hid (T3.out.sees hal)
        have G3 : RowKit.Hid (w4.heap.size ≤ p3 ∧ p3 < x2.heap.size) := ⟨G3.out.1, by have := G3.out.2; have := hal.size; omega⟩
        have hS0 : Keeps (fun _ => False) w4 x2 := hS0.trans (Keeps.of_sees hal)
        refine wpOp_val (v := .pointer (some ⟨p4, 0, none⟩)) (w' := x2) (by rfl) (wanted_none (by rfl) _) (by rw [hp4, hnew]; exact exec_alloc_cl rfl) ⟨hS0, ?_⟩
        (try simp only [Act.put, List.setIfInBounds_toArray, List.set_cons_zero, List.set_cons_succ])
        clear hnew hp4 hal
        obtain ⟨p5, hp5⟩ : ∃ b, b = x2.heap.size := ⟨_, rfl⟩
        obtain ⟨x3, hnew⟩ : ∃ x, x = x2.alloc (.cells zeroM.vals.toArray 42) := ⟨_, rfl⟩
        have hal : Sees x2 x3 := by rw [hnew]; exact (Sees.refl x2).alloc _
        have T5 : RowKit.Hid (CqAt x3 p5 zeroM) := by show CqAt _ _ _; rw [hnew, hp5]; exact heap_alloc_new _ _
        have G5 : RowKit.Hid (w4.heap.size ≤ p5 ∧ p5 < x3.heap.size) := ⟨by have := hS0.size; omega, T5.out.lt⟩
        have NE35 : RowKit.Hid (p3 ≠ p5) := by have := G3.out; show _ ≠ _; omega
        have T3 := Lib.hid (T3.out.sees hal)
        have G3 : RowKit.Hid (w4.heap.size ≤ p3 ∧ p3 < x3.heap.size) := ⟨G3.out.1, by have := G3.out.2; have := hal.size; omega⟩
        have NE45 : RowKit.Hid (p4 ≠ p5) := by have := G4.out; show _ ≠ _; omega
        have T4 := Lib.hid (T4.out.sees hal)
        have G4 : RowKit.Hid (w4.heap.size ≤ p4 ∧ p4 < x3.heap.size) := ⟨G4.out.1, by have := G4.out.2; have := hal.size; omega⟩
        have hS0 : Keeps (fun _ => False) w4 x3 := hS0.trans (Keeps.of_sees hal)
        refine wpH_one (i := 7) (by kernel_rfl) (wpOp_val (v := .pointer (some ⟨p5, 0, none⟩)) (w' := x3) (by rfl) (wanted_none (by rfl) _) (by rw [hp5, hnew]; exact exec_alloc_cl rfl) ⟨hS0, ?_⟩)
        (try simp only [Act.put, List.setIfInBounds_toArray, List.set_cons_zero, List.set_cons_succ])
        clear hnew hp5 hal
        obtain ⟨x4, hnew⟩ : ∃ x, x = x3.setRow p3 kA.vals.toArray := ⟨_, rfl⟩
        have hst : (Instr.storeAt 42 (.pointer (some ⟨p3, 0, none⟩)) kA.val).run Tryz.prog x3 = .ok () x4 := by rw [hnew]; exact run_storeCl T3.out kA
        have hS0 : Keeps (fun _ => False) w4 x4 := by rw [hnew]; exact hS0.setRow' (by have := G3.out; omega) _
        have hsz : x4.heap.size = x3.heap.size := by rw [hnew]; simp [World.setRow]
        have T3n : RowKit.Hid (CqAt x4 p3 kA) := by show CqAt _ _ _; rw [hnew]; exact T3.out.set kA
        have G3n : RowKit.Hid (w4.heap.size ≤ p3 ∧ p3 < x4.heap.size) := ⟨G3.out.1, by have := G3.out.2; omega⟩
        have T4n : RowKit.Hid (CqAt x4 p4 zeroM) := by show CqAt _ _ _; rw [hnew]; exact cq_other T4.out (by have := NE34.out; omega) _
        have G4n : RowKit.Hid (w4.heap.size ≤ p4 ∧ p4 < x4.heap.size) := ⟨G4.out.1, by have := G4.out.2; omega⟩
        have T5n : RowKit.Hid (CqAt x4 p5 zeroM) := by show CqAt _ _ _; rw [hnew]; exact cq_other T5.out (by have := NE35.out; omega) _
        have G5n : RowKit.Hid (w4.heap.size ≤ p5 ∧ p5 < x4.heap.size) := ⟨G5.out.1, by have := G5.out.2; omega⟩
        clear T3 T4 T5 G3 G4 G5
        have T3 := T3n
        have G3 := G3n
        have T4 := T4n
        have G4 := G4n
        have T5 := T5n
        have G5 := G5n
        clear T3n T4n T5n G3n G4n G5n
        refine wpH_one (i := 8) (by kernel_rfl) (wpOp_skip (w' := x4) (by rfl) (wanted_none (by rfl) _) (exec_store (a := .pointer (some ⟨p3, 0, none⟩)) (v := kA.val) rfl (by go_simp) (by go_simp) hst) ⟨hS0, ?_⟩)
        (try simp only [Act.put, List.setIfInBounds_toArray, List.set_cons_zero, List.set_cons_succ])
        clear hnew hst hsz
        obtain ⟨x5, hnew⟩ : ∃ x, x = x4.setRow p4 kB.vals.toArray := ⟨_, rfl⟩
        have hst : (Instr.storeAt 42 (.pointer (some ⟨p4, 0, none⟩)) kB.val).run Tryz.prog x4 = .ok () x5 := by rw [hnew]; exact run_storeCl T4.out kB
        have hS0 : Keeps (fun _ => False) w4 x5 := by rw [hnew]; exact hS0.setRow' (by have := G4.out; omega) _
        have hsz : x5.heap.size = x4.heap.size := by rw [hnew]; simp [World.setRow]
        have T3n : RowKit.Hid (CqAt x5 p3 kA) := by show CqAt _ _ _; rw [hnew]; exact cq_other T3.out (by have := NE34.out; omega) _
        have G3n : RowKit.Hid (w4.heap.size ≤ p3 ∧ p3 < x5.heap.size) := ⟨G3.out.1, by have := G3.out.2; omega⟩
        have T4n : RowKit.Hid (CqAt x5 p4 kB) := by show CqAt _ _ _; rw [hnew]; exact T4.out.set kB
        have G4n : RowKit.Hid (w4.heap.size ≤ p4 ∧ p4 < x5.heap.size) := ⟨G4.out.1, by have := G4.out.2; omega⟩
        have T5n : RowKit.Hid (CqAt x5 p5 zeroM) := by show CqAt _ _ _; rw [hnew]; exact cq_other T5.out (by have := NE45.out; omega) _
        have G5n : RowKit.Hid (w4.heap.size ≤ p5 ∧ p5 < x5.heap.size) := ⟨G5.out.1, by have := G5.out.2; omega⟩
        clear T3 T4 T5 G3 G4 G5
        have T3 := T3n
        have G3 := G3n
        have T4 := T4n
        have G4 := G4n
        have T5 := T5n
        have G5 := G5n
        clear T3n T4n T5n G3n G4n G5n
        refine wpH_one (i := 9) (by kernel_rfl) (wpOp_skip (w' := x5) (by rfl) (wanted_none (by rfl) _) (exec_store (a := .pointer (some ⟨p4, 0, none⟩)) (v := kB.val) rfl (by go_simp) (by go_simp) hst) ⟨hS0, ?_⟩)
        (try simp only [Act.put, List.setIfInBounds_toArray, List.set_cons_zero, List.set_cons_succ])
        clear hnew hst hsz
        obtain ⟨x6, hnew⟩ : ∃ x, x = x5.setRow p5 blankC.vals.toArray := ⟨_, rfl⟩
        have hst : (Instr.storeAt 42 (.pointer (some ⟨p5, 0, none⟩)) blankC.val).run Tryz.prog x5 = .ok () x6 := by rw [hnew]; exact run_storeCl T5.out blankC
        have hS0 : Keeps (fun _ => False) w4 x6 := by rw [hnew]; exact hS0.setRow' (by have := G5.out; omega) _
        have hsz : x6.heap.size = x5.heap.size := by rw [hnew]; simp [World.setRow]
        have T3n : RowKit.Hid (CqAt x6 p3 kA) := by show CqAt _ _ _; rw [hnew]; exact cq_other T3.out (by have := NE35.out; omega) _
        have G3n : RowKit.Hid (w4.heap.size ≤ p3 ∧ p3 < x6.heap.size) := ⟨G3.out.1, by have := G3.out.2; omega⟩
        have T4n : RowKit.Hid (CqAt x6 p4 kB) := by show CqAt _ _ _; rw [hnew]; exact cq_other T4.out (by have := NE45.out; omega) _
        have G4n : RowKit.Hid (w4.heap.size ≤ p4 ∧ p4 < x6.heap.size) := ⟨G4.out.1, by have := G4.out.2; omega⟩
        have T5n : RowKit.Hid (CqAt x6 p5 blankC) := by show CqAt _ _ _; rw [hnew]; exact T5.out.set blankC
        have G5n : RowKit.Hid (w4.heap.size ≤ p5 ∧ p5 < x6.heap.size) := ⟨G5.out.1, by have := G5.out.2; omega⟩
        clear T3 T4 T5 G3 G4 G5
        have T3 := T3n
        have G3 := G3n
        have T4 := T4n
        have G4 := G4n
        have T5 := T5n
        have G5 := G5n
        clear T3n T4n T5n G3n G4n G5n
        refine wpH_one (i := 10) (by kernel_rfl) (wpOp_skip (w' := x6) (by rfl) (wanted_none (by rfl) _) (exec_store (a := .pointer (some ⟨p5, 0, none⟩)) (v := blankC.val) rfl (by go_simp) (by go_simp) hst) ⟨hS0, ?_⟩)
        (try simp only [Act.put, List.setIfInBounds_toArray, List.set_cons_zero, List.set_cons_succ])
        clear hnew hst hsz
        refine wpH_end (by kernel_rfl) ?_
        go_wp2_with fail
        go_meet
        exact ⟨p3, p4, p5, rfl, rfl, rfl, T3.out, T4.out, T5.out, hw4.trans (hS0.sees_end (fun _ _ h => h))⟩
      · obtain ⟨p5, hp5⟩ : ∃ b, b = x1.heap.size := ⟨_, rfl⟩
        obtain ⟨x7, hnew⟩ : ∃ x, x = x1.alloc (.cells zeroM.vals.toArray 42) := ⟨_, rfl⟩
        have hal : Sees x1 x7 := by rw [hnew]; exact (Sees.refl x1).alloc _
        have T5 : RowKit.Hid (CqAt x7 p5 zeroM) := by show CqAt _ _ _; rw [hnew, hp5]; exact heap_alloc_new _ _
        have G5 : RowKit.Hid (w4.heap.size ≤ p5 ∧ p5 < x7.heap.size) := ⟨by have := hS0.size; omega, T5.out.lt⟩
        have NE35 : RowKit.Hid (p3 ≠ p5) := by have := G3.out; show _ ≠ _; omega
        have T3 := Lib.hid (T3.out.sees hal)
        have G3 : RowKit.Hid (w4.heap.size ≤ p3 ∧ p3 < x7.heap.size) := ⟨G3.out.1, by have := G3.out.2; have := hal.size; omega⟩
        have hS0 : Keeps (fun _ => False) w4 x7 := hS0.trans (Keeps.of_sees hal)
        refine wpOp_val (v := .pointer (some ⟨p5, 0, none⟩)) (w' := x7) (by rfl) (wanted_none (by rfl) _) (by rw [hp5, hnew]; exact exec_alloc_cl rfl) ⟨hS0, ?_⟩
        (try simp only [Act.put, List.setIfInBounds_toArray, List.set_cons_zero, List.set_cons_succ])
        clear hnew hp5 hal
        obtain ⟨p4, hp4⟩ : ∃ b, b = x7.heap.size := ⟨_, rfl⟩
        obtain ⟨x8, hnew⟩ : ∃ x, x = x7.alloc (.cells zeroM.vals.toArray 42) := ⟨_, rfl⟩
        have hal : Sees x7 x8 := by rw [hnew]; exact (Sees.refl x7).alloc _
        have T4 : RowKit.Hid (CqAt x8 p4 zeroM) := by show CqAt _ _ _; rw [hnew, hp4]; exact heap_alloc_new _ _
        have G4 : RowKit.Hid (w4.heap.size ≤ p4 ∧ p4 < x8.heap.size) := ⟨by have := hS0.size; omega, T4.out.lt⟩
        have NE34 : RowKit.Hid (p3 ≠ p4) := by have := G3.out; show _ ≠ _; omega
        have T3 := Lib.hid (T3.out.sees hal)
        have G3 : RowKit.Hid (w4.heap.size ≤ p3 ∧ p3 < x8.heap.size) := ⟨G3.out.1, by have := G3.out.2; have := hal.size; omega⟩
        have NE45 : RowKit.Hid (p4 ≠ p5) := by have := G5.out; show _ ≠ _; omega
        have T5 := Lib.hid (T5.out.sees hal)
        have G5 : RowKit.Hid (w4.heap.size ≤ p5 ∧ p5 < x8.heap.size) := ⟨G5.out.1, by have := G5.out.2; have := hal.size; omega⟩
        have hS0 : Keeps (fun _ => False) w4 x8 := hS0.trans (Keeps.of_sees hal)
        refine wpH_one (i := 6) (by kernel_rfl) (wpOp_val (v := .pointer (some ⟨p4, 0, none⟩)) (w' := x8) (by rfl) (wanted_none (by rfl) _) (by rw [hp4, hnew]; exact exec_alloc_cl rfl) ⟨hS0, ?_⟩)
        (try simp only [Act.put, List.setIfInBounds_toArray, List.set_cons_zero, List.set_cons_succ])
        clear hnew hp4 hal
        obtain ⟨x9, hnew⟩ : ∃ x, x = x8.setRow p3 kA.vals.toArray := ⟨_, rfl⟩
        have hst : (Instr.storeAt 42 (.pointer (some ⟨p3, 0, none⟩)) kA.val).run Tryz.prog x8 = .ok () x9 := by rw [hnew]; exact run_storeCl T3.out kA
        have hS0 : Keeps (fun _ => False) w4 x9 := by rw [hnew]; exact hS0.setRow' (by have := G3.out; omega) _
        have hsz : x9.heap.size = x8.heap.size := by rw [hnew]; simp [World.setRow]
        have T3n : RowKit.Hid (CqAt x9 p3 kA) := by show CqAt _ _ _; rw [hnew]; exact T3.out.set kA
        have G3n : RowKit.Hid (w4.heap.size ≤ p3 ∧ p3 < x9.heap.size) := ⟨G3.out.1, by have := G3.out.2; omega⟩
        have T4n : RowKit.Hid (CqAt x9 p4 zeroM) := by show CqAt _ _ _; rw [hnew]; exact cq_other T4.out (by have := NE34.out; omega) _
        have G4n : RowKit.Hid (w4.heap.size ≤ p4 ∧ p4 < x9.heap.size) := ⟨G4.out.1, by have := G4.out.2; omega⟩
        have T5n : RowKit.Hid (CqAt x9 p5 zeroM) := by show CqAt _ _ _; rw [hnew]; exact cq_other T5.out (by have := NE35.out; omega) _
        have G5n : RowKit.Hid (w4.heap.size ≤ p5 ∧ p5 < x9.heap.size) := ⟨G5.out.1, by have := G5.out.2; omega⟩
        clear T3 T4 T5 G3 G4 G5
        have T3 := T3n
        have G3 := G3n
        have T4 := T4n
        have G4 := G4n
        have T5 := T5n
        have G5 := G5n
        clear T3n T4n T5n G3n G4n G5n
        refine wpH_one (i := 8) (by kernel_rfl) (wpOp_skip (w' := x9) (by rfl) (wanted_none (by rfl) _) (exec_store (a := .pointer (some ⟨p3, 0, none⟩)) (v := kA.val) rfl (by go_simp) (by go_simp) hst) ⟨hS0, ?_⟩)
        (try simp only [Act.put, List.setIfInBounds_toArray, List.set_cons_zero, List.set_cons_succ])
        clear hnew hst hsz
        obtain ⟨x10, hnew⟩ : ∃ x, x = x9.setRow p4 kB.vals.toArray := ⟨_, rfl⟩
        have hst : (Instr.storeAt 42 (.pointer (some ⟨p4, 0, none⟩)) kB.val).run Tryz.prog x9 = .ok () x10 := by rw [hnew]; exact run_storeCl T4.out kB
        have hS0 : Keeps (fun _ => False) w4 x10 := by rw [hnew]; exact hS0.setRow' (by have := G4.out; omega) _
        have hsz : x10.heap.size = x9.heap.size := by rw [hnew]; simp [World.setRow]
        have T3n : RowKit.Hid (CqAt x10 p3 kA) := by show CqAt _ _ _; rw [hnew]; exact cq_other T3.out (by have := NE34.out; omega) _
        have G3n : RowKit.Hid (w4.heap.size ≤ p3 ∧ p3 < x10.heap.size) := ⟨G3.out.1, by have := G3.out.2; omega⟩
        have T4n : RowKit.Hid (CqAt x10 p4 kB) := by show CqAt _ _ _; rw [hnew]; exact T4.out.set kB
        have G4n : RowKit.Hid (w4.heap.size ≤ p4 ∧ p4 < x10.heap.size) := ⟨G4.out.1, by have := G4.out.2; omega⟩
        have T5n : RowKit.Hid (CqAt x10 p5 zeroM) := by show CqAt _ _ _; rw [hnew]; exact cq_other T5.out (by have := NE45.out; omega) _
        have G5n : RowKit.Hid (w4.heap.size ≤ p5 ∧ p5 < x10.heap.size) := ⟨G5.out.1, by have := G5.out.2; omega⟩
        clear T3 T4 T5 G3 G4 G5
        have T3 := T3n
        have G3 := G3n
        have T4 := T4n
        have G4 := G4n
        have T5 := T5n
        have G5 := G5n
        clear T3n T4n T5n G3n G4n G5n
        refine wpH_one (i := 9) (by kernel_rfl) (wpOp_skip (w' := x10) (by rfl) (wanted_none (by rfl) _) (exec_store (a := .pointer (some ⟨p4, 0, none⟩)) (v := kB.val) rfl (by go_simp) (by go_simp) hst) ⟨hS0, ?_⟩)
        (try simp only [Act.put, List.setIfInBounds_toArray, List.set_cons_zero, List.set_cons_succ])
        clear hnew hst hsz
        obtain ⟨x11, hnew⟩ : ∃ x, x = x10.setRow p5 blankC.vals.toArray := ⟨_, rfl⟩
        have hst : (Instr.storeAt 42 (.pointer (some ⟨p5, 0, none⟩)) blankC.val).run Tryz.prog x10 = .ok () x11 := by rw [hnew]; exact run_storeCl T5.out blankC
        have hS0 : Keeps (fun _ => False) w4 x11 := by rw [hnew]; exact hS0.setRow' (by have := G5.out; omega) _
        have hsz : x11.heap.size = x10.heap.size := by rw [hnew]; simp [World.setRow]
        have T3n : RowKit.Hid (CqAt x11 p3 kA) := by show CqAt _ _ _; rw [hnew]; exact cq_other T3.out (by have := NE35.out; omega) _
        have G3n : RowKit.Hid (w4.heap.size ≤ p3 ∧ p3 < x11.heap.size) := ⟨G3.out.1, by have := G3.out.2; omega⟩
        have T4n : RowKit.Hid (CqAt x11 p4 kB) := by show CqAt _ _ _; rw [hnew]; exact cq_other T4.out (by have := NE45.out; omega) _
        have G4n : RowKit.Hid (w4.heap.size ≤ p4 ∧ p4 < x11.heap.size) := ⟨G4.out.1, by have := G4.out.2; omega⟩
        have T5n : RowKit.Hid (CqAt x11 p5 blankC) := by show CqAt _ _ _; rw [hnew]; exact T5.out.set blankC
        have G5n : RowKit.Hid (w4.heap.size ≤ p5 ∧ p5 < x11.heap.size) := ⟨G5.out.1, by have := G5.out.2; omega⟩
        clear T3 T4 T5 G3 G4 G5
        have T3 := T3n
        have G3 := G3n
        have T4 := T4n
        have G4 := G4n
        have T5 := T5n
        have G5 := G5n
        clear T3n T4n T5n G3n G4n G5n
        refine wpH_one (i := 10) (by kernel_rfl) (wpOp_skip (w' := x11) (by rfl) (wanted_none (by rfl) _) (exec_store (a := .pointer (some ⟨p5, 0, none⟩)) (v := blankC.val) rfl (by go_simp) (by go_simp) hst) ⟨hS0, ?_⟩)
        (try simp only [Act.put, List.setIfInBounds_toArray, List.set_cons_zero, List.set_cons_succ])
        clear hnew hst hsz
        refine wpH_end (by kernel_rfl) ?_
        go_wp2_with fail
        go_meet
        exact ⟨p3, p4, p5, rfl, rfl, rfl, T3.out, T4.out, T5.out, hw4.trans (hS0.sees_end (fun _ _ h => h))⟩
    · obtain ⟨p4, hp4⟩ : ∃ b, b = w4.heap.size := ⟨_, rfl⟩
      obtain ⟨x12, hnew⟩ : ∃ x, x = w4.alloc (.cells zeroM.vals.toArray 42) := ⟨_, rfl⟩
      have hal : Sees w4 x12 := by rw [hnew]; exact (Sees.refl w4).alloc _
      have T4 : RowKit.Hid (CqAt x12 p4 zeroM) := by show CqAt _ _ _; rw [hnew, hp4]; exact heap_alloc_new _ _
      have G4 : RowKit.Hid (w4.heap.size ≤ p4 ∧ p4 < x12.heap.size) := ⟨by have := hS0.size; omega, T4.out.lt⟩
      have hS0 : Keeps (fun _ => False) w4 x12 := hS0.trans (Keeps.of_sees hal)
      refine wpOp_val (v := .pointer (some ⟨p4, 0, none⟩)) (w' := x12) (by rfl) (wanted_none (by rfl) _) (by rw [hp4, hnew]; exact exec_alloc_cl rfl) ⟨hS0, ?_⟩
      (try simp only [Act.put, List.setIfInBounds_toArray, List.set_cons_zero, List.set_cons_succ])
      clear hnew hp4 hal
      refine wpH_two (i := 5) (j := 7) (by kernel_rfl) ?_ ?_
      · obtain ⟨p3, hp3⟩ : ∃ b, b = x12.heap.size := ⟨_, rfl⟩
        obtain ⟨x13, hnew⟩ : ∃ x, x = x12.alloc (.cells zeroM.vals.toArray 42) := ⟨_, rfl⟩
        have hal : Sees x12 x13 := by rw [hnew]; exact (Sees.refl x12).alloc _
        have T3 : RowKit.Hid (CqAt x13 p3 zeroM) := by show CqAt _ _ _; rw [hnew, hp3]; exact heap_alloc_new _ _
        have G3 : RowKit.Hid (w4.heap.size ≤ p3 ∧ p3 < x13.heap.size) := ⟨by have := hS0.size; omega, T3.out.lt⟩
        have NE34 : RowKit.Hid (p3 ≠ p4) := by have := G4.out; show _ ≠ _; omega
        have T4 := Lib.hid (T4.out.sees hal)
        have G4 : RowKit.Hid (w4.heap.size ≤ p4 ∧ p4 < x13.heap.size) := ⟨G4.out.1, by have := G4.out.2; have := hal.size; omega⟩
        have hS0 : Keeps (fun _ => False) w4 x13 := hS0.trans (Keeps.of_sees hal)
        refine wpOp_val (v := .pointer (some ⟨p3, 0, none⟩)) (w' := x13) (by rfl) (wanted_none (by rfl) _) (by rw [hp3, hnew]; exact exec_alloc_cl rfl) ⟨hS0, ?_⟩
        (try simp only [Act.put, List.setIfInBounds_toArray, List.set_cons_zero, List.set_cons_succ])
        clear hnew hp3 hal
        obtain ⟨p5, hp5⟩ : ∃ b, b = x13.heap.size := ⟨_, rfl⟩
        obtain ⟨x14, hnew⟩ : ∃ x, x = x13.alloc (.cells zeroM.vals.toArray 42) := ⟨_, rfl⟩
        have hal : Sees x13 x14 := by rw [hnew]; exact (Sees.refl x13).alloc _
        have T5 : RowKit.Hid (CqAt x14 p5 zeroM) := by show CqAt _ _ _; rw [hnew, hp5]; exact heap_alloc_new _ _
        have G5 : RowKit.Hid (w4.heap.size ≤ p5 ∧ p5 < x14.heap.size) := ⟨by have := hS0.size; omega, T5.out.lt⟩
        have NE45 : RowKit.Hid (p4 ≠ p5) := by have := G4.out; show _ ≠ _; omega
        have T4 := Lib.hid (T4.out.sees hal)
        have G4 : RowKit.Hid (w4.heap.size ≤ p4 ∧ p4 < x14.heap.size) := ⟨G4.out.1, by have := G4.out.2; have := hal.size; omega⟩
        have NE35 : RowKit.Hid (p3 ≠ p5) := by have := G3.out; show _ ≠ _; omega
        have T3 := Lib.hid (T3.out.sees hal)
        have G3 : RowKit.Hid (w4.heap.size ≤ p3 ∧ p3 < x14.heap.size) := ⟨G3.out.1, by have := G3.out.2; have := hal.size; omega⟩
        have hS0 : Keeps (fun _ => False) w4 x14 := hS0.trans (Keeps.of_sees hal)
        refine wpH_one (i := 7) (by kernel_rfl) (wpOp_val (v := .pointer (some ⟨p5, 0, none⟩)) (w' := x14) (by rfl) (wanted_none (by rfl) _) (by rw [hp5, hnew]; exact exec_alloc_cl rfl) ⟨hS0, ?_⟩)
        (try simp only [Act.put, List.setIfInBounds_toArray, List.set_cons_zero, List.set_cons_succ])
        clear hnew hp5 hal
        obtain ⟨x15, hnew⟩ : ∃ x, x = x14.setRow p3 kA.vals.toArray := ⟨_, rfl⟩
        have hst : (Instr.storeAt 42 (.pointer (some ⟨p3, 0, none⟩)) kA.val).run Tryz.prog x14 = .ok () x15 := by rw [hnew]; exact run_storeCl T3.out kA
        have hS0 : Keeps (fun _ => False) w4 x15 := by rw [hnew]; exact hS0.setRow' (by have := G3.out; omega) _
        have hsz : x15.heap.size = x14.heap.size := by rw [hnew]; simp [World.setRow]
        have T3n : RowKit.Hid (CqAt x15 p3 kA) := by show CqAt _ _ _; rw [hnew]; exact T3.out.set kA
        have G3n : RowKit.Hid (w4.heap.size ≤ p3 ∧ p3 < x15.heap.size) := ⟨G3.out.1, by have := G3.out.2; omega⟩
        have T4n : RowKit.Hid (CqAt x15 p4 zeroM) := by show CqAt _ _ _; rw [hnew]; exact cq_other T4.out (by have := NE34.out; omega) _
        have G4n : RowKit.Hid (w4.heap.size ≤ p4 ∧ p4 < x15.heap.size) := ⟨G4.out.1, by have := G4.out.2; omega⟩
        have T5n : RowKit.Hid (CqAt x15 p5 zeroM) := by show CqAt _ _ _; rw [hnew]; exact cq_other T5.out (by have := NE35.out; omega) _
        have G5n : RowKit.Hid (w4.heap.size ≤ p5 ∧ p5 < x15.heap.size) := ⟨G5.out.1, by have := G5.out.2; omega⟩
        clear T3 T4 T5 G3 G4 G5
        have T3 := T3n
        have G3 := G3n
        have T4 := T4n
        have G4 := G4n
        have T5 := T5n
        have G5 := G5n
        clear T3n T4n T5n G3n G4n G5n
        refine wpH_one (i := 8) (by kernel_rfl) (wpOp_skip (w' := x15) (by rfl) (wanted_none (by rfl) _) (exec_store (a := .pointer (some ⟨p3, 0, none⟩)) (v := kA.val) rfl (by go_simp) (by go_simp) hst) ⟨hS0, ?_⟩)
        (try simp only [Act.put, List.setIfInBounds_toArray, List.set_cons_zero, List.set_cons_succ])
        clear hnew hst hsz
        obtain ⟨x16, hnew⟩ : ∃ x, x = x15.setRow p4 kB.vals.toArray := ⟨_, rfl⟩
        have hst : (Instr.storeAt 42 (.pointer (some ⟨p4, 0, none⟩)) kB.val).run Tryz.prog x15 = .ok () x16 := by rw [hnew]; exact run_storeCl T4.out kB
        have hS0 : Keeps (fun _ => False) w4 x16 := by rw [hnew]; exact hS0.setRow' (by have := G4.out; omega) _
        have hsz : x16.heap.size = x15.heap.size := by rw [hnew]; simp [World.setRow]
        have T3n : RowKit.Hid (CqAt x16 p3 kA) := by show CqAt _ _ _; rw [hnew]; exact cq_other T3.out (by have := NE34.out; omega) _
        have G3n : RowKit.Hid (w4.heap.size ≤ p3 ∧ p3 < x16.heap.size) := ⟨G3.out.1, by have := G3.out.2; omega⟩
        have T4n : RowKit.Hid (CqAt x16 p4 kB) := by show CqAt _ _ _; rw [hnew]; exact T4.out.set kB
        have G4n : RowKit.Hid (w4.heap.size ≤ p4 ∧ p4 < x16.heap.size) := ⟨G4.out.1, by have := G4.out.2; omega⟩
        have T5n : RowKit.Hid (CqAt x16 p5 zeroM) := by show CqAt _ _ _; rw [hnew]; exact cq_other T5.out (by have := NE45.out; omega) _
        have G5n : RowKit.Hid (w4.heap.size ≤ p5 ∧ p5 < x16.heap.size) := ⟨G5.out.1, by have := G5.out.2; omega⟩
        clear T3 T4 T5 G3 G4 G5
        have T3 := T3n
        have G3 := G3n
        have T4 := T4n
        have G4 := G4n
        have T5 := T5n
        have G5 := G5n
        clear T3n T4n T5n G3n G4n G5n
        refine wpH_one (i := 9) (by kernel_rfl) (wpOp_skip (w' := x16) (by rfl) (wanted_none (by rfl) _) (exec_store (a := .pointer (some ⟨p4, 0, none⟩)) (v := kB.val) rfl (by go_simp) (by go_simp) hst) ⟨hS0, ?_⟩)
        (try simp only [Act.put, List.setIfInBounds_toArray, List.set_cons_zero, List.set_cons_succ])
        clear hnew hst hsz
        obtain ⟨x17, hnew⟩ : ∃ x, x = x16.setRow p5 blankC.vals.toArray := ⟨_, rfl⟩
        have hst : (Instr.storeAt 42 (.pointer (some ⟨p5, 0, none⟩)) blankC.val).run Tryz.prog x16 = .ok () x17 := by rw [hnew]; exact run_storeCl T5.out blankC
        have hS0 : Keeps (fun _ => False) w4 x17 := by rw [hnew]; exact hS0.setRow' (by have := G5.out; omega) _
        have hsz : x17.heap.size = x16.heap.size := by rw [hnew]; simp [World.setRow]
        have T3n : RowKit.Hid (CqAt x17 p3 kA) := by show CqAt _ _ _; rw [hnew]; exact cq_other T3.out (by have := NE35.out; omega) _
        have G3n : RowKit.Hid (w4.heap.size ≤ p3 ∧ p3 < x17.heap.size) := ⟨G3.out.1, by have := G3.out.2; omega⟩
        have T4n : RowKit.Hid (CqAt x17 p4 kB) := by show CqAt _ _ _; rw [hnew]; exact cq_other T4.out (by have := NE45.out; omega) _
        have G4n : RowKit.Hid (w4.heap.size ≤ p4 ∧ p4 < x17.heap.size) := ⟨G4.out.1, by have := G4.out.2; omega⟩
        have T5n : RowKit.Hid (CqAt x17 p5 blankC) := by show CqAt _ _ _; rw [hnew]; exact T5.out.set blankC
        have G5n : RowKit.Hid (w4.heap.size ≤ p5 ∧ p5 < x17.heap.size) := ⟨G5.out.1, by have := G5.out.2; omega⟩
        clear T3 T4 T5 G3 G4 G5
        have T3 := T3n
        have G3 := G3n
        have T4 := T4n
        have G4 := G4n
        have T5 := T5n
        have G5 := G5n
        clear T3n T4n T5n G3n G4n G5n
        refine wpH_one (i := 10) (by kernel_rfl) (wpOp_skip (w' := x17) (by rfl) (wanted_none (by rfl) _) (exec_store (a := .pointer (some ⟨p5, 0, none⟩)) (v := blankC.val) rfl (by go_simp) (by go_simp) hst) ⟨hS0, ?_⟩)
        (try simp only [Act.put, List.setIfInBounds_toArray, List.set_cons_zero, List.set_cons_succ])
        clear hnew hst hsz
        refine wpH_end (by kernel_rfl) ?_
        go_wp2_with fail
        go_meet
        exact ⟨p3, p4, p5, rfl, rfl, rfl, T3.out, T4.out, T5.out, hw4.trans (hS0.sees_end (fun _ _ h => h))⟩
      · obtain ⟨p5, hp5⟩ : ∃ b, b = x12.heap.size := ⟨_, rfl⟩
        obtain ⟨x18, hnew⟩ : ∃ x, x = x12.alloc (.cells zeroM.vals.toArray 42) := ⟨_, rfl⟩
        have hal : Sees x12 x18 := by rw [hnew]; exact (Sees.refl x12).alloc _
        have T5 : RowKit.Hid (CqAt x18 p5 zeroM) := by show CqAt _ _ _; rw [hnew, hp5]; exact heap_alloc_new _ _
        have G5 : RowKit.Hid (w4.heap.size ≤ p5 ∧ p5 < x18.heap.size) := ⟨by have := hS0.size; omega, T5.out.lt⟩
        have NE45 : RowKit.Hid (p4 ≠ p5) := by have := G4.out; show _ ≠ _; omega
        have T4 := Lib.hid (T4.out.sees hal)
        have G4 : RowKit.Hid (w4.heap.size ≤ p4 ∧ p4 < x18.heap.size) := ⟨G4.out.1, by have := G4.out.2; have := hal.size; omega⟩
        have hS0 : Keeps (fun _ => False) w4 x18 := hS0.trans (Keeps.of_sees hal)
        refine wpOp_val (v := .pointer (some ⟨p5, 0, none⟩)) (w' := x18) (by rfl) (wanted_none (by rfl) _) (by rw [hp5, hnew]; exact exec_alloc_cl rfl) ⟨hS0, ?_⟩
        (try simp only [Act.put, List.setIfInBounds_toArray, List.set_cons_zero, List.set_cons_succ])
        clear hnew hp5 hal
        obtain ⟨p3, hp3⟩ : ∃ b, b = x18.heap.size := ⟨_, rfl⟩
        obtain ⟨x19, hnew⟩ : ∃ x, x = x18.alloc (.cells zeroM.vals.toArray 42) := ⟨_, rfl⟩
        have hal : Sees x18 x19 := by rw [hnew]; exact (Sees.refl x18).alloc _
        have T3 : RowKit.Hid (CqAt x19 p3 zeroM) := by show CqAt _ _ _; rw [hnew, hp3]; exact heap_alloc_new _ _
        have G3 : RowKit.Hid (w4.heap.size ≤ p3 ∧ p3 < x19.heap.size) := ⟨by have := hS0.size; omega, T3.out.lt⟩
        have NE34 : RowKit.Hid (p3 ≠ p4) := by have := G4.out; show _ ≠ _; omega
        have T4 := Lib.hid (T4.out.sees hal)
        have G4 : RowKit.Hid (w4.heap.size ≤ p4 ∧ p4 < x19.heap.size) := ⟨G4.out.1, by have := G4.out.2; have := hal.size; omega⟩
        have NE35 : RowKit.Hid (p3 ≠ p5) := by have := G5.out; show _ ≠ _; omega
        have T5 := Lib.hid (T5.out.sees hal)
        have G5 : RowKit.Hid (w4.heap.size ≤ p5 ∧ p5 < x19.heap.size) := ⟨G5.out.1, by have := G5.out.2; have := hal.size; omega⟩
        have hS0 : Keeps (fun _ => False) w4 x19 := hS0.trans (Keeps.of_sees hal)
        refine wpH_one (i := 5) (by kernel_rfl) (wpOp_val (v := .pointer (some ⟨p3, 0, none⟩)) (w' := x19) (by rfl) (wanted_none (by rfl) _) (by rw [hp3, hnew]; exact exec_alloc_cl rfl) ⟨hS0, ?_⟩)
        (try simp only [Act.put, List.setIfInBounds_toArray, List.set_cons_zero, List.set_cons_succ])
        clear hnew hp3 hal
        obtain ⟨x20, hnew⟩ : ∃ x, x = x19.setRow p3 kA.vals.toArray := ⟨_, rfl⟩
        have hst : (Instr.storeAt 42 (.pointer (some ⟨p3, 0, none⟩)) kA.val).run Tryz.prog x19 = .ok () x20 := by rw [hnew]; exact run_storeCl T3.out kA
        have hS0 : Keeps (fun _ => False) w4 x20 := by rw [hnew]; exact hS0.setRow' (by have := G3.out; omega) _
        have hsz : x20.heap.size = x19.heap.size := by rw [hnew]; simp [World.setRow]
        have T3n : RowKit.Hid (CqAt x20 p3 kA) := by show CqAt _ _ _; rw [hnew]; exact T3.out.set kA
        have G3n : RowKit.Hid (w4.heap.size ≤ p3 ∧ p3 < x20.heap.size) := ⟨G3.out.1, by have := G3.out.2; omega⟩
        have T4n : RowKit.Hid (CqAt x20 p4 zeroM) := by show CqAt _ _ _; rw [hnew]; exact cq_other T4.out (by have := NE34.out; omega) _
        have G4n : RowKit.Hid (w4.heap.size ≤ p4 ∧ p4 < x20.heap.size) := ⟨G4.out.1, by have := G4.out.2; omega⟩
        have T5n : RowKit.Hid (CqAt x20 p5 zeroM) := by show CqAt _ _ _; rw [hnew]; exact cq_other T5.out (by have := NE35.out; omega) _
        have G5n : RowKit.Hid (w4.heap.size ≤ p5 ∧ p5 < x20.heap.size) := ⟨G5.out.1, by have := G5.out.2; omega⟩
        clear T3 T4 T5 G3 G4 G5
        have T3 := T3n
        have G3 := G3n
        have T4 := T4n
        have G4 := G4n
        have T5 := T5n
        have G5 := G5n
        clear T3n T4n T5n G3n G4n G5n
        refine wpH_one (i := 8) (by kernel_rfl) (wpOp_skip (w' := x20) (by rfl) (wanted_none (by rfl) _) (exec_store (a := .pointer (some ⟨p3, 0, none⟩)) (v := kA.val) rfl (by go_simp) (by go_simp) hst) ⟨hS0, ?_⟩)
        (try simp only [Act.put, List.setIfInBounds_toArray, List.set_cons_zero, List.set_cons_succ])
        clear hnew hst hsz
        obtain ⟨x21, hnew⟩ : ∃ x, x = x20.setRow p4 kB.vals.toArray := ⟨_, rfl⟩
        have hst : (Instr.storeAt 42 (.pointer (some ⟨p4, 0, none⟩)) kB.val).run Tryz.prog x20 = .ok () x21 := by rw [hnew]; exact run_storeCl T4.out kB
        have hS0 : Keeps (fun _ => False) w4 x21 := by rw [hnew]; exact hS0.setRow' (by have := G4.out; omega) _
        have hsz : x21.heap.size = x20.heap.size := by rw [hnew]; simp [World.setRow]
        have T3n : RowKit.Hid (CqAt x21 p3 kA) := by show CqAt _ _ _; rw [hnew]; exact cq_other T3.out (by have := NE34.out; omega) _
        have G3n : RowKit.Hid (w4.heap.size ≤ p3 ∧ p3 < x21.heap.size) := ⟨G3.out.1, by have := G3.out.2; omega⟩
        have T4n : RowKit.Hid (CqAt x21 p4 kB) := by show CqAt _ _ _; rw [hnew]; exact T4.out.set kB
        have G4n : RowKit.Hid (w4.heap.size ≤ p4 ∧ p4 < x21.heap.size) := ⟨G4.out.1, by have := G4.out.2; omega⟩
        have T5n : RowKit.Hid (CqAt x21 p5 zeroM) := by show CqAt _ _ _; rw [hnew]; exact cq_other T5.out (by have := NE45.out; omega) _
        have G5n : RowKit.Hid (w4.heap.size ≤ p5 ∧ p5 < x21.heap.size) := ⟨G5.out.1, by have := G5.out.2; omega⟩
        clear T3 T4 T5 G3 G4 G5
        have T3 := T3n
        have G3 := G3n
        have T4 := T4n
        have G4 := G4n
        have T5 := T5n
        have G5 := G5n
        clear T3n T4n T5n G3n G4n G5n
        refine wpH_one (i := 9) (by kernel_rfl) (wpOp_skip (w' := x21) (by rfl) (wanted_none (by rfl) _) (exec_store (a := .pointer (some ⟨p4, 0, none⟩)) (v := kB.val) rfl (by go_simp) (by go_simp) hst) ⟨hS0, ?_⟩)
        (try simp only [Act.put, List.setIfInBounds_toArray, List.set_cons_zero, List.set_cons_succ])
        clear hnew hst hsz
        obtain ⟨x22, hnew⟩ : ∃ x, x = x21.setRow p5 blankC.vals.toArray := ⟨_, rfl⟩
        have hst : (Instr.storeAt 42 (.pointer (some ⟨p5, 0, none⟩)) blankC.val).run Tryz.prog x21 = .ok () x22 := by rw [hnew]; exact run_storeCl T5.out blankC
        have hS0 : Keeps (fun _ => False) w4 x22 := by rw [hnew]; exact hS0.setRow' (by have := G5.out; omega) _
        have hsz : x22.heap.size = x21.heap.size := by rw [hnew]; simp [World.setRow]
        have T3n : RowKit.Hid (CqAt x22 p3 kA) := by show CqAt _ _ _; rw [hnew]; exact cq_other T3.out (by have := NE35.out; omega) _
        have G3n : RowKit.Hid (w4.heap.size ≤ p3 ∧ p3 < x22.heap.size) := ⟨G3.out.1, by have := G3.out.2; omega⟩
        have T4n : RowKit.Hid (CqAt x22 p4 kB) := by show CqAt _ _ _; rw [hnew]; exact cq_other T4.out (by have := NE45.out; omega) _
        have G4n : RowKit.Hid (w4.heap.size ≤ p4 ∧ p4 < x22.heap.size) := ⟨G4.out.1, by have := G4.out.2; omega⟩
        have T5n : RowKit.Hid (CqAt x22 p5 blankC) := by show CqAt _ _ _; rw [hnew]; exact T5.out.set blankC
        have G5n : RowKit.Hid (w4.heap.size ≤ p5 ∧ p5 < x22.heap.size) := ⟨G5.out.1, by have := G5.out.2; omega⟩
        clear T3 T4 T5 G3 G4 G5
        have T3 := T3n
        have G3 := G3n
        have T4 := T4n
        have G4 := G4n
        have T5 := T5n
        have G5 := G5n
        clear T3n T4n T5n G3n G4n G5n
        refine wpH_one (i := 10) (by kernel_rfl) (wpOp_skip (w' := x22) (by rfl) (wanted_none (by rfl) _) (exec_store (a := .pointer (some ⟨p5, 0, none⟩)) (v := blankC.val) rfl (by go_simp) (by go_simp) hst) ⟨hS0, ?_⟩)
        (try simp only [Act.put, List.setIfInBounds_toArray, List.set_cons_zero, List.set_cons_succ])
        clear hnew hst hsz
        refine wpH_end (by kernel_rfl) ?_
        go_wp2_with fail
        go_meet
        exact ⟨p3, p4, p5, rfl, rfl, rfl, T3.out, T4.out, T5.out, hw4.trans (hS0.sees_end (fun _ _ h => h))⟩
    · obtain ⟨p5, hp5⟩ : ∃ b, b = w4.heap.size := ⟨_, rfl⟩
      obtain ⟨x23, hnew⟩ : ∃ x, x = w4.alloc (.cells zeroM.vals.toArray 42) := ⟨_, rfl⟩
      have hal : Sees w4 x23 := by rw [hnew]; exact (Sees.refl w4).alloc _
      have T5 : RowKit.Hid (CqAt x23 p5 zeroM) := by show CqAt _ _ _; rw [hnew, hp5]; exact heap_alloc_new _ _
      have G5 : RowKit.Hid (w4.heap.size ≤ p5 ∧ p5 < x23.heap.size) := ⟨by have := hS0.size; omega, T5.out.lt⟩
      have hS0 : Keeps (fun _ => False) w4 x23 := hS0.trans (Keeps.of_sees hal)
      refine wpOp_val (v := .pointer (some ⟨p5, 0, none⟩)) (w' := x23) (by rfl) (wanted_none (by rfl) _) (by rw [hp5, hnew]; exact exec_alloc_cl rfl) ⟨hS0, ?_⟩
      (try simp only [Act.put, List.setIfInBounds_toArray, List.set_cons_zero, List.set_cons_succ])
      clear hnew hp5 hal
      refine wpH_two (i := 5) (j := 6) (by kernel_rfl) ?_ ?_
      · obtain ⟨p3, hp3⟩ : ∃ b, b = x23.heap.size := ⟨_, rfl⟩
        obtain ⟨x24, hnew⟩ : ∃ x, x = x23.alloc (.cells zeroM.vals.toArray 42) := ⟨_, rfl⟩
        have hal : Sees x23 x24 := by rw [hnew]; exact (Sees.refl x23).alloc _
        have T3 : RowKit.Hid (CqAt x24 p3 zeroM) := by show CqAt _ _ _; rw [hnew, hp3]; exact heap_alloc_new _ _
        have G3 : RowKit.Hid (w4.heap.size ≤ p3 ∧ p3 < x24.heap.size) := ⟨by have := hS0.size; omega, T3.out.lt⟩
        have NE35 : RowKit.Hid (p3 ≠ p5) := by have := G5.out; show _ ≠ _; omega
        have T5 := Lib.hid (T5.out.sees hal)
        have G5 : RowKit.Hid (w4.heap.size ≤ p5 ∧ p5 < x24.heap.size) := ⟨G5.out.1, by have := G5.out.2; have := hal.size; omega⟩
        have hS0 : Keeps (fun _ => False) w4 x24 := hS0.trans (Keeps.of_sees hal)
        refine wpOp_val (v := .pointer (some ⟨p3, 0, none⟩)) (w' := x24) (by rfl) (wanted_none (by rfl) _) (by rw [hp3, hnew]; exact exec_alloc_cl rfl) ⟨hS0, ?_⟩
        (try simp only [Act.put, List.setIfInBounds_toArray, List.set_cons_zero, List.set_cons_succ])
        clear hnew hp3 hal
        obtain ⟨p4, hp4⟩ : ∃ b, b = x24.heap.size := ⟨_, rfl⟩
        obtain ⟨x25, hnew⟩ : ∃ x, x = x24.alloc (.cells zeroM.vals.toArray 42) := ⟨_, rfl⟩
        have hal : Sees x24 x25 := by rw [hnew]; exact (Sees.refl x24).alloc _
        have T4 : RowKit.Hid (CqAt x25 p4 zeroM) := by show CqAt _ _ _; rw [hnew, hp4]; exact heap_alloc_new _ _
        have G4 : RowKit.Hid (w4.heap.size ≤ p4 ∧ p4 < x25.heap.size) := ⟨by have := hS0.size; omega, T4.out.lt⟩
        have NE45 : RowKit.Hid (p4 ≠ p5) := by have := G5.out; show _ ≠ _; omega
        have T5 := Lib.hid (T5.out.sees hal)
        have G5 : RowKit.Hid (w4.heap.size ≤ p5 ∧ p5 < x25.heap.size) := ⟨G5.out.1, by have := G5.out.2; have := hal.size; omega⟩
        have NE34 : RowKit.Hid (p3 ≠ p4) := by have := G3.out; show _ ≠ _; omega
        have T3 := Lib.hid (T3.out.sees hal)
        have G3 : RowKit.Hid (w4.heap.size ≤ p3 ∧ p3 < x25.heap.size) := ⟨G3.out.1, by have := G3.out.2; have := hal.size; omega⟩
        have hS0 : Keeps (fun _ => False) w4 x25 := hS0.trans (Keeps.of_sees hal)
        refine wpH_one (i := 6) (by kernel_rfl) (wpOp_val (v := .pointer (some ⟨p4, 0, none⟩)) (w' := x25) (by rfl) (wanted_none (by rfl) _) (by rw [hp4, hnew]; exact exec_alloc_cl rfl) ⟨hS0, ?_⟩)
        (try simp only [Act.put, List.setIfInBounds_toArray, List.set_cons_zero, List.set_cons_succ])
        clear hnew hp4 hal
        obtain ⟨x26, hnew⟩ : ∃ x, x = x25.setRow p3 kA.vals.toArray := ⟨_, rfl⟩
        have hst : (Instr.storeAt 42 (.pointer (some ⟨p3, 0, none⟩)) kA.val).run Tryz.prog x25 = .ok () x26 := by rw [hnew]; exact run_storeCl T3.out kA
        have hS0 : Keeps (fun _ => False) w4 x26 := by rw [hnew]; exact hS0.setRow' (by have := G3.out; omega) _
        have hsz : x26.heap.size = x25.heap.size := by rw [hnew]; simp [World.setRow]
        have T3n : RowKit.Hid (CqAt x26 p3 kA) := by show CqAt _ _ _; rw [hnew]; exact T3.out.set kA
        have G3n : RowKit.Hid (w4.heap.size ≤ p3 ∧ p3 < x26.heap.size) := ⟨G3.out.1, by have := G3.out.2; omega⟩
        have T4n : RowKit.Hid (CqAt x26 p4 zeroM) := by show CqAt _ _ _; rw [hnew]; exact cq_other T4.out (by have := NE34.out; omega) _
        have G4n : RowKit.Hid (w4.heap.size ≤ p4 ∧ p4 < x26.heap.size) := ⟨G4.out.1, by have := G4.out.2; omega⟩
        have T5n : RowKit.Hid (CqAt x26 p5 zeroM) := by show CqAt _ _ _; rw [hnew]; exact cq_other T5.out (by have := NE35.out; omega) _
        have G5n : RowKit.Hid (w4.heap.size ≤ p5 ∧ p5 < x26.heap.size) := ⟨G5.out.1, by have := G5.out.2; omega⟩
        clear T3 T4 T5 G3 G4 G5
        have T3 := T3n
        have G3 := G3n
        have T4 := T4n
        have G4 := G4n
        have T5 := T5n
        have G5 := G5n
        clear T3n T4n T5n G3n G4n G5n
        refine wpH_one (i := 8) (by kernel_rfl) (wpOp_skip (w' := x26) (by rfl) (wanted_none (by rfl) _) (exec_store (a := .pointer (some ⟨p3, 0, none⟩)) (v := kA.val) rfl (by go_simp) (by go_simp) hst) ⟨hS0, ?_⟩)
        (try simp only [Act.put, List.setIfInBounds_toArray, List.set_cons_zero, List.set_cons_succ])
        clear hnew hst hsz
        obtain ⟨x27, hnew⟩ : ∃ x, x = x26.setRow p4 kB.vals.toArray := ⟨_, rfl⟩
        have hst : (Instr.storeAt 42 (.pointer (some ⟨p4, 0, none⟩)) kB.val).run Tryz.prog x26 = .ok () x27 := by rw [hnew]; exact run_storeCl T4.out kB
        have hS0 : Keeps (fun _ => False) w4 x27 := by rw [hnew]; exact hS0.setRow' (by have := G4.out; omega) _
        have hsz : x27.heap.size = x26.heap.size := by rw [hnew]; simp [World.setRow]
        have T3n : RowKit.Hid (CqAt x27 p3 kA) := by show CqAt _ _ _; rw [hnew]; exact cq_other T3.out (by have := NE34.out; omega) _
        have G3n : RowKit.Hid (w4.heap.size ≤ p3 ∧ p3 < x27.heap.size) := ⟨G3.out.1, by have := G3.out.2; omega⟩
        have T4n : RowKit.Hid (CqAt x27 p4 kB) := by show CqAt _ _ _; rw [hnew]; exact T4.out.set kB
        have G4n : RowKit.Hid (w4.heap.size ≤ p4 ∧ p4 < x27.heap.size) := ⟨G4.out.1, by have := G4.out.2; omega⟩
        have T5n : RowKit.Hid (CqAt x27 p5 zeroM) := by show CqAt _ _ _; rw [hnew]; exact cq_other T5.out (by have := NE45.out; omega) _
        have G5n : RowKit.Hid (w4.heap.size ≤ p5 ∧ p5 < x27.heap.size) := ⟨G5.out.1, by have := G5.out.2; omega⟩
        clear T3 T4 T5 G3 G4 G5
        have T3 := T3n
        have G3 := G3n
        have T4 := T4n
        have G4 := G4n
        have T5 := T5n
        have G5 := G5n
        clear T3n T4n T5n G3n G4n G5n
        refine wpH_one (i := 9) (by kernel_rfl) (wpOp_skip (w' := x27) (by rfl) (wanted_none (by rfl) _) (exec_store (a := .pointer (some ⟨p4, 0, none⟩)) (v := kB.val) rfl (by go_simp) (by go_simp) hst) ⟨hS0, ?_⟩)
        (try simp only [Act.put, List.setIfInBounds_toArray, List.set_cons_zero, List.set_cons_succ])
        clear hnew hst hsz
        obtain ⟨x28, hnew⟩ : ∃ x, x = x27.setRow p5 blankC.vals.toArray := ⟨_, rfl⟩
        have hst : (Instr.storeAt 42 (.pointer (some ⟨p5, 0, none⟩)) blankC.val).run Tryz.prog x27 = .ok () x28 := by rw [hnew]; exact run_storeCl T5.out blankC
        have hS0 : Keeps (fun _ => False) w4 x28 := by rw [hnew]; exact hS0.setRow' (by have := G5.out; omega) _
        have hsz : x28.heap.size = x27.heap.size := by rw [hnew]; simp [World.setRow]
        have T3n : RowKit.Hid (CqAt x28 p3 kA) := by show CqAt _ _ _; rw [hnew]; exact cq_other T3.out (by have := NE35.out; omega) _
        have G3n : RowKit.Hid (w4.heap.size ≤ p3 ∧ p3 < x28.heap.size) := ⟨G3.out.1, by have := G3.out.2; omega⟩
        have T4n : RowKit.Hid (CqAt x28 p4 kB) := by show CqAt _ _ _; rw [hnew]; exact cq_other T4.out (by have := NE45.out; omega) _
        have G4n : RowKit.Hid (w4.heap.size ≤ p4 ∧ p4 < x28.heap.size) := ⟨G4.out.1, by have := G4.out.2; omega⟩
        have T5n : RowKit.Hid (CqAt x28 p5 blankC) := by show CqAt _ _ _; rw [hnew]; exact T5.out.set blankC
        have G5n : RowKit.Hid (w4.heap.size ≤ p5 ∧ p5 < x28.heap.size) := ⟨G5.out.1, by have := G5.out.2; omega⟩
        clear T3 T4 T5 G3 G4 G5
        have T3 := T3n
        have G3 := G3n
        have T4 := T4n
        have G4 := G4n
        have T5 := T5n
        have G5 := G5n
        clear T3n T4n T5n G3n G4n G5n
        refine wpH_one (i := 10) (by kernel_rfl) (wpOp_skip (w' := x28) (by rfl) (wanted_none (by rfl) _) (exec_store (a := .pointer (some ⟨p5, 0, none⟩)) (v := blankC.val) rfl (by go_simp) (by go_simp) hst) ⟨hS0, ?_⟩)
        (try simp only [Act.put, List.setIfInBounds_toArray, List.set_cons_zero, List.set_cons_succ])
        clear hnew hst hsz
        refine wpH_end (by kernel_rfl) ?_
        go_wp2_with fail
        go_meet
        exact ⟨p3, p4, p5, rfl, rfl, rfl, T3.out, T4.out, T5.out, hw4.trans (hS0.sees_end (fun _ _ h => h))⟩
      · obtain ⟨p4, hp4⟩ : ∃ b, b = x23.heap.size := ⟨_, rfl⟩
        obtain ⟨x29, hnew⟩ : ∃ x, x = x23.alloc (.cells zeroM.vals.toArray 42) := ⟨_, rfl⟩
        have hal : Sees x23 x29 := by rw [hnew]; exact (Sees.refl x23).alloc _
        have T4 : RowKit.Hid (CqAt x29 p4 zeroM) := by show CqAt _ _ _; rw [hnew, hp4]; exact heap_alloc_new _ _
        have G4 : RowKit.Hid (w4.heap.size ≤ p4 ∧ p4 < x29.heap.size) := ⟨by have := hS0.size; omega, T4.out.lt⟩
        have NE45 : RowKit.Hid (p4 ≠ p5) := by have := G5.out; show _ ≠ _; omega
        have T5 := Lib.hid (T5.out.sees hal)
        have G5 : RowKit.Hid (w4.heap.size ≤ p5 ∧ p5 < x29.heap.size) := ⟨G5.out.1, by have := G5.out.2; have := hal.size; omega⟩
        have hS0 : Keeps (fun _ => False) w4 x29 := hS0.trans (Keeps.of_sees hal)
        refine wpOp_val (v := .pointer (some ⟨p4, 0, none⟩)) (w' := x29) (by rfl) (wanted_none (by rfl) _) (by rw [hp4, hnew]; exact exec_alloc_cl rfl) ⟨hS0, ?_⟩
        (try simp only [Act.put, List.setIfInBounds_toArray, List.set_cons_zero, List.set_cons_succ])
        clear hnew hp4 hal
        obtain ⟨p3, hp3⟩ : ∃ b, b = x29.heap.size := ⟨_, rfl⟩
        obtain ⟨x30, hnew⟩ : ∃ x, x = x29.alloc (.cells zeroM.vals.toArray 42) := ⟨_, rfl⟩
        have hal : Sees x29 x30 := by rw [hnew]; exact (Sees.refl x29).alloc _
        have T3 : RowKit.Hid (CqAt x30 p3 zeroM) := by show CqAt _ _ _; rw [hnew, hp3]; exact heap_alloc_new _ _
        have G3 : RowKit.Hid (w4.heap.size ≤ p3 ∧ p3 < x30.heap.size) := ⟨by have := hS0.size; omega, T3.out.lt⟩
        have NE35 : RowKit.Hid (p3 ≠ p5) := by have := G5.out; show _ ≠ _; omega
        have T5 := Lib.hid (T5.out.sees hal)
        have G5 : RowKit.Hid (w4.heap.size ≤ p5 ∧ p5 < x30.heap.size) := ⟨G5.out.1, by have := G5.out.2; have := hal.size; omega⟩
        have NE34 : RowKit.Hid (p3 ≠ p4) := by have := G4.out; show _ ≠ _; omega
        have T4 := Lib.hid (T4.out.sees hal)
        have G4 : RowKit.Hid (w4.heap.size ≤ p4 ∧ p4 < x30.heap.size) := ⟨G4.out.1, by have := G4.out.2; have := hal.size; omega⟩
        have hS0 : Keeps (fun _ => False) w4 x30 := hS0.trans (Keeps.of_sees hal)
        refine wpH_one (i := 5) (by kernel_rfl) (wpOp_val (v := .pointer (some ⟨p3, 0, none⟩)) (w' := x30) (by rfl) (wanted_none (by rfl) _) (by rw [hp3, hnew]; exact exec_alloc_cl rfl) ⟨hS0, ?_⟩)
        (try simp only [Act.put, List.setIfInBounds_toArray, List.set_cons_zero, List.set_cons_succ])
        clear hnew hp3 hal
        obtain ⟨x31, hnew⟩ : ∃ x, x = x30.setRow p3 kA.vals.toArray := ⟨_, rfl⟩
        have hst : (Instr.storeAt 42 (.pointer (some ⟨p3, 0, none⟩)) kA.val).run Tryz.prog x30 = .ok () x31 := by rw [hnew]; exact run_storeCl T3.out kA
        have hS0 : Keeps (fun _ => False) w4 x31 := by rw [hnew]; exact hS0.setRow' (by have := G3.out; omega) _
        have hsz : x31.heap.size = x30.heap.size := by rw [hnew]; simp [World.setRow]
        have T3n : RowKit.Hid (CqAt x31 p3 kA) := by show CqAt _ _ _; rw [hnew]; exact T3.out.set kA
        have G3n : RowKit.Hid (w4.heap.size ≤ p3 ∧ p3 < x31.heap.size) := ⟨G3.out.1, by have := G3.out.2; omega⟩
        have T4n : RowKit.Hid (CqAt x31 p4 zeroM) := by show CqAt _ _ _; rw [hnew]; exact cq_other T4.out (by have := NE34.out; omega) _
        have G4n : RowKit.Hid (w4.heap.size ≤ p4 ∧ p4 < x31.heap.size) := ⟨G4.out.1, by have := G4.out.2; omega⟩
        have T5n : RowKit.Hid (CqAt x31 p5 zeroM) := by show CqAt _ _ _; rw [hnew]; exact cq_other T5.out (by have := NE35.out; omega) _
        have G5n : RowKit.Hid (w4.heap.size ≤ p5 ∧ p5 < x31.heap.size) := ⟨G5.out.1, by have := G5.out.2; omega⟩
        clear T3 T4 T5 G3 G4 G5
        have T3 := T3n
        have G3 := G3n
        have T4 := T4n
        have G4 := G4n
        have T5 := T5n
        have G5 := G5n
        clear T3n T4n T5n G3n G4n G5n
        refine wpH_one (i := 8) (by kernel_rfl) (wpOp_skip (w' := x31) (by rfl) (wanted_none (by rfl) _) (exec_store (a := .pointer (some ⟨p3, 0, none⟩)) (v := kA.val) rfl (by go_simp) (by go_simp) hst) ⟨hS0, ?_⟩)
        (try simp only [Act.put, List.setIfInBounds_toArray, List.set_cons_zero, List.set_cons_succ])
        clear hnew hst hsz
        obtain ⟨x32, hnew⟩ : ∃ x, x = x31.setRow p4 kB.vals.toArray := ⟨_, rfl⟩
        have hst : (Instr.storeAt 42 (.pointer (some ⟨p4, 0, none⟩)) kB.val).run Tryz.prog x31 = .ok () x32 := by rw [hnew]; exact run_storeCl T4.out kB
        have hS0 : Keeps (fun _ => False) w4 x32 := by rw [hnew]; exact hS0.setRow' (by have := G4.out; omega) _
        have hsz : x32.heap.size = x31.heap.size := by rw [hnew]; simp [World.setRow]
        have T3n : RowKit.Hid (CqAt x32 p3 kA) := by show CqAt _ _ _; rw [hnew]; exact cq_other T3.out (by have := NE34.out; omega) _
        have G3n : RowKit.Hid (w4.heap.size ≤ p3 ∧ p3 < x32.heap.size) := ⟨G3.out.1, by have := G3.out.2; omega⟩
        have T4n : RowKit.Hid (CqAt x32 p4 kB) := by show CqAt _ _ _; rw [hnew]; exact T4.out.set kB
        have G4n : RowKit.Hid (w4.heap.size ≤ p4 ∧ p4 < x32.heap.size) := ⟨G4.out.1, by have := G4.out.2; omega⟩
        have T5n : RowKit.Hid (CqAt x32 p5 zeroM) := by show CqAt _ _ _; rw [hnew]; exact cq_other T5.out (by have := NE45.out; omega) _
        have G5n : RowKit.Hid (w4.heap.size ≤ p5 ∧ p5 < x32.heap.size) := ⟨G5.out.1, by have := G5.out.2; omega⟩
        clear T3 T4 T5 G3 G4 G5
        have T3 := T3n
        have G3 := G3n
        have T4 := T4n
        have G4 := G4n
        have T5 := T5n
        have G5 := G5n
        clear T3n T4n T5n G3n G4n G5n
        refine wpH_one (i := 9) (by kernel_rfl) (wpOp_skip (w' := x32) (by rfl) (wanted_none (by rfl) _) (exec_store (a := .pointer (some ⟨p4, 0, none⟩)) (v := kB.val) rfl (by go_simp) (by go_simp) hst) ⟨hS0, ?_⟩)
        (try simp only [Act.put, List.setIfInBounds_toArray, List.set_cons_zero, List.set_cons_succ])
        clear hnew hst hsz
        obtain ⟨x33, hnew⟩ : ∃ x, x = x32.setRow p5 blankC.vals.toArray := ⟨_, rfl⟩
        have hst : (Instr.storeAt 42 (.pointer (some ⟨p5, 0, none⟩)) blankC.val).run Tryz.prog x32 = .ok () x33 := by rw [hnew]; exact run_storeCl T5.out blankC
        have hS0 : Keeps (fun _ => False) w4 x33 := by rw [hnew]; exact hS0.setRow' (by have := G5.out; omega) _
        have hsz : x33.heap.size = x32.heap.size := by rw [hnew]; simp [World.setRow]
        have T3n : RowKit.Hid (CqAt x33 p3 kA) := by show CqAt _ _ _; rw [hnew]; exact cq_other T3.out (by have := NE35.out; omega) _
        have G3n : RowKit.Hid (w4.heap.size ≤ p3 ∧ p3 < x33.heap.size) := ⟨G3.out.1, by have := G3.out.2; omega⟩
        have T4n : RowKit.Hid (CqAt x33 p4 kB) := by show CqAt _ _ _; rw [hnew]; exact cq_other T4.out (by have := NE45.out; omega) _
        have G4n : RowKit.Hid (w4.heap.size ≤ p4 ∧ p4 < x33.heap.size) := ⟨G4.out.1, by have := G4.out.2; omega⟩
        have T5n : RowKit.Hid (CqAt x33 p5 blankC) := by show CqAt _ _ _; rw [hnew]; exact T5.out.set blankC
        have G5n : RowKit.Hid (w4.heap.size ≤ p5 ∧ p5 < x33.heap.size) := ⟨G5.out.1, by have := G5.out.2; omega⟩
        clear T3 T4 T5 G3 G4 G5
        have T3 := T3n
        have G3 := G3n
        have T4 := T4n
        have G4 := G4n
        have T5 := T5n
        have G5 := G5n
        clear T3n T4n T5n G3n G4n G5n
        refine wpH_one (i := 10) (by kernel_rfl) (wpOp_skip (w' := x33) (by rfl) (wanted_none (by rfl) _) (exec_store (a := .pointer (some ⟨p5, 0, none⟩)) (v := blankC.val) rfl (by go_simp) (by go_simp) hst) ⟨hS0, ?_⟩)
        (try simp only [Act.put, List.setIfInBounds_toArray, List.set_cons_zero, List.set_cons_succ])
        clear hnew hst hsz
        refine wpH_end (by kernel_rfl) ?_
        go_wp2_with fail
        go_meet
        exact ⟨p3, p4, p5, rfl, rfl, rfl, T3.out, T4.out, T5.out, hw4.trans (hS0.sees_end (fun _ _ h => h))⟩
  case rest =>
    obtain ⟨p3, p4, p5, rfl, rfl, rfl, A2, B2, C2, s2⟩ := hcut
    have P2 := P1.out.sees s2
    have Q2 := Q1.out.sees s2
    have S2 := S1.out.trans s2
    clear s2 P1 Q1 S1
    obtain ⟨g, hg⟩ : ∃ g, g = wc.heap.size := ⟨_, rfl⟩
    have hrow : ∀ W, Sees (wc.alloc (.cells (flat kL).toArray 42)) W → cellEl.Rd (fun _ => True) W (.slice (some ⟨g, 0, none⟩) 8 8) kL := fun W hs => kL_rd (hg ▸ heap_alloc_new wc _) hs
    have L4 : LnAt ((wc.alloc (.cells (flat kL).toArray 42)).alloc (.cells #[.slice (some ⟨g, 0, none⟩) 8 8, .bool false] 27)) (wc.alloc (.cells (flat kL).toArray 42)).heap.size (.slice (some ⟨g, 0, none⟩) 8 8) false := LnAt.new rfl
    have s3a : Sees wc (wc.alloc (.cells (flat kL).toArray 42)) := (Sees.refl wc).alloc _
    have s3b : Sees (wc.alloc (.cells (flat kL).toArray 42)) ((wc.alloc (.cells (flat kL).toArray 42)).alloc (.cells #[.slice (some ⟨g, 0, none⟩) 8 8, .bool false] 27)) := (Sees.refl _).alloc _
    have R4 := hrow _ s3b
    have s3 := s3a.trans s3b
    obtain ⟨b6, hb6⟩ : ∃ b6, b6 = (wc.alloc (.cells (flat kL).toArray 42)).heap.size := ⟨_, rfl⟩
    rw [← hb6] at L4
    have hgb : b6 = g + 1 := by rw [hb6, World.size_alloc, hg]
    have HG := Lib.hid hg
    have HB6 := Lib.hid hb6
    clear hrow s3a s3b hg hb6
    go_upto_region 4 with (first
      | (guard_target = wpList _ _ _ ({ dst := some 15, op := _, type := _, pos := _, after := _, guard := _ } :: _) _ _; refine wpList_val rfl (exec_load (v := kA.val) rfl rfl (run_loadCell A2.at')) (fun K hK => ?_); go_simp; refine hK _ _ ?_; clear hK K)
      | (guard_target = wpList _ _ _ ({ dst := some 16, op := _, type := _, pos := _, after := _, guard := _ } :: _) _ _; refine wpList_val rfl (exec_load (v := kB.val) rfl rfl (run_loadCell B2.at')) (fun K hK => ?_); go_simp; refine hK _ _ ?_; clear hK K)
      | (guard_target = wpList _ _ _ ({ dst := some 17, op := _, type := _, pos := _, after := _, guard := _ } :: _) _ _; refine wpList_val rfl (exec_load (v := blankC.val) rfl rfl (run_loadCell C2.at')) (fun K hK => ?_); go_simp; refine hK _ _ ?_; clear hK K)
      | (guard_target = wpList _ _ _ ({ dst := some 18, op := _, type := _, pos := _, after := _, guard := _ } :: _) _ _; refine wpList_val rfl (exec_load (v := kRed.pen) rfl rfl (run_loadPe Q2)) (fun K hK => ?_); go_simp; refine hK _ _ ?_; clear hK K)
      | (guard_target = wpList _ _ _ ({ dst := some 19, op := _, type := _, pos := _, after := _, guard := _ } :: _) _ _; refine wpList_val rfl (exec_buildL (vals := [(0, .int .i32 28450), (2, .int .i64 2), (3, kRed.pen)]) (v := kHan.val) rfl rfl (by kernel_rfl)) (fun K hK => ?_); go_simp; refine hK _ _ ?_; clear hK K)
      | (guard_target = wpList _ _ _ ({ dst := some 20, op := _, type := _, pos := _, after := _, guard := _ } :: _) _ _; refine wpList_val rfl (exec_load (v := kRed.pen) rfl rfl (run_loadPe Q2)) (fun K hK => ?_); go_simp; refine hK _ _ ?_; clear hK K)
      | (guard_target = wpList _ _ _ ({ dst := some 21, op := _, type := _, pos := _, after := _, guard := _ } :: _) _ _; refine wpList_val rfl (exec_buildL (vals := [(3, kRed.pen)]) (v := kSp.val) rfl rfl (by kernel_rfl)) (fun K hK => ?_); go_simp; refine hK _ _ ?_; clear hK K)
      | (guard_target = wpList _ _ _ ({ dst := some 22, op := _, type := _, pos := _, after := _, guard := _ } :: _) _ _; refine wpList_val rfl (exec_load (v := kRed.pen) rfl rfl (run_loadPe Q2)) (fun K hK => ?_); go_simp; refine hK _ _ ?_; clear hK K)
      | (guard_target = wpList _ _ _ ({ dst := some 23, op := _, type := _, pos := _, after := _, guard := _ } :: _) _ _; refine wpList_val rfl (exec_buildL (vals := [(2, .int .i64 1), (3, kRed.pen)]) (v := kBl.val) rfl rfl (by kernel_rfl)) (fun K hK => ?_); go_simp; refine hK _ _ ?_; clear hK K)
      | (guard_target = wpList _ _ _ ({ dst := some 24, op := _, type := _, pos := _, after := _, guard := _ } :: _) _ _; refine wpList_val rfl (exec_buildL (vals := [(0, .int .i32 91), (2, .int .i64 1)]) (v := kBr.val) rfl rfl (by kernel_rfl)) (fun K hK => ?_); go_simp; refine hK _ _ ?_; clear hK K)
      | (guard_target = wpList _ _ _ ({ dst := some 25, op := _, type := _, pos := _, after := _, guard := _ } :: _) _ _; refine wpList_val rfl (exec_load (v := blankC.val) rfl rfl (run_loadCell C2.at')) (fun K hK => ?_); go_simp; refine hK _ _ ?_; clear hK K)
      | (guard_target = wpList _ _ _ ({ dst := some 26, op := _, type := _, pos := _, after := _, guard := _ } :: _) _ _; refine wpList_val rfl (exec_sliceL (vals := [(0, kA.val), (1, kB.val), (2, blankC.val), (3, kHan.val), (4, kSp.val), (5, kBl.val), (6, kBr.val), (7, blankC.val)]) rfl rfl (slice_kL _)) (fun K hK => ?_); go_simp; refine hK _ _ ?_; clear hK K))
    refine wp_world fun W4 hW4 => ?_
    rw [← HG.out] at hW4 ⊢
    rw [← hgb]
    rw [← hW4] at L4 R4 s3
    have P4 := P2.sees s3
    have Q4 := Q2.sees s3
    have A4 := A2.sees s3
    have B4 := B2.sees s3
    have C4 := C2.sees s3
    have S4 := S2.trans s3
    clear hW4 HG HB6 hgb A2 B2 C2 P2 Q2 S2 s3
    go_wp2_with (first
      | (guard_target = wpList _ _ _ ({ dst := some 28, op := _, type := _, pos := _, after := _, guard := _ } :: _) _ _; refine wpList_val rfl (exec_load (v := .agg #[.slice (some ⟨g, 0, none⟩) 8 8, .bool false]) rfl rfl (run_loadLn L4)) (fun K hK => ?_); go_simp; refine hK _ _ ?_; clear hK K)
      | (guard_target = wpList _ _ _ ({ dst := some 29, op := _, type := _, pos := _, after := _, guard := _ } :: _) _ _; refine wpList_val rfl (exec_load (v := kBold.pen) rfl rfl (run_loadPe P4)) (fun K hK => ?_); go_simp; refine hK _ _ ?_; clear hK K)
      | (guard_target = wpList _ _ _ ({ dst := some 30, op := _, type := _, pos := _, after := _, guard := _ } :: _) _ _; refine wpList_val rfl (exec_buildL (vals := [(1, .int .i64 2), (2, .string ⟨#[97, 98]⟩), (3, kBold.pen)]) (v := kR0.val) rfl rfl (by kernel_rfl)) (fun K hK => ?_); go_simp; refine hK _ _ ?_; clear hK K)
      | (guard_target = wpList _ _ _ ({ dst := some 31, op := _, type := _, pos := _, after := _, guard := _ } :: _) _ _; refine wpList_val rfl (exec_buildL (vals := [(0, .int .i64 2), (1, .int .i64 1), (2, .string ⟨#[32]⟩)]) (v := kR1.val) rfl rfl (by kernel_rfl)) (fun K hK => ?_); go_simp; refine hK _ _ ?_; clear hK K)
      | (guard_target = wpList _ _ _ ({ dst := some 32, op := _, type := _, pos := _, after := _, guard := _ } :: _) _ _; refine wpList_val rfl (exec_load (v := kRed.pen) rfl rfl (run_loadPe Q4)) (fun K hK => ?_); go_simp; refine hK _ _ ?_; clear hK K)
      | (guard_target = wpList _ _ _ ({ dst := some 33, op := _, type := _, pos := _, after := _, guard := _ } :: _) _ _; refine wpList_val rfl (exec_buildL (vals := [(0, .int .i64 3), (1, .int .i64 3), (2, .string ⟨#[230, 188, 162, 32]⟩), (3, kRed.pen)]) (v := kR2.val) rfl rfl (by kernel_rfl)) (fun K hK => ?_); go_simp; refine hK _ _ ?_; clear hK K)
      | (guard_target = wpList _ _ _ ({ dst := some 34, op := _, type := _, pos := _, after := _, guard := _ } :: _) _ _; refine wpList_val rfl (exec_buildL (vals := [(0, .int .i64 6), (1, .int .i64 1), (2, .string ⟨#[91]⟩)]) (v := kR3.val) rfl rfl (by kernel_rfl)) (fun K hK => ?_); go_simp; refine hK _ _ ?_; clear hK K)
      | (guard_target = wpList _ _ _ ({ dst := some 35, op := _, type := _, pos := _, after := _, guard := _ } :: _) _ _; refine wpList_val rfl (exec_sliceL (vals := [(0, kR0.val), (1, kR1.val), (2, kR2.val), (3, kR3.val)]) rfl rfl (slice_kR _)) (fun K hK => ?_); go_simp; refine hK _ _ ?_; clear hK K))
    refine (KR.out W4 _ S4 R4).mono ?_
    rintro e W5 ⟨rfl, s5⟩
    have A5 := A4.sees s5
    have B5 := B4.sees s5
    have C5 := C4.sees s5
    have P5 := P4.sees s5
    have Q5 := Q4.sees s5
    have L5 := L4.sees s5
    have R5 := R4.sees s5
    have S5 := S4.trans s5
    clear A4 B4 C4 P4 Q4 L4 R4 S4 s5
    go_wp2_with (first
      | (guard_target = wpList _ _ _ ({ dst := some 39, op := _, type := _, pos := _, after := _, guard := _ } :: _) _ _; refine wpList_valG (by go_simp) (exec_load (v := kBold.pen) rfl rfl (run_loadPe P5)) (fun K hK => ?_); go_simp; refine hK _ _ ?_; clear hK K))
    refine (KT1.out _ S5).mono ?_
    rintro e W6 ⟨rfl, s6⟩
    have A6 := A5.sees s6
    have B6 := B5.sees s6
    have C6 := C5.sees s6
    have Q6 := Q5.sees s6
    have L6 := L5.sees s6
    have R6 := R5.sees s6
    have S6 := S5.trans s6
    clear A5 B5 C5 P5 Q5 L5 R5 S5 s6
    go_wp2_with (first
      | (guard_target = wpList _ _ _ ({ dst := some 44, op := _, type := _, pos := _, after := _, guard := _ } :: _) _ _; refine wpList_valG (by go_simp) (exec_load (v := kRed.pen) rfl rfl (run_loadPe Q6)) (fun K hK => ?_); go_simp; refine hK _ _ ?_; clear hK K))
    refine (KT2.out _ S6).mono ?_
    rintro e W7 ⟨rfl, s7⟩
    have A7 := A6.sees s7
    have B7 := B6.sees s7
    have C7 := C6.sees s7
    have L7 := L6.sees s7
    have R7 := R6.sees s7
    have S7 := S6.trans s7
    clear A6 B6 C6 Q6 L6 R6 S6 s7
    go_wp2_with (first
      | (guard_target = wpList _ _ _ ({ dst := some 49, op := _, type := _, pos := _, after := _, guard := _ } :: _) _ _; refine wpList_valG (by go_simp) (exec_buildL (vals := []) (v := zeroM.pen) rfl rfl (by kernel_rfl)) (fun K hK => ?_); go_simp; refine hK _ _ ?_; clear hK K))
    refine (KT3.out _ S7).mono ?_
    rintro e W8 ⟨rfl, s8⟩
    have A8 := A7.sees s8
    have B8 := B7.sees s8
    have C8 := C7.sees s8
    have L8 := L7.sees s8
    have R8 := R7.sees s8
    have S8 := S7.trans s8
    clear A7 B7 C7 L7 R7 S7 s8
    go_wp2_with (first
      | (guard_target = wpList _ _ _ ({ dst := some 53, op := _, type := _, pos := _, after := _, guard := _ } :: _) _ _; refine wpList_val rfl (exec_load (v := .agg #[.slice (some ⟨g, 0, none⟩) 8 8, .bool false]) rfl rfl (run_loadLn L8)) (fun K hK => ?_); go_simp; refine hK _ _ ?_; clear hK K))
    refine (KM1.out _ _ S8 R8).mono ?_
    rintro e W9 ⟨rfl, s9⟩
    have A9 := A8.sees s9
    have B9 := B8.sees s9
    have C9 := C8.sees s9
    have S9 := S8.trans s9
    clear A8 B8 C8 L8 R8 S8 s9
    go_wp2_with (first
      | (guard_target = wpList _ _ _ ({ dst := some 57, op := _, type := _, pos := _, after := _, guard := _ } :: _) _ _; refine wpList_valG (by go_simp) (exec_load (v := blankC.val) rfl rfl (run_loadCell C9.at')) (fun K hK => ?_); go_simp; refine hK _ _ ?_; clear hK K)
      | (guard_target = wpList _ _ _ ({ dst := some 58, op := _, type := _, pos := _, after := _, guard := _ } :: _) _ _; refine wpList_valG (by go_simp) (exec_sliceL (vals := [(0, blankC.val)]) rfl rfl (run_buildOne blankC _)) (fun K hK => ?_); go_simp; refine hK _ _ ?_; clear hK K))
    refine (KM2.out _ S9).mono ?_
    rintro e W10 ⟨rfl, s10⟩
    have A10 := A9.sees s10
    have B10 := B9.sees s10
    have C10 := C9.sees s10
    have S10 := S9.trans s10
    clear A9 B9 C9 S9 s10
    go_wp2_with (first
      | (guard_target = wpList _ _ _ ({ dst := some 64, op := _, type := _, pos := _, after := _, guard := _ } :: _) _ _; refine wpList_valG (by go_simp) (exec_load (v := blankC.val) rfl rfl (run_loadCell C10.at')) (fun K hK => ?_); go_simp; refine hK _ _ ?_; clear hK K)
      | (guard_target = wpList _ _ _ ({ dst := some 65, op := _, type := _, pos := _, after := _, guard := _ } :: _) _ _; refine wpList_valG (by go_simp) (exec_sliceL (vals := [(0, blankC.val)]) rfl rfl (run_buildOne blankC _)) (fun K hK => ?_); go_simp; refine hK _ _ ?_; clear hK K))
    refine (KM3.out _ S10).mono ?_
    rintro e W11 ⟨rfl, s11⟩
    have A11 := A10.sees s11
    have B11 := B10.sees s11
    have C11 := C10.sees s11
    have S11 := S10.trans s11
    clear A10 B10 C10 S10 s11
    go_wp2_with (first
      | (guard_target = wpList _ _ _ ({ dst := some 70, op := _, type := _, pos := _, after := _, guard := _ } :: _) _ _; refine wpList_val rfl (exec_load (v := kA.val) rfl rfl (run_loadCell A11.at')) (fun K hK => ?_); go_simp; refine hK _ _ ?_; clear hK K)
      | (guard_target = wpList _ _ _ ({ dst := some 71, op := _, type := _, pos := _, after := _, guard := _ } :: _) _ _; refine wpList_val rfl (exec_load (v := kB.val) rfl rfl (run_loadCell B11.at')) (fun K hK => ?_); go_simp; refine hK _ _ ?_; clear hK K)
      | (guard_target = wpList _ _ _ ({ dst := some 72, op := _, type := _, pos := _, after := _, guard := _ } :: _) _ _; refine wpList_val rfl (exec_load (v := blankC.val) rfl rfl (run_loadCell C11.at')) (fun K hK => ?_); go_simp; refine hK _ _ ?_; clear hK K)
      | (guard_target = wpList _ _ _ ({ dst := some 73, op := _, type := _, pos := _, after := _, guard := _ } :: _) _ _; refine wpList_val rfl (exec_sliceL (vals := [(0, kA.val), (1, kB.val), (2, blankC.val)]) rfl rfl (slice_k3 _)) (fun K hK => ?_); go_simp; refine hK _ _ ?_; clear hK K))
    refine (KD1.out _ S11).mono ?_
    rintro e W12 ⟨rfl, s12⟩
    have S12 := S11.trans s12
    clear A11 B11 C11 S11 s12
    go_wp2_with fail
    refine (KD2.out _ S12).mono ?_
    rintro e W13 ⟨rfl, s13⟩
    have S13 := S12.trans s13
    clear  S12 s13
    go_wp2_with fail
    refine (KD3.out _ S13).mono ?_
    rintro e W14 ⟨rfl, s14⟩
    have S14 := S13.trans s14
    clear  S13 s14
    go_wp2_with fail
    refine (KD4.out _ S14).mono ?_
    rintro e W15 ⟨rfl, s15⟩
    have S15 := S14.trans s15
    clear  S14 s15
    go_wp2_with fail
    refine (KD5.out _ S15).mono ?_
    rintro e W16 ⟨rfl, s16⟩
    have S16 := S15.trans s16
    clear  S15 s16
    go_wp2_with fail
    refine (KD6.out _ S16).mono ?_
    rintro e W17 ⟨rfl, s17⟩
    have S17 := S16.trans s17
    clear  S16 s17
    go_wp2
    go_ret
    exact ⟨rfl, S17⟩
end Go.Proofs.YthcndmchlpohpaaGreatDoor
