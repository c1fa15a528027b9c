/- Rows of cells: comparing them, testing them. The tables hold what the program's text lays. The program's test of a row of cells. The tables hold what the program's text lays. The reference's test of a row of cells answers as the program's does. The tables hold what the program's text lays. No condition. -/
import Derived.Test.YthcndmchlpohpaaGreatDoorOps
namespace Go.Proofs.YthcndmchlpohpaaGreatDoor
set_option linter.unusedVariables false
set_option linter.unusedSimpArgs false
open Go.RowKit

theorem take_more {α : Type} {xs ys : List α} {k : Nat} {c : α} (h : xs.take k = ys.take k) (h1 : xs[k]? = some c) (h2 : ys[k]? = some c) : xs.take (k + 1) = ys.take (k + 1) := by
  rw [List.take_add_one, List.take_add_one, h, h1, h2]

end Go.Proofs.YthcndmchlpohpaaGreatDoor

namespace Go.Proofs.YthcndmchlpohpaaGreatDoor
set_option linter.unusedVariables false
set_option linter.unusedSimpArgs false
open Go.RowKit

/-- Is a cell wrong at its place? 'behind': it stands behind a wide one; 'pd': with another pen; 'last': it is the last one. -/
def cellBad (behind pd last : Bool) (c : Cell) : Bool := !c.valid || ((c.width == 0) != behind) || (behind && pd) || (c.width == 2 && last)
def behindAt (xs : List Cell) : Nat → Bool
  | 0 => false
  | m + 1 => match xs[m]? with | some p => p.width == 2 | none => false
def penAt (xs : List Cell) : Nat → Bool
  | 0 => false
  | m + 1 => match xs[m]?, xs[m + 1]? with | some p, some c => !penEq c p | _, _ => false
def rowBad (xs : List Cell) (k : Nat) : Bool := match xs[k]? with | some c => cellBad (behindAt xs k) (penAt xs k) (k + 1 == xs.length) c | none => false
/-- Are cells a row? -/
def rowOk (xs : List Cell) : Bool := (List.range xs.length).all fun k => !rowBad xs k

theorem rowOk_bad {xs : List Cell} {k : Nat} (hk : k < xs.length) (h : rowBad xs k = true) : rowOk xs = false := by
  unfold rowOk
  rw [List.all_eq_false]
  exact ⟨k, List.mem_range.2 hk, by simp [h]⟩
theorem rowOk_all {xs : List Cell} (h : ∀ k, k < xs.length → rowBad xs k = false) : rowOk xs = true := by
  unfold rowOk
  rw [List.all_eq_true]
  intro k hk
  rw [h k (List.mem_range.1 hk)]; rfl
theorem bad_at0 {xs : List Cell} {c : Cell} {n : Nat} (hn : n = xs.length) (hc : xs[0]? = some c) : rowBad xs 0 = cellBad false false (0 + 1 == n) c := by
  unfold rowBad; rw [hc, hn]; rfl
theorem bad_atS {xs : List Cell} {c p : Cell} {m n : Nat} (hn : n = xs.length) (hc : xs[m + 1]? = some c) (hp : xs[m]? = some p) : rowBad xs (m + 1) = cellBad (p.width == 2) (!penEq c p) (m + 1 + 1 == n) c := by
  unfold rowBad behindAt penAt; simp only [hc, hp, hn]
theorem upTo_succ {xs : List Cell} {k : Nat} (h : ∀ j, j < k → rowBad xs j = false) (hk : rowBad xs k = false) : ∀ j, j < k + 1 → rowBad xs j = false := fun j hj => by
  rcases Nat.lt_or_eq_of_le (Nat.le_of_lt_succ hj) with h1 | rfl
  · exact h j h1
  · exact hk


theorem box_width {w W : World} {c : Cell} {t : TypeId} (hW : Sees (w.alloc (.cells c.vals.toArray t)) W) : W.cell? ⟨w.heap.size, 4, none⟩ = some (.int .i64 c.width) := by
  have := (((cellAt_new w c t).sees hW).all).2.2.2.2.1
  simpa using this


set_option maxRecDepth 100000 in
set_option maxHeartbeats 4000000 in
theorem row_any (v : Value) (xs : List Cell) (w : World) (ht : Tabs w) (ha : RdCells w v xs) (hn : xs.length ≤ 1000000) :
    Calls Tryz.prog 24 #[v] w fun e w' => e = .returned (.bool (rowOk xs)) ∧ Sees w w' := by
  obtain ⟨ao, ca, rfl, ha⟩ := ha
  obtain ⟨n, hna⟩ : ∃ n, n = xs.length := ⟨_, rfl⟩
  rw [← hna]
  rw [← hna] at hn
  have Hna := Lib.hid hna
  have Ha := Lib.hid ha
  have Ht := Lib.hid ht
  clear hna ha ht
  go_enter Tryz.func24, Tryz.ntmps24
  go_wp2
  go_loopw [8] (fun i wr => ∃ k : Nat, k ≤ n ∧ i = .int .i64 k ∧ (∀ j, j < k → rowBad xs j = false) ∧ Sees w wr) (fun i _ => n - (intOf i).toNat)
  case atStart => exact ⟨0, by omega, rfl, (fun j hj => by omega), Sees.refl _⟩
  case round =>
    obtain ⟨k, hk, rfl, hm, hS⟩ := hrel
    have Hm := Lib.hid hm; clear hm
    by_cases hlt : k < n
    · obtain ⟨b, o, c, rfl, hc, hca⟩ := RdCells.at Ha.out Hna.out hlt
      have F := Lib.hid (fun (W : World) (hW : Sees w W) => (hca k c hc).sees hW)
      have hbl : b < wr.heap.size := block_lt_of_cell ((F.out wr hS) 0 _ rfl)
      have hv := cellValid_any c
      rcases k with _ | m
      · have hR := bad_at0 Hna.out hc
        clear hca Ha hc
        rcases (show c.valid = false ∨ c.valid = true by cases c.valid <;> simp) with hval | hval
        · rw [hval] at hv
          have HV := Lib.hid hv; clear hv
          have Hr : Hid (rowOk xs = false) := rowOk_bad (k := 0) (by have := Hna.out; omega) (by rw [hR]; simp [cellBad, hval])
          clear hval hR
          go_wp2_with (first | (refine wpList_val rfl (exec_load rfl rfl (run_loadCell (F.out wr hS))) (fun K hK => ?_); go_simp; refine hK _ _ ?_; clear hK K) | (refine wpList_skip rfl (exec_store rfl rfl rfl (run_storeNew c _ rfl _ rfl)) (fun K hK => ?_); go_simp; refine hK _ _ ?_; clear hK K))
          refine wp_world fun w1 hw1 => ?_
          have hS1 : Hid (Sees w w1) := by rw [hw1]; exact hS.alloc _
          have C1 : Hid (CellAt w1 wr.heap.size 0 c) := by rw [hw1]; exact cellAt_new wr c _
          have gw : ∀ d os, (Sort.grow (redrawn w1 d) os).cell? ⟨wr.heap.size, 4, none⟩ = some (.int .i64 c.width) := fun d os => by simpa using (C1.out.sees (sees_grow w1 d os)).all.2.2.2.2.1
          clear hw1
          refine wp_region_quiet_below (by kernel_rfl) (by kernel_rfl) ?_
          repeat (first | go_big_quiet_skip | (go_big_quiet_want; go_big_quiet_op; go_big_quiet_on))
          go_big_quiet_want; refine quiet_run (c).val (fun W hW => exec_load rfl rfl (run_loadCell (C1.out.sees (regrown_sees hW)))) ?_; simp only [Act.put, List.setIfInBounds_toArray, List.set_cons_zero, List.set_cons_succ]; go_big_quiet_on
          go_big_quiet_want; go_big_quiet_op; apply Exists.intro; refine ⟨fun p => Calls.regrown_of (HV.out _ (Ht.out.sees (hS1.out.trans (sees_grow w1 _ _)))), ?_⟩; go_big_quiet_on
          repeat (first | go_big_quiet_skip | (go_big_quiet_want; go_big_quiet_op; go_big_quiet_on))
          refine wpQuiet_nil ?_; intro w2 hw2'; have hw2 := regrown_sees hw2'; clear hw2'
          go_wp2
          go_ret
          exact ⟨by rw [Hr.out]; rfl, hS1.out.trans hw2⟩
        rw [hval] at hv
        have HV := Lib.hid hv; clear hv
        rcases (show (c.width == 0) = true ∨ (c.width == 0) = false by cases (c.width == 0) <;> simp) with e0 | e0
        · have Hr : Hid (rowOk xs = false) := rowOk_bad (k := 0) (by have := Hna.out; omega) (by rw [hR]; simp [cellBad, hval, e0])
          clear hval hR
          go_wp2_with (first | (refine wpList_val rfl (exec_load rfl rfl (run_loadCell (F.out wr hS))) (fun K hK => ?_); go_simp; refine hK _ _ ?_; clear hK K) | (refine wpList_skip rfl (exec_store rfl rfl rfl (run_storeNew c _ rfl _ rfl)) (fun K hK => ?_); go_simp; refine hK _ _ ?_; clear hK K))
          refine wp_world fun w1 hw1 => ?_
          have hS1 : Hid (Sees w w1) := by rw [hw1]; exact hS.alloc _
          have C1 : Hid (CellAt w1 wr.heap.size 0 c) := by rw [hw1]; exact cellAt_new wr c _
          have gw : ∀ d os, (Sort.grow (redrawn w1 d) os).cell? ⟨wr.heap.size, 4, none⟩ = some (.int .i64 c.width) := fun d os => by simpa using (C1.out.sees (sees_grow w1 d os)).all.2.2.2.2.1
          clear hw1
          refine wp_region_quiet_below (by kernel_rfl) (by kernel_rfl) ?_
          repeat (first | go_big_quiet_skip | (go_big_quiet_want; go_big_quiet_op; go_big_quiet_on))
          go_big_quiet_want; refine quiet_run (c).val (fun W hW => exec_load rfl rfl (run_loadCell (C1.out.sees (regrown_sees hW)))) ?_; simp only [Act.put, List.setIfInBounds_toArray, List.set_cons_zero, List.set_cons_succ]; go_big_quiet_on
          go_big_quiet_want; go_big_quiet_op; apply Exists.intro; refine ⟨fun p => Calls.regrown_of (HV.out _ (Ht.out.sees (hS1.out.trans (sees_grow w1 _ _)))), ?_⟩; go_big_quiet_on
          repeat (first | go_big_quiet_skip | (go_big_quiet_want; go_big_quiet_op; go_big_quiet_on))
          refine wpQuiet_nil ?_; intro w2 hw2'; have hw2 := regrown_sees hw2'; clear hw2'
          go_wp2
          go_ret
          exact ⟨by rw [Hr.out]; rfl, hS1.out.trans hw2⟩
        rcases (show (c.width == 2) = true ∨ (c.width == 2) = false by cases (c.width == 2) <;> simp) with e2 | e2
        · rcases (show n = 1 ∨ 2 ≤ n by omega) with hl | hl
          · have Hr : Hid (rowOk xs = false) := rowOk_bad (k := 0) (by have := Hna.out; omega) (by rw [hR]; simp [cellBad, hval, e0, e2, hl])
            clear hval hR
            subst hl
            go_wp2_with (first | (refine wpList_val rfl (exec_load rfl rfl (run_loadCell (F.out wr hS))) (fun K hK => ?_); go_simp; refine hK _ _ ?_; clear hK K) | (refine wpList_skip rfl (exec_store rfl rfl rfl (run_storeNew c _ rfl _ rfl)) (fun K hK => ?_); go_simp; refine hK _ _ ?_; clear hK K))
            refine wp_world fun w1 hw1 => ?_
            have hS1 : Hid (Sees w w1) := by rw [hw1]; exact hS.alloc _
            have C1 : Hid (CellAt w1 wr.heap.size 0 c) := by rw [hw1]; exact cellAt_new wr c _
            have gw : ∀ d os, (Sort.grow (redrawn w1 d) os).cell? ⟨wr.heap.size, 4, none⟩ = some (.int .i64 c.width) := fun d os => by simpa using (C1.out.sees (sees_grow w1 d os)).all.2.2.2.2.1
            clear hw1
            refine wp_region_quiet_below (by kernel_rfl) (by kernel_rfl) ?_
            repeat (first | go_big_quiet_skip | (go_big_quiet_want; go_big_quiet_op; go_big_quiet_on))
            go_big_quiet_want; refine quiet_run (c).val (fun W hW => exec_load rfl rfl (run_loadCell (C1.out.sees (regrown_sees hW)))) ?_; simp only [Act.put, List.setIfInBounds_toArray, List.set_cons_zero, List.set_cons_succ]; go_big_quiet_on
            go_big_quiet_want; go_big_quiet_op; apply Exists.intro; refine ⟨fun p => Calls.regrown_of (HV.out _ (Ht.out.sees (hS1.out.trans (sees_grow w1 _ _)))), ?_⟩; go_big_quiet_on
            repeat (first | go_big_quiet_skip | (go_big_quiet_want; go_big_quiet_op; go_big_quiet_on))
            refine wpQuiet_nil ?_; intro w2 hw2'; have hw2 := regrown_sees hw2'; clear hw2'
            go_wp2
            go_ret
            exact ⟨by rw [Hr.out]; rfl, hS1.out.trans hw2⟩
          · have Hr : Hid (rowBad xs 0 = false) := by unfold Hid; rw [hR]; simp [cellBad, hval, e0]; omega
            clear hval hR
            go_wp2_with (first | (refine wpList_val rfl (exec_load rfl rfl (run_loadCell (F.out wr hS))) (fun K hK => ?_); go_simp; refine hK _ _ ?_; clear hK K) | (refine wpList_skip rfl (exec_store rfl rfl rfl (run_storeNew c _ rfl _ rfl)) (fun K hK => ?_); go_simp; refine hK _ _ ?_; clear hK K))
            refine wp_world fun w1 hw1 => ?_
            have hS1 : Hid (Sees w w1) := by rw [hw1]; exact hS.alloc _
            have C1 : Hid (CellAt w1 wr.heap.size 0 c) := by rw [hw1]; exact cellAt_new wr c _
            have gw : ∀ d os, (Sort.grow (redrawn w1 d) os).cell? ⟨wr.heap.size, 4, none⟩ = some (.int .i64 c.width) := fun d os => by simpa using (C1.out.sees (sees_grow w1 d os)).all.2.2.2.2.1
            clear hw1
            refine wp_region_quiet_below (by kernel_rfl) (by kernel_rfl) ?_
            repeat (first | go_big_quiet_skip | (go_big_quiet_want; go_big_quiet_op; go_big_quiet_on))
            go_big_quiet_want; refine quiet_run (c).val (fun W hW => exec_load rfl rfl (run_loadCell (C1.out.sees (regrown_sees hW)))) ?_; simp only [Act.put, List.setIfInBounds_toArray, List.set_cons_zero, List.set_cons_succ]; go_big_quiet_on
            go_big_quiet_want; go_big_quiet_op; apply Exists.intro; refine ⟨fun p => Calls.regrown_of (HV.out _ (Ht.out.sees (hS1.out.trans (sees_grow w1 _ _)))), ?_⟩; go_big_quiet_on
            repeat (first | go_big_quiet_skip | (go_big_quiet_want; go_big_quiet_op; go_big_quiet_on))
            refine wpQuiet_nil ?_; intro w2 hw2'; have hw2 := regrown_sees hw2'; clear hw2'
            go_wp2
            go_roundw
            case rel => exact ⟨0 + 1, by omega, by go_num, upTo_succ Hm.out Hr.out, hS1.out.trans hw2⟩
            case measure => simp [intOf]; omega
        · have Hr : Hid (rowBad xs 0 = false) := by unfold Hid; rw [hR]; simp [cellBad, hval, e0, e2]
          clear hval hR
          go_wp2_with (first | (refine wpList_val rfl (exec_load rfl rfl (run_loadCell (F.out wr hS))) (fun K hK => ?_); go_simp; refine hK _ _ ?_; clear hK K) | (refine wpList_skip rfl (exec_store rfl rfl rfl (run_storeNew c _ rfl _ rfl)) (fun K hK => ?_); go_simp; refine hK _ _ ?_; clear hK K))
          refine wp_world fun w1 hw1 => ?_
          have hS1 : Hid (Sees w w1) := by rw [hw1]; exact hS.alloc _
          have C1 : Hid (CellAt w1 wr.heap.size 0 c) := by rw [hw1]; exact cellAt_new wr c _
          have gw : ∀ d os, (Sort.grow (redrawn w1 d) os).cell? ⟨wr.heap.size, 4, none⟩ = some (.int .i64 c.width) := fun d os => by simpa using (C1.out.sees (sees_grow w1 d os)).all.2.2.2.2.1
          clear hw1
          refine wp_region_quiet_below (by kernel_rfl) (by kernel_rfl) ?_
          repeat (first | go_big_quiet_skip | (go_big_quiet_want; go_big_quiet_op; go_big_quiet_on))
          go_big_quiet_want; refine quiet_run (c).val (fun W hW => exec_load rfl rfl (run_loadCell (C1.out.sees (regrown_sees hW)))) ?_; simp only [Act.put, List.setIfInBounds_toArray, List.set_cons_zero, List.set_cons_succ]; go_big_quiet_on
          go_big_quiet_want; go_big_quiet_op; apply Exists.intro; refine ⟨fun p => Calls.regrown_of (HV.out _ (Ht.out.sees (hS1.out.trans (sees_grow w1 _ _)))), ?_⟩; go_big_quiet_on
          repeat (first | go_big_quiet_skip | (go_big_quiet_want; go_big_quiet_op; go_big_quiet_on))
          refine wpQuiet_nil ?_; intro w2 hw2'; have hw2 := regrown_sees hw2'; clear hw2'
          go_wp2
          go_roundw
          case rel => exact ⟨0 + 1, by omega, by go_num, upTo_succ Hm.out Hr.out, hS1.out.trans hw2⟩
          case measure => simp [intOf]; omega
      · obtain ⟨p, hp⟩ : ∃ p, xs[m]? = some p := ⟨_, List.getElem?_eq_getElem (by have := Hna.out; omega)⟩
        have FP := Lib.hid (fun (W : World) (hW : Sees w W) => (hca m p hp).sees hW)
        have hR := bad_atS Hna.out hc hp
        have hpw : wr.cell? ⟨b, o + m * 16 + 4, none⟩ = some (.int .i64 p.width) := (FP.out wr hS).all.2.2.2.2.1
        clear hca Ha hc hp
        rcases (show (p.width == 2) = true ∨ (p.width == 2) = false by cases (p.width == 2) <;> simp) with eb | eb
        · skip
          rcases (show c.valid = false ∨ c.valid = true by cases c.valid <;> simp) with hval | hval
          · rw [hval] at hv
            have HV := Lib.hid hv; clear hv
            have Hr : Hid (rowOk xs = false) := rowOk_bad (k := m + 1) (by have := Hna.out; omega) (by rw [hR]; simp [cellBad, hval])
            clear hval hR
            go_wp2_with (first | (refine wpList_val rfl (exec_load rfl rfl (run_loadCell (F.out wr hS))) (fun K hK => ?_); go_simp; refine hK _ _ ?_; clear hK K) | (refine wpList_skip rfl (exec_store rfl rfl rfl (run_storeNew c _ rfl _ rfl)) (fun K hK => ?_); go_simp; refine hK _ _ ?_; clear hK K))
            refine wp_world fun w1 hw1 => ?_
            have hS1 : Hid (Sees w w1) := by rw [hw1]; exact hS.alloc _
            have C1 : Hid (CellAt w1 wr.heap.size 0 c) := by rw [hw1]; exact cellAt_new wr c _
            have gw : ∀ d os, (Sort.grow (redrawn w1 d) os).cell? ⟨wr.heap.size, 4, none⟩ = some (.int .i64 c.width) := fun d os => by simpa using (C1.out.sees (sees_grow w1 d os)).all.2.2.2.2.1
            clear hw1
            refine wp_region_quiet_below (by kernel_rfl) (by kernel_rfl) ?_
            repeat (first | go_big_quiet_skip | (go_big_quiet_want; go_big_quiet_op; go_big_quiet_on))
            go_big_quiet_want; refine quiet_run (c).val (fun W hW => exec_load rfl rfl (run_loadCell (C1.out.sees (regrown_sees hW)))) ?_; simp only [Act.put, List.setIfInBounds_toArray, List.set_cons_zero, List.set_cons_succ]; go_big_quiet_on
            go_big_quiet_want; go_big_quiet_op; apply Exists.intro; refine ⟨fun p => Calls.regrown_of (HV.out _ (Ht.out.sees (hS1.out.trans (sees_grow w1 _ _)))), ?_⟩; go_big_quiet_on
            repeat (first | go_big_quiet_skip | (go_big_quiet_want; go_big_quiet_op; go_big_quiet_on))
            refine wpQuiet_nil ?_; intro w2 hw2'; have hw2 := regrown_sees hw2'; clear hw2'
            go_wp2
            go_ret
            exact ⟨by rw [Hr.out]; rfl, hS1.out.trans hw2⟩
          rw [hval] at hv
          have HV := Lib.hid hv; clear hv
          rcases (show (c.width == 0) = true ∨ (c.width == 0) = false by cases (c.width == 0) <;> simp) with e0 | e0
          · have e2 : (c.width == 2) = false := by simp at e0 ⊢; omega
            rcases (show penEq c p = true ∨ penEq c p = false by cases penEq c p <;> simp) with ep | ep
            · have Hr : Hid (rowBad xs (m + 1) = false) := by unfold Hid; rw [hR]; simp [cellBad, hval, e0, e2, ep, eb]
              clear hval hR
              go_wp2_with (first | (refine wpList_val rfl (exec_load rfl rfl (run_loadCell (F.out wr hS))) (fun K hK => ?_); go_simp; refine hK _ _ ?_; clear hK K) | (refine wpList_skip rfl (exec_store rfl rfl rfl (run_storeNew c _ rfl _ rfl)) (fun K hK => ?_); go_simp; refine hK _ _ ?_; clear hK K))
              refine wp_world fun w1 hw1 => ?_
              have hS1 : Hid (Sees w w1) := by rw [hw1]; exact hS.alloc _
              have C1 : Hid (CellAt w1 wr.heap.size 0 c) := by rw [hw1]; exact cellAt_new wr c _
              have gw : ∀ d os, (Sort.grow (redrawn w1 d) os).cell? ⟨wr.heap.size, 4, none⟩ = some (.int .i64 c.width) := fun d os => by simpa using (C1.out.sees (sees_grow w1 d os)).all.2.2.2.2.1
              clear hw1
              refine wp_region_quiet_below (by kernel_rfl) (by kernel_rfl) ?_
              repeat (first | go_big_quiet_skip | (go_big_quiet_want; go_big_quiet_op; go_big_quiet_on))
              go_big_quiet_want; refine quiet_run (c).val (fun W hW => exec_load rfl rfl (run_loadCell (C1.out.sees (regrown_sees hW)))) ?_; simp only [Act.put, List.setIfInBounds_toArray, List.set_cons_zero, List.set_cons_succ]; go_big_quiet_on
              go_big_quiet_want; go_big_quiet_op; apply Exists.intro; refine ⟨fun p => Calls.regrown_of (HV.out _ (Ht.out.sees (hS1.out.trans (sees_grow w1 _ _)))), ?_⟩; go_big_quiet_on
              repeat (first | go_big_quiet_skip | (go_big_quiet_want; go_big_quiet_op; go_big_quiet_on))
              go_big_quiet_want; refine quiet_run (c).pen (fun W hW => exec_load rfl rfl (run_loadPen (C1.out.sees (regrown_sees hW)))) ?_; simp only [Act.put, List.setIfInBounds_toArray, List.set_cons_zero, List.set_cons_succ]; go_big_quiet_on
              repeat (first | go_big_quiet_skip | (go_big_quiet_want; go_big_quiet_op; go_big_quiet_on))
              go_big_quiet_want; refine quiet_run (p).pen (fun W hW => exec_load rfl rfl (run_loadPen (FP.out W (hS1.out.trans (regrown_sees hW))))) ?_; simp only [Act.put, List.setIfInBounds_toArray, List.set_cons_zero, List.set_cons_succ]; go_big_quiet_on
              go_big_quiet_want; refine quiet_run (.bool (!penEq c p)) (fun W hW => exec_bin rfl rfl rfl (guard_neqPen _ _ c p W) (run_neqPen c p W)) ?_; simp only [Act.put, List.setIfInBounds_toArray, List.set_cons_zero, List.set_cons_succ]; go_big_quiet_on
              repeat (first | go_big_quiet_skip | (go_big_quiet_want; go_big_quiet_op; go_big_quiet_on))
              refine wpQuiet_nil ?_; intro w2 hw2'; have hw2 := regrown_sees hw2'; clear hw2'
              go_wp2
              go_roundw
              case rel => exact ⟨(m + 1) + 1, by omega, by go_num, upTo_succ Hm.out Hr.out, hS1.out.trans hw2⟩
              case measure => simp [intOf]; omega
            · have Hr : Hid (rowOk xs = false) := rowOk_bad (k := m + 1) (by have := Hna.out; omega) (by rw [hR]; simp [cellBad, hval, e0, e2, ep, eb])
              clear hval hR
              go_wp2_with (first | (refine wpList_val rfl (exec_load rfl rfl (run_loadCell (F.out wr hS))) (fun K hK => ?_); go_simp; refine hK _ _ ?_; clear hK K) | (refine wpList_skip rfl (exec_store rfl rfl rfl (run_storeNew c _ rfl _ rfl)) (fun K hK => ?_); go_simp; refine hK _ _ ?_; clear hK K))
              refine wp_world fun w1 hw1 => ?_
              have hS1 : Hid (Sees w w1) := by rw [hw1]; exact hS.alloc _
              have C1 : Hid (CellAt w1 wr.heap.size 0 c) := by rw [hw1]; exact cellAt_new wr c _
              have gw : ∀ d os, (Sort.grow (redrawn w1 d) os).cell? ⟨wr.heap.size, 4, none⟩ = some (.int .i64 c.width) := fun d os => by simpa using (C1.out.sees (sees_grow w1 d os)).all.2.2.2.2.1
              clear hw1
              refine wp_region_quiet_below (by kernel_rfl) (by kernel_rfl) ?_
              repeat (first | go_big_quiet_skip | (go_big_quiet_want; go_big_quiet_op; go_big_quiet_on))
              go_big_quiet_want; refine quiet_run (c).val (fun W hW => exec_load rfl rfl (run_loadCell (C1.out.sees (regrown_sees hW)))) ?_; simp only [Act.put, List.setIfInBounds_toArray, List.set_cons_zero, List.set_cons_succ]; go_big_quiet_on
              go_big_quiet_want; go_big_quiet_op; apply Exists.intro; refine ⟨fun p => Calls.regrown_of (HV.out _ (Ht.out.sees (hS1.out.trans (sees_grow w1 _ _)))), ?_⟩; go_big_quiet_on
              repeat (first | go_big_quiet_skip | (go_big_quiet_want; go_big_quiet_op; go_big_quiet_on))
              go_big_quiet_want; refine quiet_run (c).pen (fun W hW => exec_load rfl rfl (run_loadPen (C1.out.sees (regrown_sees hW)))) ?_; simp only [Act.put, List.setIfInBounds_toArray, List.set_cons_zero, List.set_cons_succ]; go_big_quiet_on
              repeat (first | go_big_quiet_skip | (go_big_quiet_want; go_big_quiet_op; go_big_quiet_on))
              go_big_quiet_want; refine quiet_run (p).pen (fun W hW => exec_load rfl rfl (run_loadPen (FP.out W (hS1.out.trans (regrown_sees hW))))) ?_; simp only [Act.put, List.setIfInBounds_toArray, List.set_cons_zero, List.set_cons_succ]; go_big_quiet_on
              go_big_quiet_want; refine quiet_run (.bool (!penEq c p)) (fun W hW => exec_bin rfl rfl rfl (guard_neqPen _ _ c p W) (run_neqPen c p W)) ?_; simp only [Act.put, List.setIfInBounds_toArray, List.set_cons_zero, List.set_cons_succ]; go_big_quiet_on
              repeat (first | go_big_quiet_skip | (go_big_quiet_want; go_big_quiet_op; go_big_quiet_on))
              refine wpQuiet_nil ?_; intro w2 hw2'; have hw2 := regrown_sees hw2'; clear hw2'
              go_wp2
              go_ret
              exact ⟨by rw [Hr.out]; rfl, hS1.out.trans hw2⟩
          · have Hr : Hid (rowOk xs = false) := rowOk_bad (k := m + 1) (by have := Hna.out; omega) (by rw [hR]; simp [cellBad, hval, e0, eb])
            clear hval hR
            go_wp2_with (first | (refine wpList_val rfl (exec_load rfl rfl (run_loadCell (F.out wr hS))) (fun K hK => ?_); go_simp; refine hK _ _ ?_; clear hK K) | (refine wpList_skip rfl (exec_store rfl rfl rfl (run_storeNew c _ rfl _ rfl)) (fun K hK => ?_); go_simp; refine hK _ _ ?_; clear hK K))
            refine wp_world fun w1 hw1 => ?_
            have hS1 : Hid (Sees w w1) := by rw [hw1]; exact hS.alloc _
            have C1 : Hid (CellAt w1 wr.heap.size 0 c) := by rw [hw1]; exact cellAt_new wr c _
            have gw : ∀ d os, (Sort.grow (redrawn w1 d) os).cell? ⟨wr.heap.size, 4, none⟩ = some (.int .i64 c.width) := fun d os => by simpa using (C1.out.sees (sees_grow w1 d os)).all.2.2.2.2.1
            clear hw1
            refine wp_region_quiet_below (by kernel_rfl) (by kernel_rfl) ?_
            repeat (first | go_big_quiet_skip | (go_big_quiet_want; go_big_quiet_op; go_big_quiet_on))
            go_big_quiet_want; refine quiet_run (c).val (fun W hW => exec_load rfl rfl (run_loadCell (C1.out.sees (regrown_sees hW)))) ?_; simp only [Act.put, List.setIfInBounds_toArray, List.set_cons_zero, List.set_cons_succ]; go_big_quiet_on
            go_big_quiet_want; go_big_quiet_op; apply Exists.intro; refine ⟨fun p => Calls.regrown_of (HV.out _ (Ht.out.sees (hS1.out.trans (sees_grow w1 _ _)))), ?_⟩; go_big_quiet_on
            repeat (first | go_big_quiet_skip | (go_big_quiet_want; go_big_quiet_op; go_big_quiet_on))
            refine wpQuiet_nil ?_; intro w2 hw2'; have hw2 := regrown_sees hw2'; clear hw2'
            go_wp2
            go_ret
            exact ⟨by rw [Hr.out]; rfl, hS1.out.trans hw2⟩
        · skip
          rcases (show c.valid = false ∨ c.valid = true by cases c.valid <;> simp) with hval | hval
          · rw [hval] at hv
            have HV := Lib.hid hv; clear hv
            have Hr : Hid (rowOk xs = false) := rowOk_bad (k := m + 1) (by have := Hna.out; omega) (by rw [hR]; simp [cellBad, hval])
            clear hval hR
            go_wp2_with (first | (refine wpList_val rfl (exec_load rfl rfl (run_loadCell (F.out wr hS))) (fun K hK => ?_); go_simp; refine hK _ _ ?_; clear hK K) | (refine wpList_skip rfl (exec_store rfl rfl rfl (run_storeNew c _ rfl _ rfl)) (fun K hK => ?_); go_simp; refine hK _ _ ?_; clear hK K))
            refine wp_world fun w1 hw1 => ?_
            have hS1 : Hid (Sees w w1) := by rw [hw1]; exact hS.alloc _
            have C1 : Hid (CellAt w1 wr.heap.size 0 c) := by rw [hw1]; exact cellAt_new wr c _
            have gw : ∀ d os, (Sort.grow (redrawn w1 d) os).cell? ⟨wr.heap.size, 4, none⟩ = some (.int .i64 c.width) := fun d os => by simpa using (C1.out.sees (sees_grow w1 d os)).all.2.2.2.2.1
            clear hw1
            refine wp_region_quiet_below (by kernel_rfl) (by kernel_rfl) ?_
            repeat (first | go_big_quiet_skip | (go_big_quiet_want; go_big_quiet_op; go_big_quiet_on))
            go_big_quiet_want; refine quiet_run (c).val (fun W hW => exec_load rfl rfl (run_loadCell (C1.out.sees (regrown_sees hW)))) ?_; simp only [Act.put, List.setIfInBounds_toArray, List.set_cons_zero, List.set_cons_succ]; go_big_quiet_on
            go_big_quiet_want; go_big_quiet_op; apply Exists.intro; refine ⟨fun p => Calls.regrown_of (HV.out _ (Ht.out.sees (hS1.out.trans (sees_grow w1 _ _)))), ?_⟩; go_big_quiet_on
            repeat (first | go_big_quiet_skip | (go_big_quiet_want; go_big_quiet_op; go_big_quiet_on))
            refine wpQuiet_nil ?_; intro w2 hw2'; have hw2 := regrown_sees hw2'; clear hw2'
            go_wp2
            go_ret
            exact ⟨by rw [Hr.out]; rfl, hS1.out.trans hw2⟩
          rw [hval] at hv
          have HV := Lib.hid hv; clear hv
          rcases (show (c.width == 0) = true ∨ (c.width == 0) = false by cases (c.width == 0) <;> simp) with e0 | e0
          · have Hr : Hid (rowOk xs = false) := rowOk_bad (k := m + 1) (by have := Hna.out; omega) (by rw [hR]; simp [cellBad, hval, e0, eb])
            clear hval hR
            go_wp2_with (first | (refine wpList_val rfl (exec_load rfl rfl (run_loadCell (F.out wr hS))) (fun K hK => ?_); go_simp; refine hK _ _ ?_; clear hK K) | (refine wpList_skip rfl (exec_store rfl rfl rfl (run_storeNew c _ rfl _ rfl)) (fun K hK => ?_); go_simp; refine hK _ _ ?_; clear hK K))
            refine wp_world fun w1 hw1 => ?_
            have hS1 : Hid (Sees w w1) := by rw [hw1]; exact hS.alloc _
            have C1 : Hid (CellAt w1 wr.heap.size 0 c) := by rw [hw1]; exact cellAt_new wr c _
            have gw : ∀ d os, (Sort.grow (redrawn w1 d) os).cell? ⟨wr.heap.size, 4, none⟩ = some (.int .i64 c.width) := fun d os => by simpa using (C1.out.sees (sees_grow w1 d os)).all.2.2.2.2.1
            clear hw1
            refine wp_region_quiet_below (by kernel_rfl) (by kernel_rfl) ?_
            repeat (first | go_big_quiet_skip | (go_big_quiet_want; go_big_quiet_op; go_big_quiet_on))
            go_big_quiet_want; refine quiet_run (c).val (fun W hW => exec_load rfl rfl (run_loadCell (C1.out.sees (regrown_sees hW)))) ?_; simp only [Act.put, List.setIfInBounds_toArray, List.set_cons_zero, List.set_cons_succ]; go_big_quiet_on
            go_big_quiet_want; go_big_quiet_op; apply Exists.intro; refine ⟨fun p => Calls.regrown_of (HV.out _ (Ht.out.sees (hS1.out.trans (sees_grow w1 _ _)))), ?_⟩; go_big_quiet_on
            repeat (first | go_big_quiet_skip | (go_big_quiet_want; go_big_quiet_op; go_big_quiet_on))
            refine wpQuiet_nil ?_; intro w2 hw2'; have hw2 := regrown_sees hw2'; clear hw2'
            go_wp2
            go_ret
            exact ⟨by rw [Hr.out]; rfl, hS1.out.trans hw2⟩
          rcases (show (c.width == 2) = true ∨ (c.width == 2) = false by cases (c.width == 2) <;> simp) with e2 | e2
          · rcases (show n = m + 2 ∨ m + 2 < n by omega) with hl | hl
            · have Hr : Hid (rowOk xs = false) := rowOk_bad (k := m + 1) (by have := Hna.out; omega) (by rw [hR]; simp [cellBad, hval, e0, e2, eb, hl])
              clear hval hR
              subst hl
              go_wp2_with (first | (refine wpList_val rfl (exec_load rfl rfl (run_loadCell (F.out wr hS))) (fun K hK => ?_); go_simp; refine hK _ _ ?_; clear hK K) | (refine wpList_skip rfl (exec_store rfl rfl rfl (run_storeNew c _ rfl _ rfl)) (fun K hK => ?_); go_simp; refine hK _ _ ?_; clear hK K))
              refine wp_world fun w1 hw1 => ?_
              have hS1 : Hid (Sees w w1) := by rw [hw1]; exact hS.alloc _
              have C1 : Hid (CellAt w1 wr.heap.size 0 c) := by rw [hw1]; exact cellAt_new wr c _
              have gw : ∀ d os, (Sort.grow (redrawn w1 d) os).cell? ⟨wr.heap.size, 4, none⟩ = some (.int .i64 c.width) := fun d os => by simpa using (C1.out.sees (sees_grow w1 d os)).all.2.2.2.2.1
              clear hw1
              refine wp_region_quiet_below (by kernel_rfl) (by kernel_rfl) ?_
              repeat (first | go_big_quiet_skip | (go_big_quiet_want; go_big_quiet_op; go_big_quiet_on))
              go_big_quiet_want; refine quiet_run (c).val (fun W hW => exec_load rfl rfl (run_loadCell (C1.out.sees (regrown_sees hW)))) ?_; simp only [Act.put, List.setIfInBounds_toArray, List.set_cons_zero, List.set_cons_succ]; go_big_quiet_on
              go_big_quiet_want; go_big_quiet_op; apply Exists.intro; refine ⟨fun p => Calls.regrown_of (HV.out _ (Ht.out.sees (hS1.out.trans (sees_grow w1 _ _)))), ?_⟩; go_big_quiet_on
              repeat (first | go_big_quiet_skip | (go_big_quiet_want; go_big_quiet_op; go_big_quiet_on))
              refine wpQuiet_nil ?_; intro w2 hw2'; have hw2 := regrown_sees hw2'; clear hw2'
              go_wp2
              go_ret
              exact ⟨by rw [Hr.out]; rfl, hS1.out.trans hw2⟩
            · have Hr : Hid (rowBad xs (m + 1) = false) := by unfold Hid; rw [hR]; simp [cellBad, hval, e0, eb]; omega
              clear hval hR
              go_wp2_with (first | (refine wpList_val rfl (exec_load rfl rfl (run_loadCell (F.out wr hS))) (fun K hK => ?_); go_simp; refine hK _ _ ?_; clear hK K) | (refine wpList_skip rfl (exec_store rfl rfl rfl (run_storeNew c _ rfl _ rfl)) (fun K hK => ?_); go_simp; refine hK _ _ ?_; clear hK K))
              refine wp_world fun w1 hw1 => ?_
              have hS1 : Hid (Sees w w1) := by rw [hw1]; exact hS.alloc _
              have C1 : Hid (CellAt w1 wr.heap.size 0 c) := by rw [hw1]; exact cellAt_new wr c _
              have gw : ∀ d os, (Sort.grow (redrawn w1 d) os).cell? ⟨wr.heap.size, 4, none⟩ = some (.int .i64 c.width) := fun d os => by simpa using (C1.out.sees (sees_grow w1 d os)).all.2.2.2.2.1
              clear hw1
              refine wp_region_quiet_below (by kernel_rfl) (by kernel_rfl) ?_
              repeat (first | go_big_quiet_skip | (go_big_quiet_want; go_big_quiet_op; go_big_quiet_on))
              go_big_quiet_want; refine quiet_run (c).val (fun W hW => exec_load rfl rfl (run_loadCell (C1.out.sees (regrown_sees hW)))) ?_; simp only [Act.put, List.setIfInBounds_toArray, List.set_cons_zero, List.set_cons_succ]; go_big_quiet_on
              go_big_quiet_want; go_big_quiet_op; apply Exists.intro; refine ⟨fun p => Calls.regrown_of (HV.out _ (Ht.out.sees (hS1.out.trans (sees_grow w1 _ _)))), ?_⟩; go_big_quiet_on
              repeat (first | go_big_quiet_skip | (go_big_quiet_want; go_big_quiet_op; go_big_quiet_on))
              refine wpQuiet_nil ?_; intro w2 hw2'; have hw2 := regrown_sees hw2'; clear hw2'
              go_wp2
              go_roundw
              case rel => exact ⟨(m + 1) + 1, by omega, by go_num, upTo_succ Hm.out Hr.out, hS1.out.trans hw2⟩
              case measure => simp [intOf]; omega
          · have Hr : Hid (rowBad xs (m + 1) = false) := by unfold Hid; rw [hR]; simp [cellBad, hval, e0, e2, eb]
            clear hval hR
            go_wp2_with (first | (refine wpList_val rfl (exec_load rfl rfl (run_loadCell (F.out wr hS))) (fun K hK => ?_); go_simp; refine hK _ _ ?_; clear hK K) | (refine wpList_skip rfl (exec_store rfl rfl rfl (run_storeNew c _ rfl _ rfl)) (fun K hK => ?_); go_simp; refine hK _ _ ?_; clear hK K))
            refine wp_world fun w1 hw1 => ?_
            have hS1 : Hid (Sees w w1) := by rw [hw1]; exact hS.alloc _
            have C1 : Hid (CellAt w1 wr.heap.size 0 c) := by rw [hw1]; exact cellAt_new wr c _
            have gw : ∀ d os, (Sort.grow (redrawn w1 d) os).cell? ⟨wr.heap.size, 4, none⟩ = some (.int .i64 c.width) := fun d os => by simpa using (C1.out.sees (sees_grow w1 d os)).all.2.2.2.2.1
            clear hw1
            refine wp_region_quiet_below (by kernel_rfl) (by kernel_rfl) ?_
            repeat (first | go_big_quiet_skip | (go_big_quiet_want; go_big_quiet_op; go_big_quiet_on))
            go_big_quiet_want; refine quiet_run (c).val (fun W hW => exec_load rfl rfl (run_loadCell (C1.out.sees (regrown_sees hW)))) ?_; simp only [Act.put, List.setIfInBounds_toArray, List.set_cons_zero, List.set_cons_succ]; go_big_quiet_on
            go_big_quiet_want; go_big_quiet_op; apply Exists.intro; refine ⟨fun p => Calls.regrown_of (HV.out _ (Ht.out.sees (hS1.out.trans (sees_grow w1 _ _)))), ?_⟩; go_big_quiet_on
            repeat (first | go_big_quiet_skip | (go_big_quiet_want; go_big_quiet_op; go_big_quiet_on))
            refine wpQuiet_nil ?_; intro w2 hw2'; have hw2 := regrown_sees hw2'; clear hw2'
            go_wp2
            go_roundw
            case rel => exact ⟨(m + 1) + 1, by omega, by go_num, upTo_succ Hm.out Hr.out, hS1.out.trans hw2⟩
            case measure => simp [intOf]; omega
    · obtain rfl : k = n := by omega
      have Hr : Hid (rowOk xs = true) := rowOk_all (by rw [← Hna.out]; exact Hm.out)
      clear Ha
      go_wp2
      go_ret
      exact ⟨by rw [Hr.out]; rfl, hS⟩
end Go.Proofs.YthcndmchlpohpaaGreatDoor

namespace Go.Proofs.YthcndmchlpohpaaGreatDoor
set_option linter.unusedVariables false
set_option linter.unusedSimpArgs false
open Go.RowKit

/-- The spacer behind a wide cell. -/
def Cell.spacer (c : Cell) : Cell := ⟨0, 0, 0, 0, 0, c.f0, c.f1, c.f2, c.f3, c.f4, c.b0, c.b1, c.b2, c.b3, c.b4, c.flags⟩
theorem run_spacer (c : Cell) (W : World) : (Instr.build 42 #[(3, c.pen)]).run Tryz.prog W = .ok c.spacer.val W := by
  unfold Cell.pen Cell.val Cell.spacer
  go_simp
theorem exec_build1 {P : Program} {ρ : Operand → Value} {o : Oper} {t : TypeId} {i : Nat} {x : Operand} {a v : Value} {W W' : World} (ho : o.op = .build t #[(i, x)]) (hx : ρ x = a) (h : (Instr.build t #[(i, a)]).run P W = .ok v W') : (execOp ρ o).run P W = .ok (.value v) W' := by
  unfold execOp
  rw [ho]
  simp only [List.map_toArray, List.map_cons, List.map_nil, hx, Sem.run_bind, h, Result.andThen_ok]
  rfl

theorem valid_width {c : Cell} (h : c.valid = true) : c.width = 0 ∨ c.width = 1 ∨ c.width = 2 := by
  have h3 := wOf_range c.rune
  unfold Cell.valid at h
  simp only [Bool.and_eq_true] at h
  have h2 := h.2
  split at h2
  · simp at h2; omega
  · simp at h2; omega
theorem valid_zero {d : Cell} (h : d.valid = true) (h0 : d.width = 0) : d.rune = 0 ∧ d.m0 = 0 ∧ d.m1 = 0 ∧ d.m2 = 0 := by
  unfold Cell.valid at h
  simp only [Bool.and_eq_true] at h
  have h2 := h.2
  split at h2
  · rename_i hr
    simp only [Bool.and_eq_true] at h2
    exact ⟨hr, eq3_iff.1 h2.2⟩
  · simp [h0] at h2
theorem valid_spacer {c : Cell} (h : c.valid = true) : c.spacer.valid = true := by
  unfold Cell.valid at h ⊢
  simp only [Bool.and_eq_true] at h
  simp [Cell.spacer, eq3, h.1]
theorem penEq_iff {c d : Cell} : penEq c d = true ↔ c.f0 = d.f0 ∧ c.f1 = d.f1 ∧ c.f2 = d.f2 ∧ c.f3 = d.f3 ∧ c.f4 = d.f4 ∧ c.b0 = d.b0 ∧ c.b1 = d.b1 ∧ c.b2 = d.b2 ∧ c.b3 = d.b3 ∧ c.b4 = d.b4 ∧ c.flags = d.flags := by
  simp [penEq, eq11, eq5, and_assoc]
theorem bad_next {xs : List Cell} {i : Nat} {c d : Cell} (hc : xs[i]? = some c) (hd : xs[i + 1]? = some d) (hw : c.width = 2) (hne : d ≠ c.spacer) : rowBad xs (i + 1) = true := by
  rw [bad_atS rfl hd hc]
  by_cases hv : d.valid = true
  · by_cases h0 : d.width = 0
    · obtain ⟨r, m0, m1, m2⟩ := valid_zero hv h0
      have hp : penEq d c = false := by
        rw [Bool.eq_false_iff]
        intro hp
        obtain ⟨p0, p1, p2, p3, p4, p5, p6, p7, p8, p9, p10⟩ := penEq_iff.1 hp
        apply hne
        cases d; cases c
        simp_all [Cell.spacer]
      simp [cellBad, hw, hp]
    · simp [cellBad, hw, h0]
  · simp [cellBad, hv]
theorem good_next {xs : List Cell} {i : Nat} {c : Cell} (hv : c.valid = true) (hc : xs[i]? = some c) (hd : xs[i + 1]? = some c.spacer) (hw : c.width = 2) : rowBad xs (i + 1) = false := by
  rw [bad_atS rfl hd hc]
  have hp : penEq c.spacer c = true := penEq_iff.2 ⟨rfl, rfl, rfl, rfl, rfl, rfl, rfl, rfl, rfl, rfl, rfl⟩
  have h0 : c.spacer.width = 0 := rfl
  simp [cellBad, valid_spacer hv, hp, hw, h0]
theorem bad_here {xs : List Cell} {i : Nat} {c : Cell} (hb : behindAt xs i = false) (hc : xs[i]? = some c) : rowBad xs i = (!c.valid || c.width == 0 || (c.width == 2 && i + 1 == xs.length)) := by
  unfold rowBad; rw [hc]; simp only [cellBad, hb]; simp
theorem behind_next {xs : List Cell} {i : Nat} {c : Cell} (hc : xs[i]? = some c) (hw : c.width ≠ 2) : behindAt xs (i + 1) = false := by
  simp only [behindAt, hc]; simpa using hw

end Go.Proofs.YthcndmchlpohpaaGreatDoor
