/- The reference's test of a row of cells answers as the program's does. The tables hold what the program's text lays. -/
import Derived.Test.YtfeoejpbmpdkaaaDoorRow3
namespace Go.Proofs.YtfeoejpbmpdkaaaDoor
set_option linter.unusedVariables false
set_option linter.unusedSimpArgs false
open Go.RowKit

/-- The spacer behind a wide cell. -/
def Cell.spacer (c : Cell) : Cell := ⟨0, 0, 0, 0, 0, c.f0, c.f1, c.f2, c.f3, c.f4, c.b0, c.b1, c.b2, c.b3, c.b4, c.flags⟩
theorem run_spacer (c : Cell) (W : World) : (Instr.build 105 #[(3, c.pen)]).run Tryd.prog W = .ok c.spacer.val W := by
  unfold Cell.pen Cell.val Cell.spacer
  go_simp
theorem exec_build1 {P : Program} {ρ : Operand → Value} {o : Oper} {t : TypeId} {i : Nat} {x : Operand} {a v : Value} {W W' : World} (ho : o.op = .build t #[(i, x)]) (hx : ρ x = a) (h : (Instr.build t #[(i, a)]).run P W = .ok v W') : (execOp ρ o).run P W = .ok (.value v) W' := by
  unfold execOp
  rw [ho]
  simp only [List.map_toArray, List.map_cons, List.map_nil, hx, Sem.run_bind, h, Result.andThen_ok]
  rfl

theorem valid_width {c : Cell} (h : c.valid = true) : c.width = 0 ∨ c.width = 1 ∨ c.width = 2 := by
  have h3 := wOf_range c.rune
  unfold Cell.valid at h
  simp only [Bool.and_eq_true] at h
  have h2 := h.2
  split at h2
  · simp at h2; omega
  · simp at h2; omega
theorem valid_zero {d : Cell} (h : d.valid = true) (h0 : d.width = 0) : d.rune = 0 ∧ d.m0 = 0 ∧ d.m1 = 0 ∧ d.m2 = 0 := by
  unfold Cell.valid at h
  simp only [Bool.and_eq_true] at h
  have h2 := h.2
  split at h2
  · rename_i hr
    simp only [Bool.and_eq_true] at h2
    exact ⟨hr, eq3_iff.1 h2.2⟩
  · simp [h0] at h2
theorem valid_spacer {c : Cell} (h : c.valid = true) : c.spacer.valid = true := by
  unfold Cell.valid at h ⊢
  simp only [Bool.and_eq_true] at h
  simp [Cell.spacer, eq3, h.1]
theorem penEq_iff {c d : Cell} : penEq c d = true ↔ c.f0 = d.f0 ∧ c.f1 = d.f1 ∧ c.f2 = d.f2 ∧ c.f3 = d.f3 ∧ c.f4 = d.f4 ∧ c.b0 = d.b0 ∧ c.b1 = d.b1 ∧ c.b2 = d.b2 ∧ c.b3 = d.b3 ∧ c.b4 = d.b4 ∧ c.flags = d.flags := by
  simp [penEq, eq11, eq5, and_assoc]
theorem bad_next {xs : List Cell} {i : Nat} {c d : Cell} (hc : xs[i]? = some c) (hd : xs[i + 1]? = some d) (hw : c.width = 2) (hne : d ≠ c.spacer) : rowBad xs (i + 1) = true := by
  rw [bad_atS rfl hd hc]
  by_cases hv : d.valid = true
  · by_cases h0 : d.width = 0
    · obtain ⟨r, m0, m1, m2⟩ := valid_zero hv h0
      have hp : penEq d c = false := by
        rw [Bool.eq_false_iff]
        intro hp
        obtain ⟨p0, p1, p2, p3, p4, p5, p6, p7, p8, p9, p10⟩ := penEq_iff.1 hp
        apply hne
        cases d; cases c
        simp_all [Cell.spacer]
      simp [cellBad, hw, hp]
    · simp [cellBad, hw, h0]
  · simp [cellBad, hv]
theorem good_next {xs : List Cell} {i : Nat} {c : Cell} (hv : c.valid = true) (hc : xs[i]? = some c) (hd : xs[i + 1]? = some c.spacer) (hw : c.width = 2) : rowBad xs (i + 1) = false := by
  rw [bad_atS rfl hd hc]
  have hp : penEq c.spacer c = true := penEq_iff.2 ⟨rfl, rfl, rfl, rfl, rfl, rfl, rfl, rfl, rfl, rfl, rfl⟩
  have h0 : c.spacer.width = 0 := rfl
  simp [cellBad, valid_spacer hv, hp, hw, h0]
theorem bad_here {xs : List Cell} {i : Nat} {c : Cell} (hb : behindAt xs i = false) (hc : xs[i]? = some c) : rowBad xs i = (!c.valid || c.width == 0 || (c.width == 2 && i + 1 == xs.length)) := by
  unfold rowBad; rw [hc]; simp only [cellBad, hb]; simp
theorem behind_next {xs : List Cell} {i : Nat} {c : Cell} (hc : xs[i]? = some c) (hw : c.width ≠ 2) : behindAt xs (i + 1) = false := by
  simp only [behindAt, hc]; simpa using hw

set_option maxRecDepth 100000 in
set_option maxHeartbeats 2000000 in
theorem refRow_any (v : Value) (xs : List Cell) (w : World) (ha : RdCells w v xs) (hn : xs.length ≤ 1000000) :
    Calls Tryd.prog 89 #[v] w fun e w' => e = .returned (.bool (rowOk xs)) ∧ Sees w w' := by
  obtain ⟨ao, ca, rfl, ha⟩ := ha
  obtain ⟨n, hna⟩ : ∃ n, n = xs.length := ⟨_, rfl⟩
  rw [← hna]
  rw [← hna] at hn
  have Hna := Lib.hid hna
  have Ha := Lib.hid ha
  clear hna ha
  go_enter Tryd.func89, Tryd.ntmps89
  go_wp2
  go_loopw [3] (fun x wr => ∃ i : Nat, i ≤ n ∧ x = .int .i64 i ∧ (∀ j, j < i → rowBad xs j = false) ∧ behindAt xs i = false ∧ Sees w wr) (fun x _ => n - (intOf x).toNat)
  case atStart => exact ⟨0, by omega, rfl, (fun j hj => by omega), rfl, Sees.refl _⟩
  case round =>
    obtain ⟨i, hi, rfl, hm, hb, hS⟩ := hrel
    have Hm := Lib.hid hm; clear hm
    by_cases hlt : i < n
    · obtain ⟨b, o, c, rfl, hc, hca⟩ := RdCells.at Ha.out Hna.out hlt
      have F := Lib.hid (fun (W : World) (hW : Sees w W) => (hca i c hc).sees hW)
      have hR := bad_here hb hc
      rw [← Hna.out] at hR
      have hv := refValid_any c
      rcases (show c.valid = false ∨ c.valid = true by cases c.valid <;> simp) with hval | hval
      · rw [hval] at hv
        have HV := Lib.hid hv
        have Hr : Hid (rowOk xs = false) := rowOk_bad (k := i) (by have := Hna.out; omega) (by rw [hR]; simp [hval])
        clear hv hval hR hb hc hca Ha
        go_wp2_with (first | (refine wpList_val rfl (exec_load rfl rfl (run_loadCell (F.out wr hS))) (fun K hK => ?_); go_simp; refine hK _ _ ?_; clear hK K))
        refine (HV.out _).mono ?_
        rintro e w1 ⟨rfl, hs1⟩
        have hS1 := hS.trans hs1
        have gw : w1.cell? ⟨b, o + i * 16 + 4, none⟩ = some (.int .i64 c.width) := (F.out w1 hS1).all.2.2.2.2.1
        go_wp2
        go_ret
        exact ⟨by rw [Hr.out]; rfl, hS1⟩
      have hvw := valid_width hval
      rw [hval] at hv
      have HV := Lib.hid hv; clear hv
      rcases hvw with hw | hw | hw
      · have Hr : Hid (rowOk xs = false) := rowOk_bad (k := i) (by have := Hna.out; omega) (by rw [hR]; simp [hw])
        clear hval hR hb hc hca Ha
        go_wp2_with (first | (refine wpList_val rfl (exec_load rfl rfl (run_loadCell (F.out wr hS))) (fun K hK => ?_); go_simp; refine hK _ _ ?_; clear hK K))
        refine (HV.out _).mono ?_
        rintro e w1 ⟨rfl, hs1⟩
        have hS1 := hS.trans hs1
        have gw : w1.cell? ⟨b, o + i * 16 + 4, none⟩ = some (.int .i64 c.width) := (F.out w1 hS1).all.2.2.2.2.1
        rw [hw] at gw
        clear hw
        go_wp2
        go_ret
        exact ⟨by rw [Hr.out]; rfl, hS1⟩
      · have Hr : Hid (rowBad xs i = false) := by unfold Hid; rw [hR]; simp [hval, hw]
        have Hb : Hid (behindAt xs (i + 1) = false) := behind_next hc (by omega)
        clear hval hR hb hc hca Ha
        go_wp2_with (first | (refine wpList_val rfl (exec_load rfl rfl (run_loadCell (F.out wr hS))) (fun K hK => ?_); go_simp; refine hK _ _ ?_; clear hK K))
        refine (HV.out _).mono ?_
        rintro e w1 ⟨rfl, hs1⟩
        have hS1 := hS.trans hs1
        have gw : w1.cell? ⟨b, o + i * 16 + 4, none⟩ = some (.int .i64 c.width) := (F.out w1 hS1).all.2.2.2.2.1
        rw [hw] at gw
        clear hw
        go_wp2
        go_roundw
        case rel => exact ⟨i + 1, by omega, by go_num, upTo_succ Hm.out Hr.out, Hb.out, hS1⟩
        case measure => simp [intOf]; omega
      rcases (show n = i + 1 ∨ i + 1 < n by omega) with hl | hl
      · have Hr : Hid (rowOk xs = false) := rowOk_bad (k := i) (by have := Hna.out; omega) (by rw [hR]; simp [hw, hl])
        clear hval hR hb hc hca Ha
        subst hl
        go_wp2_with (first | (refine wpList_val rfl (exec_load rfl rfl (run_loadCell (F.out wr hS))) (fun K hK => ?_); go_simp; refine hK _ _ ?_; clear hK K))
        refine (HV.out _).mono ?_
        rintro e w1 ⟨rfl, hs1⟩
        have hS1 := hS.trans hs1
        have gw : w1.cell? ⟨b, o + i * 16 + 4, none⟩ = some (.int .i64 c.width) := (F.out w1 hS1).all.2.2.2.2.1
        rw [hw] at gw
        clear hw
        go_wp2
        refine wp_region_quiet_below (by kernel_rfl) (by kernel_rfl) ?_
        repeat (first | go_big_quiet_skip | (go_big_quiet_want; go_big_quiet_op; go_big_quiet_on))
        refine wpQuiet_nil ?_; intro w2 hw2'; have hw2 := regrown_sees hw2'; clear hw2'
        go_wp2
        go_ret
        exact ⟨by rw [Hr.out]; rfl, hS1.trans hw2⟩
      obtain ⟨d, hd⟩ : ∃ d, xs[i + 1]? = some d := ⟨_, List.getElem?_eq_getElem (by have := Hna.out; omega)⟩
      have FD := Lib.hid (fun (W : World) (hW : Sees w W) => (hca (i + 1) d hd).sees hW)
      have Hw := Lib.hid hw
      rcases Decidable.em (d = c.spacer) with hds | hds
      · have Hr : Hid (rowBad xs i = false) := by unfold Hid; rw [hR]; simp [hval, hw]; omega
        have Hr2 : Hid (rowBad xs (i + 1) = false) := good_next hval hc (by rw [hd, hds]) hw
        have Hb : Hid (behindAt xs (i + 1 + 1) = false) := behind_next hd (by rw [hds]; simp [Cell.spacer])
        have he := decide_eq_true hds
        clear hval hR hb hc hd hds hca Ha
        have t1 : decide ((n : Int) ≤ (i : Int) + 1) = false := by simp; omega
        have t2 : decide (n ≤ i + 1) = false := by simp; omega
        go_wp2_with (first | (refine wpList_val rfl (exec_load rfl rfl (run_loadCell (F.out wr hS))) (fun K hK => ?_); go_simp; refine hK _ _ ?_; clear hK K))
        refine (HV.out _).mono ?_
        rintro e w1 ⟨rfl, hs1⟩
        have hS1 := hS.trans hs1
        have gw : w1.cell? ⟨b, o + i * 16 + 4, none⟩ = some (.int .i64 c.width) := (F.out w1 hS1).all.2.2.2.2.1
        rw [hw] at gw
        clear hw
        go_wp2
        refine wp_region_quiet_below (by kernel_rfl) (by kernel_rfl) ?_
        repeat (first | go_big_quiet_skip | (go_big_quiet_want; go_big_quiet_op; go_big_quiet_on))
        go_big_quiet_want; refine quiet_run (d).val (fun W hW => exec_load rfl rfl (run_loadCell (FD.out W (hS1.trans (regrown_sees hW))))) ?_; simp only [Act.put, List.setIfInBounds_toArray, List.set_cons_zero, List.set_cons_succ]; go_big_quiet_on
        repeat (first | go_big_quiet_skip | (go_big_quiet_want; go_big_quiet_op; go_big_quiet_on))
        go_big_quiet_want; refine quiet_run (c).pen (fun W hW => exec_load rfl rfl (run_loadPen (F.out W (hS1.trans (regrown_sees hW))))) ?_; simp only [Act.put, List.setIfInBounds_toArray, List.set_cons_zero, List.set_cons_succ]; go_big_quiet_on
        go_big_quiet_want; refine quiet_run c.spacer.val (fun W hW => exec_build1 rfl rfl (run_spacer c W)) ?_; simp only [Act.put, List.setIfInBounds_toArray, List.set_cons_zero, List.set_cons_succ]; go_big_quiet_on
        go_big_quiet_want; refine quiet_run (.bool (!decide (d = c.spacer))) (fun W hW => exec_bin rfl rfl rfl (guard_neqCell _ _ d c.spacer W) (run_neqCell d c.spacer W)) ?_; simp only [Act.put, List.setIfInBounds_toArray, List.set_cons_zero, List.set_cons_succ]; go_big_quiet_on
        repeat (first | go_big_quiet_skip | (go_big_quiet_want; go_big_quiet_op; go_big_quiet_on))
        refine wpQuiet_nil ?_; intro w2 hw2'; have hw2 := regrown_sees hw2'; clear hw2'
        clear he
        go_wp2
        go_roundw
        case rel => exact ⟨i + 2, by omega, by go_num, upTo_succ (upTo_succ Hm.out Hr.out) Hr2.out, Hb.out, hS1.trans hw2⟩
        case measure => simp [intOf]; omega
      · have Hr : Hid (rowOk xs = false) := rowOk_bad (k := i + 1) (by have := Hna.out; omega) (bad_next hc hd hw hds)
        have he := decide_eq_false hds
        clear hval hR hb hc hd hds hca Ha
        have t1 : decide ((n : Int) ≤ (i : Int) + 1) = false := by simp; omega
        have t2 : decide (n ≤ i + 1) = false := by simp; omega
        go_wp2_with (first | (refine wpList_val rfl (exec_load rfl rfl (run_loadCell (F.out wr hS))) (fun K hK => ?_); go_simp; refine hK _ _ ?_; clear hK K))
        refine (HV.out _).mono ?_
        rintro e w1 ⟨rfl, hs1⟩
        have hS1 := hS.trans hs1
        have gw : w1.cell? ⟨b, o + i * 16 + 4, none⟩ = some (.int .i64 c.width) := (F.out w1 hS1).all.2.2.2.2.1
        rw [hw] at gw
        clear hw
        go_wp2
        refine wp_region_quiet_below (by kernel_rfl) (by kernel_rfl) ?_
        repeat (first | go_big_quiet_skip | (go_big_quiet_want; go_big_quiet_op; go_big_quiet_on))
        go_big_quiet_want; refine quiet_run (d).val (fun W hW => exec_load rfl rfl (run_loadCell (FD.out W (hS1.trans (regrown_sees hW))))) ?_; simp only [Act.put, List.setIfInBounds_toArray, List.set_cons_zero, List.set_cons_succ]; go_big_quiet_on
        repeat (first | go_big_quiet_skip | (go_big_quiet_want; go_big_quiet_op; go_big_quiet_on))
        go_big_quiet_want; refine quiet_run (c).pen (fun W hW => exec_load rfl rfl (run_loadPen (F.out W (hS1.trans (regrown_sees hW))))) ?_; simp only [Act.put, List.setIfInBounds_toArray, List.set_cons_zero, List.set_cons_succ]; go_big_quiet_on
        go_big_quiet_want; refine quiet_run c.spacer.val (fun W hW => exec_build1 rfl rfl (run_spacer c W)) ?_; simp only [Act.put, List.setIfInBounds_toArray, List.set_cons_zero, List.set_cons_succ]; go_big_quiet_on
        go_big_quiet_want; refine quiet_run (.bool (!decide (d = c.spacer))) (fun W hW => exec_bin rfl rfl rfl (guard_neqCell _ _ d c.spacer W) (run_neqCell d c.spacer W)) ?_; simp only [Act.put, List.setIfInBounds_toArray, List.set_cons_zero, List.set_cons_succ]; go_big_quiet_on
        repeat (first | go_big_quiet_skip | (go_big_quiet_want; go_big_quiet_op; go_big_quiet_on))
        refine wpQuiet_nil ?_; intro w2 hw2'; have hw2 := regrown_sees hw2'; clear hw2'
        clear he
        go_wp2
        go_ret
        exact ⟨by rw [Hr.out]; rfl, hS1.trans hw2⟩
    · obtain rfl : i = n := by omega
      have Hr : Hid (rowOk xs = true) := rowOk_all (by rw [← Hna.out]; exact Hm.out)
      clear Ha hb
      go_wp2
      go_ret
      exact ⟨by rw [Hr.out]; rfl, hS⟩
end Go.Proofs.YtfeoejpbmpdkaaaDoor
