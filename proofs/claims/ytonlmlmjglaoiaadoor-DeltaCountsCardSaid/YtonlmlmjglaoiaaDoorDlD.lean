/- Screens: the program's test, and the statements' bounds. The tables hold what the program's text lays. -/
import Derived.Test.YtonlmlmjglaoiaaDoorDlC
namespace Go.Proofs.YtonlmlmjglaoiaaDoor
set_option linter.unusedVariables false
set_option linter.unusedSimpArgs false
open Go.RowKit

def scrD (ls : List Ln) : Bool := scrB ls && decide (ls.length ≤ 1000)
theorem scrD_no {ls : List Ln} (h : scrB ls = false) : scrD ls = false := by unfold scrD; rw [h]; rfl

set_option maxHeartbeats 2000000 in
theorem screenD_any (F : Nat → Prop) (v : Value) (xs : List Ln) (w : World) (ht : Tabs w) (ha : lnEl.Rd F w v xs) (hn : xs.length ≤ 1000000) (hnc : ∀ l ∈ xs, l.cells.length ≤ 1000000) :
    Calls Tryd.prog 32 #[v] w fun e w' => e = .returned (.bool (scrD xs)) ∧ Sees w w' := by
  have Hnc := Lib.hid hnc
  have Ht := Lib.hid ht
  obtain ⟨ao, ca, rfl, hca⟩ := ha.slice'
  have hw := Sees.refl w
  obtain ⟨n, hna⟩ : ∃ n, n = xs.length := ⟨_, rfl⟩
  rw [← hna] at ha hn
  rw [← hna]
  have Hna := Lib.hid hna
  have Ha := Lib.hid ha
  clear hna ha hca hnc ht
  go_enter Tryd.func32, Tryd.ntmps32
  go_wp2
  go_loopw [7] (fun i wr => ∃ k : Nat, k ≤ n ∧ i = .int .i64 k ∧ (xs.take k).all (scrAt (cols xs)) = true ∧ Sees w wr) (fun i _ => n - (intOf i).toNat)
  case atStart => exact ⟨0, by omega, rfl, by simp, Sees.refl _⟩
  case round =>
    obtain ⟨k, hk, rfl, hm, hS⟩ := hrel
    have Hm := Lib.hid hm; clear hm hw
    by_cases hlt : k < n
    · obtain ⟨b1, o1, x, a1, m1, rfl, _, hx, _, x1, x2, x3⟩ := (Ha.out.sees hS).line hlt
      obtain ⟨b2, o2, y, a2, m2, hb2, _, hy, _, y1, y2, y3⟩ := (Ha.out.sees hS).line (show 0 < n by omega)
      cases hb2
      rw [Nat.zero_mul, Nat.add_zero] at y1 y2
      have X3 := Lib.hid x3
      have Y1 := Lib.hid y1
      have HT := Lib.hid (Ht.out.sees hS)
      have HS := Lib.hid hS
      have Hx := Lib.hid hx
      have Hxl := Lib.hid (Hnc.out x (List.mem_iff_getElem?.2 ⟨_, hx⟩))
      have hcols := cols_of hy
      have hv : ∀ b1 b2 b3, lnOk x.cells = b1 → ((x.cells.length : Int) == 0) = b2 → (x.cells.length == y.cells.length) = b3 → scrAt (cols xs) x = (b1 && !b2 && b3) := by
        rintro _ _ _ rfl rfl rfl
        unfold scrAt; rw [hcols]
        congr 2
        rw [Bool.eq_iff_iff]; simp
      have Hv := Lib.hid hv
      clear hx hy x3 y1 y2 y3 Ha hcols hv hS
      generalize hl1 : x.cells.length = n1 at *
      generalize hl2 : y.cells.length = n0 at *
      have H1 := Lib.hid hl1
      clear hl1 hl2
      have k0 : (0 : Nat) < n := by omega
      have k1 : (0 : Int) < n := by omega
      rcases ways3 (lnOk x.cells) (!((n1 : Int) == 0)) (n1 == n0) with ⟨e1, e2, e3⟩ | ⟨e1, e2, e3⟩ | ⟨e1, e2⟩ | e1
      all_goals
        (try (have e2' : ((n1 : Int) == 0) = _ := Bool.not_eq_eq_eq_not.1 e2))
        go_wp2
        refine wp_world fun w1 hw1 => ?_
        have hs1 : Sees wr w1 := by subst hw1; exact (Sees.refl wr).alloc _
        have c0 : w1.cell? ⟨wr.heap.size, 0, none⟩ = some (.slice a1 n1 m1) := by subst hw1; simp
        have c1 : w1.cell? ⟨wr.heap.size, 1, none⟩ = some (.bool x.soft) := by subst hw1; simp
        have g1 := fun d os => (sees_grow w1 d os).cell c0
        have g2 := fun d os => (sees_grow w1 d os).cell c1
        have g3 := fun d os => (sees_grow w1 d os).cell (hs1.cell Y1.out)
        have Hs1 := Lib.hid hs1
        clear hw1 hs1 c0 c1 x1 x2
        refine wp_region_quiet_below (by kernel_rfl) (by kernel_rfl) ?_
        repeat (first | go_big_quiet_skip | (go_big_quiet_want; go_big_quiet_op; go_big_quiet_on))
        (go_big_quiet_want; go_big_quiet_op; apply Exists.intro; refine ⟨fun p => Calls.regrown_of (lineValid_any _ x.cells x.soft _ (HT.out.sees (Hs1.out.trans (sees_grow w1 _ _))) (X3.out.sees (Hs1.out.trans (sees_grow w1 _ _))).rdCells (by rw [H1.out]; exact Hxl.out)), ?_⟩; go_big_quiet_on)
        repeat (first | go_big_quiet_skip | (go_big_quiet_want; go_big_quiet_op; go_big_quiet_on))
        refine wpQuiet_nil ?_; intro w2 hw2'; have hw2 := regrown_sees hw2'; clear hw2'
        go_wp2
      · have := Hv.out true false true e1 (by simpa using e2) e3
        go_roundw
        case rel => exact ⟨k + 1, by omega, by go_num, scr_more Hx.out this Hm.out, HS.out.trans (Hs1.out.trans hw2)⟩
        case measure => simp [intOf]; omega
      · have := scrB_bad Hx.out (Hv.out true false false e1 (by simpa using e2) e3)
        go_ret
        exact ⟨ret_bool (scrD_no this).symm, HS.out.trans (Hs1.out.trans hw2)⟩
      · have := scrB_bad Hx.out ((Hv.out true true _ e1 (by simpa using e2) rfl).trans (by simp))
        go_ret
        exact ⟨ret_bool (scrD_no this).symm, HS.out.trans (Hs1.out.trans hw2)⟩
      · have := scrB_bad Hx.out ((Hv.out false _ _ e1 rfl rfl).trans (by simp))
        go_ret
        exact ⟨ret_bool (scrD_no this).symm, HS.out.trans (Hs1.out.trans hw2)⟩
    · obtain rfl : k = n := by omega
      have Hf : Hid (scrD xs = decide (k ≤ 1000)) := by
        have := Hm.out
        rw [List.take_of_length_le (by rw [← Hna.out]; exact Nat.le_refl _)] at this
        unfold Hid scrD scrB; rw [this, ← Hna.out]; rfl
      go_wp2
      go_ret
      exact ⟨by rw [Hf.out]; simp; omega, hS⟩

/-- At most 10 lines with at most 24 cells each. -/
def smallB (ls : List Ln) : Bool := decide (ls.length ≤ 10) && ls.all fun l => decide (l.cells.length ≤ 24)
theorem smallB_ok {ls : List Ln} (h : smallB ls = true) : ls.length ≤ 10 ∧ ∀ l ∈ ls, l.cells.length ≤ 24 := by
  unfold smallB at h
  simpa using h
set_option maxHeartbeats 1000000 in
theorem small45_any (F : Nat → Prop) (v : Value) (xs : List Ln) (w : World) (ha : lnEl.Rd F w v xs) :
    Calls Tryd.prog 8 #[v] w fun e w' => e = .returned (.bool (smallB xs)) ∧ Sees w w' := by
  obtain ⟨ao, ca, rfl, hca⟩ := ha.slice'
  have hw := Sees.refl w
  obtain ⟨n, hna⟩ : ∃ n, n = xs.length := ⟨_, rfl⟩
  rw [← hna] at ha
  rw [← hna]
  have Hna := Lib.hid hna
  have Ha := Lib.hid ha
  clear hna ha hca
  go_enter Tryd.func8, Tryd.ntmps8
  go_wp2
  go_loop [3] (fun i => ∃ k : Nat, k ≤ n ∧ k ≤ 11 ∧ i = .int .i64 k ∧ (∀ (j : Nat) x, j < k → xs[j]? = some x → x.cells.length ≤ 24)) (fun i => n - (intOf i).toNat)
  case atStart => exact ⟨0, by omega, by omega, rfl, fun j x h => by omega⟩
  case round =>
    obtain ⟨k, hk, hk2, rfl, hm⟩ := hrel
    have Hm := Lib.hid hm; clear hm
    by_cases hlt : k < n
    · by_cases h11 : k < 11
      · obtain ⟨b1, o1, x, a1, m1, rfl, _, hx, _, x1, x2, x3⟩ := Ha.out.line hlt
        have Hx := Lib.hid hx
        have HW := Lib.hid hw
        generalize hl1 : x.cells.length = n1 at *
        have H1 := Lib.hid hl1
        clear hx x3 Ha hl1 hw
        by_cases h24 : n1 ≤ 24
        · have e1 : decide ((n1 : Int) > 24) = false := decide_eq_false (by omega)
          have e2 : decide ((24 : Int) < n1) = false := decide_eq_false (by omega)
          go_wp2
          go_round
          case rel => exact ⟨k + 1, by omega, by omega, by go_num, fun j y hj hy => by
            rcases Nat.lt_or_ge j k with h | h
            · exact Hm.out j y h hy
            · obtain rfl : j = k := by omega
              rw [Hx.out] at hy; cases hy; rw [H1.out]; exact h24⟩
          case measure => simp [intOf]; omega
        · have e1 : decide ((n1 : Int) > 24) = true := decide_eq_true (by omega)
          have e2 : decide ((24 : Int) < n1) = true := decide_eq_true (by omega)
          have Hf : Hid (smallB xs = false) := Bool.eq_false_iff.2 fun h => by
            have := (smallB_ok h).2 x (List.mem_iff_getElem?.2 ⟨_, Hx.out⟩)
            rw [H1.out] at this; omega
          go_wp2
          go_ret
          exact ⟨ret_bool Hf.out.symm, HW.out⟩
      · have Hf : Hid (smallB xs = false) := Bool.eq_false_iff.2 fun h => by
          have := (smallB_ok h).1; have := Hna.out; omega
        have e1 : decide (n ≤ 10) = false := decide_eq_false (by omega)
        have e2 : decide ((n : Int) ≤ 10) = false := decide_eq_false (by omega)
        go_wp2
        go_ret
        exact ⟨by rw [Hf.out]; first | rfl | (simp; omega), hw⟩
    · obtain rfl : k = n := by omega
      have Hf : Hid (smallB xs = decide (k ≤ 10)) := by
        have h : xs.all (fun l => decide (l.cells.length ≤ 24)) = true := by
          rw [List.all_eq_true]
          intro x hx
          obtain ⟨j, hj⟩ := List.mem_iff_getElem?.1 hx
          exact decide_eq_true (Hm.out j x (by have := Hna.out; have := (List.getElem?_eq_some_iff.1 hj).1; omega) hj)
        unfold Hid smallB; rw [h, ← Hna.out]; simp
      go_wp2
      go_ret
      exact ⟨by rw [Hf.out]; first | rfl | (simp; omega), hw⟩
end Go.Proofs.YtonlmlmjglaoiaaDoor
