/- scrollbacklaw40.small (40). The tables hold what the program's text lays. -/
import Derived.Test.YtfdolhppbimbmaaDoorTtU
namespace Go.Proofs.YtfdolhppbimbmaaDoor
set_option linter.unusedVariables false
set_option linter.unusedSimpArgs false
open Go.RowKit
attribute [local go_sem] Oper.semAt_some

def smB (ls : List Ln) : Bool := decide (ls.length ≤ 12) && ls.all fun l => decide (l.cells.length ≤ 40)
theorem smB_ok {ls : List Ln} (h : smB ls = true) : ls.length ≤ 12 ∧ ∀ l ∈ ls, l.cells.length ≤ 40 := by
  unfold smB at h
  simpa using h
set_option maxHeartbeats 1000000 in
theorem tsmall_any (F : Nat → Prop) (v : Value) (xs : List Ln) (w : World) (ha : lnEl.Rd F w v xs) :
    Calls Tryd.prog 59 #[v] w fun e w' => e = .returned (.bool (smB xs)) ∧ Sees w w' := by
  obtain ⟨ao, ca, rfl, hca⟩ := ha.slice'
  have hw := Sees.refl w
  obtain ⟨n, hna⟩ : ∃ n, n = xs.length := ⟨_, rfl⟩
  rw [← hna] at ha
  rw [← hna]
  have Hna := Lib.hid hna
  have Ha := Lib.hid ha
  clear hna ha hca
  go_enter Tryd.func59, Tryd.ntmps59
  go_wp2
  go_loop [3] (fun i => ∃ k : Nat, k ≤ n ∧ k ≤ 13 ∧ i = .int .i64 k ∧ (∀ (j : Nat) x, j < k → xs[j]? = some x → x.cells.length ≤ 40)) (fun i => n - (intOf i).toNat)
  case atStart => exact ⟨0, by omega, by omega, rfl, fun j x h => by omega⟩
  case round =>
    obtain ⟨k, hk, hk2, rfl, hm⟩ := hrel
    have Hm := Lib.hid hm; clear hm
    by_cases hlt : k < n
    · by_cases h11 : k < 13
      · obtain ⟨b1, o1, x, a1, m1, rfl, _, hx, _, x1, x2, x3⟩ := Ha.out.line hlt
        have Hx := Lib.hid hx
        have HW := Lib.hid hw
        generalize hl1 : x.cells.length = n1 at *
        have H1 := Lib.hid hl1
        clear hx x3 Ha hl1 hw
        by_cases h24 : n1 ≤ 40
        · have e1 : decide ((n1 : Int) > 40) = false := decide_eq_false (by omega)
          have e2 : decide ((40 : Int) < n1) = false := decide_eq_false (by omega)
          go_wp2
          go_round
          case rel => exact ⟨k + 1, by omega, by omega, by go_num, fun j y hj hy => by
            rcases Nat.lt_or_ge j k with h | h
            · exact Hm.out j y h hy
            · obtain rfl : j = k := by omega
              rw [Hx.out] at hy; cases hy; rw [H1.out]; exact h24⟩
          case measure => simp [intOf]; omega
        · have e1 : decide ((n1 : Int) > 40) = true := decide_eq_true (by omega)
          have e2 : decide ((40 : Int) < n1) = true := decide_eq_true (by omega)
          have Hf : Hid (smB xs = false) := Bool.eq_false_iff.2 fun h => by
            have := (smB_ok h).2 x (List.mem_iff_getElem?.2 ⟨_, Hx.out⟩)
            rw [H1.out] at this; omega
          go_wp2
          go_ret
          exact ⟨by rw [Hf.out]; rfl, HW.out⟩
      · have Hf : Hid (smB xs = false) := Bool.eq_false_iff.2 fun h => by
          have := (smB_ok h).1; have := Hna.out; omega
        have e1 : decide (n ≤ 12) = false := decide_eq_false (by omega)
        have e2 : decide ((n : Int) ≤ 12) = false := decide_eq_false (by omega)
        go_wp2
        go_ret
        exact ⟨by rw [Hf.out]; first | rfl | (simp; omega), hw⟩
    · obtain rfl : k = n := by omega
      have Hf : Hid (smB xs = decide (k ≤ 12)) := by
        have h : xs.all (fun l => decide (l.cells.length ≤ 40)) = true := by
          rw [List.all_eq_true]
          intro x hx
          obtain ⟨j, hj⟩ := List.mem_iff_getElem?.1 hx
          exact decide_eq_true (Hm.out j x (by have := Hna.out; have := (List.getElem?_eq_some_iff.1 hj).1; omega) hj)
        unfold Hid smB; rw [h, ← Hna.out]; simp
      rcases Bool.eq_false_or_eq_true (decide (k ≤ 12)) with g1 | g1
      all_goals
        rw [g1] at Hf
        first | (have g2 := of_decide_eq_true g1; have g3 : decide ((k : Int) ≤ 12) = true := decide_eq_true (by omega)) | (have g2 := of_decide_eq_false g1; have g3 : decide ((k : Int) ≤ 12) = false := decide_eq_false (by omega))
        go_wp2
        go_ret
        exact ⟨by rw [Hf.out]; simp <;> omega, hw⟩
end Go.Proofs.YtfdolhppbimbmaaDoor
