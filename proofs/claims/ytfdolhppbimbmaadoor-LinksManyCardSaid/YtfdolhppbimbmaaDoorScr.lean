/- Rows: what the statements' tests of them answer. The tables hold what the program's text lays. -/
import Derived.Test.YtfdolhppbimbmaaDoorElT
import Derived.Test.YtfdolhppbimbmaaDoorRg2
import Derived.Test.YtfdolhppbimbmaaDoorLnA
import Derived.Test.YtfdolhppbimbmaaDoorTxA
namespace Go.Proofs.YtfdolhppbimbmaaDoor
set_option linter.unusedVariables false
set_option linter.unusedSimpArgs false
open Go.RowKit

theorem bne_of {a b : Int} {t : Bool} (h : (a == b) = t) : (a != b) = !t := by rw [bne, h]
theorem ways4 (a b c d : Bool) : (a = true ∧ b = true ∧ c = true ∧ d = true) ∨ (a = true ∧ b = true ∧ c = true ∧ d = false) ∨ (a = true ∧ b = true ∧ c = false) ∨ (a = true ∧ b = false) ∨ a = false := by
  cases a <;> cases b <;> cases c <;> cases d <;> simp
theorem ways3 (a b c : Bool) : (a = true ∧ b = true ∧ c = true) ∨ (a = true ∧ b = true ∧ c = false) ∨ (a = true ∧ b = false) ∨ a = false := by
  cases a <;> cases b <;> cases c <;> simp
theorem ways2 (a b : Bool) : (a = true ∧ b = true) ∨ (a = true ∧ b = false) ∨ a = false := by
  cases a <;> cases b <;> simp

/-- Is a line one of a screen with so many columns? -/
def scrAt (n : Nat) (l : Ln) : Bool := lnOk l.cells && !(l.cells.length == 0) && (l.cells.length == n)
def cols (ls : List Ln) : Nat := match ls with | [] => 0 | l :: _ => l.cells.length
def scrB (ls : List Ln) : Bool := ls.all (scrAt (cols ls))
theorem cols_of {ls : List Ln} {x : Ln} (h : ls[0]? = some x) : cols ls = x.cells.length := by
  cases ls with
  | nil => cases h
  | cons l r => cases h; rfl
theorem scrB_bad {ls : List Ln} {k : Nat} {x : Ln} (h : ls[k]? = some x) (hb : scrAt (cols ls) x = false) : scrB ls = false := by
  unfold scrB
  rw [List.all_eq_false]
  exact ⟨x, List.mem_iff_getElem?.2 ⟨_, h⟩, by simp [hb]⟩
theorem scr_more {ls : List Ln} {k n : Nat} {x : Ln} (h : ls[k]? = some x) (hb : scrAt n x = true) (ha : (ls.take k).all (scrAt n) = true) : (ls.take (k + 1)).all (scrAt n) = true := by
  rw [List.take_add_one, List.all_append, ha, h]; simp [hb]
theorem scrB_len {ls : List Ln} (h : scrB ls = true) {x : Ln} (hx : x ∈ ls) : x.cells.length = cols ls ∧ lnOk x.cells = true ∧ 0 < x.cells.length := by
  unfold scrB at h
  have := List.all_eq_true.1 h x hx
  simp [scrAt] at this
  have h2 := this.1.2
  refine ⟨this.2, this.1.1, ?_⟩
  rcases Nat.eq_zero_or_pos x.cells.length with h3 | h3
  · exact absurd (List.eq_nil_of_length_eq_zero h3) h2
  · exact h3

/-- Are lines rows, and is a number that of a first row? -/
def rowsOk (ls : List Ln) (first : Int) : Bool := scrB ls && (decide (first ≥ 0) && decide (first ≤ 1099511627776))
theorem rowsOk_ok {ls : List Ln} {first : Int} (h : rowsOk ls first = true) : (∀ x ∈ ls, x.cells.length = cols ls ∧ lnOk x.cells = true ∧ 0 < x.cells.length) ∧ 0 ≤ first ∧ first ≤ 1099511627776 := by
  unfold rowsOk at h
  rw [Bool.and_eq_true, Bool.and_eq_true, decide_eq_true_eq, decide_eq_true_eq] at h
  exact ⟨fun x hx => scrB_len h.1 hx, h.2.1, h.2.2⟩
theorem rowsOk_no {ls : List Ln} {first : Int} (h : scrB ls = false) : rowsOk ls first = false := by unfold rowsOk; rw [h]; rfl
/-- At most so many lines with at most so many cells each. -/
def smallB (ls : List Ln) : Bool := decide (ls.length ≤ 10) && ls.all fun l => decide (l.cells.length ≤ 20)
theorem smallB_ok {ls : List Ln} (h : smallB ls = true) : ls.length ≤ 10 ∧ ∀ l ∈ ls, l.cells.length ≤ 20 := by
  unfold smallB at h
  simpa using h
set_option maxHeartbeats 1000000 in
theorem small_any (F : Nat → Prop) (v : Value) (xs : List Ln) (w : World) (ha : lnEl.Rd F w v xs) (p : ByteArray) :
    Calls Tryd.prog 15 #[v, .string p] w fun e w' => e = .returned (.bool (smallB xs && decide (p.size ≤ 30))) ∧ Sees w w' := by
  obtain ⟨ao, ca, rfl, hca⟩ := ha.slice'
  have hw := Sees.refl w
  obtain ⟨n, hna⟩ : ∃ n, n = xs.length := ⟨_, rfl⟩
  rw [← hna] at ha
  rw [← hna]
  have Hna := Lib.hid hna
  have Ha := Lib.hid ha
  clear hna ha hca
  go_enter Tryd.func15, Tryd.ntmps15
  go_wp2
  go_loop [5] (fun i => ∃ k : Nat, k ≤ n ∧ k ≤ 11 ∧ i = .int .i64 k ∧ (∀ (j : Nat) x, j < k → xs[j]? = some x → x.cells.length ≤ 20)) (fun i => n - (intOf i).toNat)
  case atStart => exact ⟨0, by omega, by omega, rfl, fun j x h => by omega⟩
  case round =>
    obtain ⟨k, hk, hk2, rfl, hm⟩ := hrel
    have Hm := Lib.hid hm; clear hm
    by_cases hlt : k < n
    · by_cases h11 : k < 11
      · obtain ⟨b1, o1, x, a1, m1, rfl, _, hx, _, x1, x2, x3⟩ := Ha.out.line hlt
        have Hx := Lib.hid hx
        have HW := Lib.hid hw
        generalize hl1 : x.cells.length = n1 at *
        have H1 := Lib.hid hl1
        clear hx x3 Ha hl1 hw
        by_cases h24 : n1 ≤ 20
        · have e1 : decide ((n1 : Int) > 20) = false := decide_eq_false (by omega)
          have e2 : decide ((20 : Int) < n1) = false := decide_eq_false (by omega)
          go_wp2
          go_round
          case rel => exact ⟨k + 1, by omega, by omega, by go_num, fun j y hj hy => by
            rcases Nat.lt_or_ge j k with h | h
            · exact Hm.out j y h hy
            · obtain rfl : j = k := by omega
              rw [Hx.out] at hy; cases hy; rw [H1.out]; exact h24⟩
          case measure => simp [intOf]; omega
        · have e1 : decide ((n1 : Int) > 20) = true := decide_eq_true (by omega)
          have e2 : decide ((20 : Int) < n1) = true := decide_eq_true (by omega)
          have Hf : Hid (smallB xs = false) := Bool.eq_false_iff.2 fun h => by
            have := (smallB_ok h).2 x (List.mem_iff_getElem?.2 ⟨_, Hx.out⟩)
            rw [H1.out] at this; omega
          go_wp2
          go_ret
          exact ⟨by rw [Hf.out]; rfl, HW.out⟩
      · have Hf : Hid (smallB xs = false) := Bool.eq_false_iff.2 fun h => by
          have := (smallB_ok h).1; have := Hna.out; omega
        have e1 : decide (n ≤ 10) = false := decide_eq_false (by omega)
        have e2 : decide ((n : Int) ≤ 10) = false := decide_eq_false (by omega)
        go_wp2
        go_ret
        exact ⟨by rw [Hf.out]; first | rfl | (simp; omega), hw⟩
    · obtain rfl : k = n := by omega
      have Hf : Hid (smallB xs = decide (k ≤ 10)) := by
        have h : xs.all (fun l => decide (l.cells.length ≤ 20)) = true := by
          rw [List.all_eq_true]
          intro x hx
          obtain ⟨j, hj⟩ := List.mem_iff_getElem?.1 hx
          exact decide_eq_true (Hm.out j x (by have := Hna.out; have := (List.getElem?_eq_some_iff.1 hj).1; omega) hj)
        unfold Hid smallB; rw [h, ← Hna.out]; simp
      rcases Bool.eq_false_or_eq_true (decide (k ≤ 10)) with g1 | g1
      all_goals
        rw [g1] at Hf
        first | (have g2 := of_decide_eq_true g1; have g3 : decide ((k : Int) ≤ 10) = true := decide_eq_true (by omega)) | (have g2 := of_decide_eq_false g1; have g3 : decide ((k : Int) ≤ 10) = false := decide_eq_false (by omega))
        go_wp2
        go_ret
        exact ⟨by rw [Hf.out]; simp <;> omega, hw⟩
end Go.Proofs.YtfdolhppbimbmaaDoor
