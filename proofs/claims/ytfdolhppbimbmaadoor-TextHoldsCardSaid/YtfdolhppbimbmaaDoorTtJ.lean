/- text.Block (40). The tables hold what the program's text lays. -/
import Derived.Test.YtfdolhppbimbmaaDoorTtI
import Derived.Lib.Join
namespace Go.Proofs.YtfdolhppbimbmaaDoor
set_option linter.unusedVariables false
set_option linter.unusedSimpArgs false
open Go.RowKit
attribute [local go_sem] Oper.semAt_some

/-- A line's part in a block, and a block. -/
def blkRow (l r : Nat) (x : Ln) : List UInt8 := Lib.trimRightB (txts (fixL ((x.cells.drop (min l x.cells.length)).take (min (r + 1) x.cells.length - min l x.cells.length)))) 32
def blkL (xs : List Ln) (t l b r : Nat) : List UInt8 := Lib.join (((xs.drop t).take (b + 1 - t)).map (blkRow l r)) [10]
theorem trimB_len (l : List UInt8) (c : UInt8) : (Lib.trimRightB l c).length ≤ l.length := by
  unfold Lib.trimRightB
  rw [List.length_reverse]
  have := (List.dropWhile_suffix (p := (· == c)) (l := l.reverse)).sublist.length_le
  rw [List.length_reverse] at this
  exact this
theorem fixL_len (cs : List Cell) : (fixL cs).length = cs.length := fixTo_len cs _
theorem blkRow_len (l r : Nat) (x : Ln) (hx : x.cells.length ≤ 1000000) (hr : r ≤ 1000) : (blkRow l r x).length ≤ 20000 := by
  have h1 := trimB_len (txts (fixL ((x.cells.drop (min l x.cells.length)).take (min (r + 1) x.cells.length - min l x.cells.length)))) 32
  have h2 := txts_len (fixL ((x.cells.drop (min l x.cells.length)).take (min (r + 1) x.cells.length - min l x.cells.length)))
  rw [fixL_len, List.length_take, List.length_drop] at h2
  have h3 : min (min (r + 1) x.cells.length - min l x.cells.length) (x.cells.length - min l x.cells.length) ≤ 1001 := by omega
  have h4 := Nat.mul_le_mul_right 16 h3
  unfold blkRow
  omega
theorem join_len : ∀ (xs : List (List UInt8)) (m : Nat), (∀ x ∈ xs, x.length ≤ m) → (Lib.join xs [10]).length ≤ xs.length * (m + 1)
  | [], m, _ => by simp [Lib.join]
  | [x], m, h => by have := h x (by simp); simp [Lib.join]; omega
  | x :: y :: r, m, h => by
    have h1 := h x (by simp)
    have h2 := join_len (y :: r) m (fun z hz => h z (by simp only [List.mem_cons] at hz ⊢; exact .inr hz))
    have e : Lib.join (x :: y :: r) [10] = x ++ [10] ++ Lib.join (y :: r) [10] := by simp [Lib.join, List.intercalate]
    rw [e, List.length_append, List.length_append, List.length_cons (a := x), Nat.succ_mul]
    simp only [List.length_singleton]
    omega
set_option maxHeartbeats 8000000 in
set_option maxRecDepth 100000 in
theorem tblock_err (G : Nat → Prop) (v : Value) (xs : List Ln) (w : World) (ht : Tabs w) (hv : lnEl.Rd G w v xs) (hl : ∀ l ∈ xs, l.cells.length ≤ 1000000) (hn0 : xs.length ≤ 1000000) (t l b r : Int) (hok : vldL xs = false) :
    Calls Tryd.prog 111 #[v, .int .i64 t, .int .i64 l, .int .i64 b, .int .i64 r] w fun e w' => e = .returned (.tuple #[.string ⟨#[]⟩, .int .i64 2]) ∧ Sees w w' := by
  have KV := Lib.hid (tvalid_any G v xs w ht hv hl (by omega))
  rw [hok] at KV
  clear hv hl ht hok
  go_enter Tryd.func111, Tryd.ntmps111
  go_wp2_with fail
  refine KV.out.mono ?_
  rintro e W1 ⟨rfl, s⟩
  have HS1 := Lib.hid s
  clear s KV
  go_wp2
  go_ret2
  exact ⟨rfl, HS1.out⟩
set_option maxHeartbeats 8000000 in
set_option maxRecDepth 100000 in
theorem tblock_range (G : Nat → Prop) (v : Value) (xs : List Ln) (w : World) (ht : Tabs w) (hv : lnEl.Rd G w v xs) (hl : ∀ l ∈ xs, l.cells.length ≤ 1000000) (hn0 : xs.length ≤ 1000000) (t l b r : Int) (hok : vldL xs = true)
    (hr : t < 0 ∨ (xs.length : Int) ≤ t ∨ b < 0 ∨ (xs.length : Int) ≤ b ∨ l < 0 ∨ 1000 ≤ l ∨ r < 0 ∨ 1000 ≤ r) :
    Calls Tryd.prog 111 #[v, .int .i64 t, .int .i64 l, .int .i64 b, .int .i64 r] w fun e w' => e = .returned (.tuple #[.string ⟨#[]⟩, .int .i64 3]) ∧ Sees w w' := by
  have KV := Lib.hid (tvalid_any G v xs w ht hv hl (by omega))
  rw [hok] at KV
  obtain ⟨ao, c, rfl, _⟩ := hv.slice'
  obtain ⟨n, hn⟩ : ∃ n, n = xs.length := ⟨_, rfl⟩
  rw [← hn] at KV hn0 hr ⊢
  have HR := Lib.hid hr
  clear hv hl hn ht hok hr
  go_enter Tryd.func111, Tryd.ntmps111
  go_wp2_with fail
  refine KV.out.mono ?_
  rintro e W1 ⟨rfl, s⟩
  have HS1 := Lib.hid s
  clear s KV
  rcases Bool.eq_false_or_eq_true (decide (t < 0)) with g1 | g1
  · go_wp2
    go_ret2
    exact ⟨rfl, HS1.out⟩
  rcases Bool.eq_false_or_eq_true (decide (t ≥ (n : Int))) with g2 | g2
  · go_wp2
    go_ret2
    exact ⟨rfl, HS1.out⟩
  rcases Bool.eq_false_or_eq_true (decide (b < 0)) with g3 | g3
  · go_wp2
    go_ret2
    exact ⟨rfl, HS1.out⟩
  rcases Bool.eq_false_or_eq_true (decide (b ≥ (n : Int))) with g4 | g4
  · go_wp2
    go_ret2
    exact ⟨rfl, HS1.out⟩
  rcases Bool.eq_false_or_eq_true (decide (l < 0)) with g5 | g5
  · go_wp2
    go_ret2
    exact ⟨rfl, HS1.out⟩
  rcases Bool.eq_false_or_eq_true (decide (l ≥ 1000)) with g6 | g6
  · go_wp2
    go_ret2
    exact ⟨rfl, HS1.out⟩
  rcases Bool.eq_false_or_eq_true (decide (r < 0)) with g7 | g7
  · go_wp2
    go_ret2
    exact ⟨rfl, HS1.out⟩
  rcases Bool.eq_false_or_eq_true (decide (r ≥ 1000)) with g8 | g8
  · go_wp2
    go_ret2
    exact ⟨rfl, HS1.out⟩
  exfalso
  have a1 := of_decide_eq_false g1
  have a2 := of_decide_eq_false g2
  have a3 := of_decide_eq_false g3
  have a4 := of_decide_eq_false g4
  have a5 := of_decide_eq_false g5
  have a6 := of_decide_eq_false g6
  have a7 := of_decide_eq_false g7
  have a8 := of_decide_eq_false g8
  have := HR.out
  omega
set_option maxHeartbeats 8000000 in
set_option maxRecDepth 100000 in
theorem tblock_order (G : Nat → Prop) (v : Value) (xs : List Ln) (w : World) (ht : Tabs w) (hv : lnEl.Rd G w v xs) (hl : ∀ l ∈ xs, l.cells.length ≤ 1000000) (hn0 : xs.length ≤ 1000000) (t l b r : Nat) (hok : vldL xs = true)
    (h1 : t < xs.length) (h2 : b < xs.length) (h3 : l < 1000) (h4 : r < 1000) (ho : b < t ∨ r < l) :
    Calls Tryd.prog 111 #[v, .int .i64 t, .int .i64 l, .int .i64 b, .int .i64 r] w fun e w' => e = .returned (.tuple #[.string ⟨#[]⟩, .int .i64 13]) ∧ Sees w w' := by
  have KV := Lib.hid (tvalid_any G v xs w ht hv hl (by omega))
  rw [hok] at KV
  obtain ⟨ao, c, rfl, _⟩ := hv.slice'
  obtain ⟨n, hn⟩ : ∃ n, n = xs.length := ⟨_, rfl⟩
  rw [← hn] at KV hn0 h1 h2 ⊢
  have HR := Lib.hid ho
  clear hv hl hn ht hok ho
  have g1 : decide ((t : Int) < 0) = false := decide_eq_false (by omega)
  have g2 : decide ((t : Int) ≥ (n : Int)) = false := decide_eq_false (by omega)
  have g3 : decide ((b : Int) < 0) = false := decide_eq_false (by omega)
  have g4 : decide ((b : Int) ≥ (n : Int)) = false := decide_eq_false (by omega)
  have g5 : decide ((l : Int) < 0) = false := decide_eq_false (by omega)
  have g6 : decide ((l : Int) ≥ 1000) = false := decide_eq_false (by omega)
  have g7 : decide ((r : Int) < 0) = false := decide_eq_false (by omega)
  have g8 : decide ((r : Int) ≥ 1000) = false := decide_eq_false (by omega)
  have f1 : ¬ ((n : Int) ≤ t) := by omega
  have f2 : ¬ (n ≤ t) := by omega
  have f3 : ¬ ((n : Int) ≤ b) := by omega
  have f4 : ¬ (n ≤ b) := by omega
  go_enter Tryd.func111, Tryd.ntmps111
  go_wp2_with fail
  refine KV.out.mono ?_
  rintro e W1 ⟨rfl, s⟩
  have HS1 := Lib.hid s
  clear s KV
  rcases Bool.eq_false_or_eq_true (decide ((t : Int) > (b : Int))) with c1 | c1
  · have c2 : (b : Int) < (t : Int) := of_decide_eq_true c1
    have c3 : b < t := by omega
    go_wp2
    go_ret2
    exact ⟨rfl, HS1.out⟩
  · have c2 : ¬ ((b : Int) < (t : Int)) := of_decide_eq_false c1
    have c3 : ¬ (b < t) := by omega
    have d1 : decide ((l : Int) > (r : Int)) = true := decide_eq_true (by have := HR.out; omega)
    have d2 : (r : Int) < (l : Int) := of_decide_eq_true d1
    have d3 : r < l := by omega
    go_wp2
    go_ret2
    exact ⟨rfl, HS1.out⟩
end Go.Proofs.YtfdolhppbimbmaaDoor
