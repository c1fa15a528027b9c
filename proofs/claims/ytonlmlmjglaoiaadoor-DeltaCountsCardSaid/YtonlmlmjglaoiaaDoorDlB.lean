/- The statements' comparison of patches; how many cells patches have. No condition. -/
import Derived.Test.YtonlmlmjglaoiaaDoorDlA
namespace Go.Proofs.YtonlmlmjglaoiaaDoor
set_option linter.unusedVariables false
set_option linter.unusedSimpArgs false
open Go.RowKit

theorem bne_of {a b : Int} {t : Bool} (h : (a == b) = t) : (a != b) = !t := by rw [bne, h]
theorem ways4 (a b c d : Bool) : (a = true ∧ b = true ∧ c = true ∧ d = true) ∨ (a = true ∧ b = true ∧ c = true ∧ d = false) ∨ (a = true ∧ b = true ∧ c = false) ∨ (a = true ∧ b = false) ∨ a = false := by
  cases a <;> cases b <;> cases c <;> cases d <;> simp
theorem ways3 (a b c : Bool) : (a = true ∧ b = true ∧ c = true) ∨ (a = true ∧ b = true ∧ c = false) ∨ (a = true ∧ b = false) ∨ a = false := by
  cases a <;> cases b <;> cases c <;> simp
theorem ways2 (a b : Bool) : (a = true ∧ b = true) ∨ (a = true ∧ b = false) ∨ a = false := by
  cases a <;> cases b <;> simp

set_option maxHeartbeats 2000000 in
theorem patches45_any (F G : Nat → Prop) (v u : Value) (xs ys : List Pt) (w : World) (ha : ptEl.Rd F w v xs) (hb : ptEl.Rd G w u ys) (hn : xs.length ≤ 1000000000) (hnc : ∀ l ∈ xs, l.cells.length ≤ 1000000) :
    Calls Tryd.prog 25 #[v, u] w fun e w' => e = .returned (.bool (decide (xs = ys))) ∧ Sees w w' := by
  have Hnc := Lib.hid hnc
  clear hnc
  obtain ⟨ao, ca, rfl, hca⟩ := ha.slice'; obtain ⟨bo, cb, rfl, hcb⟩ := hb.slice'; have hw := Sees.refl w
  by_cases hlen : xs.length = ys.length
  · obtain ⟨n, hna⟩ : ∃ n, n = xs.length := ⟨_, rfl⟩; have hnb : n = ys.length := (by omega); rw [← hna] at ha hn; rw [← hnb] at hb; rw [← hna, ← hnb]; have Hna := Lib.hid hna; have Hnb := Lib.hid hnb; have Ha := Lib.hid ha; have Hb := Lib.hid hb; clear hna hnb ha hb hlen hca hcb
    go_enter Tryd.func25, Tryd.ntmps25
    go_wp2
    go_loopw [5] (fun i wr => ∃ k : Nat, k ≤ n ∧ i = .int .i64 k ∧ xs.take k = ys.take k ∧ Sees w wr) (fun i _ => n - (intOf i).toNat)
    case atStart => exact ⟨0, by omega, rfl, by simp, Sees.refl _⟩
    case round =>
      obtain ⟨k, hk, rfl, hm, hS⟩ := hrel
      have Hm := Lib.hid hm; clear hm hw
      by_cases hlt : k < n
      · obtain ⟨b1, o1, x, a1, m1, rfl, _, hx, _, ⟨x0, x1, x2, x4⟩, x3⟩ := (Ha.out.sees hS).patch hlt
        obtain ⟨b2, o2, y, a2, m2, rfl, _, hy, _, ⟨y0, y1, y2, y4⟩, y3⟩ := (Hb.out.sees hS).patch hlt
        have g0 := fun d os => (sees_grow wr d os).cell x0
        have g1 := fun d os => (sees_grow wr d os).cell x1
        have g2 := fun d os => (sees_grow wr d os).cell x2
        have g3 := fun d os => (sees_grow wr d os).cell x4
        have h0 := fun d os => (sees_grow wr d os).cell y0
        have h1 := fun d os => (sees_grow wr d os).cell y1
        have h2 := fun d os => (sees_grow wr d os).cell y2
        have h3 := fun d os => (sees_grow wr d os).cell y4
        have X3 := Lib.hid x3
        have Y3 := Lib.hid y3
        have Hx := Lib.hid hx
        have Hy := Lib.hid hy
        have Hxl := Lib.hid (Hnc.out x (List.mem_iff_getElem?.2 ⟨_, hx⟩))
        clear hx hy x0 x1 x2 x3 x4 y0 y1 y2 y3 y4 Ha Hb
        generalize hl1 : x.cells.length = n1 at *
        generalize hl2 : y.cells.length = n2 at *
        have H1 := Lib.hid hl1
        clear hl1 hl2
        rcases ways4 (x.row == y.row) (x.col == y.col) (x.soft == y.soft) (decide (x.cells = y.cells)) with ⟨e1, e2, e3, e4⟩ | ⟨e1, e2, e3, e4⟩ | ⟨e1, e2, e3⟩ | ⟨e1, e2⟩ | e1
        all_goals
          have f1 := bne_of e1
          (try have f2 := bne_of e2)
          go_wp2
          refine wp_region_quiet_below (by kernel_rfl) (by kernel_rfl) ?_
          repeat (first | go_big_quiet_skip | (go_big_quiet_want; go_big_quiet_op; go_big_quiet_on))
          (try (go_big_quiet_want; go_big_quiet_op; apply Exists.intro; refine ⟨fun p => Calls.regrown_of (cells45_any F G _ _ x.cells y.cells _ (X3.out.sees (sees_grow wr _ _)) (Y3.out.sees (sees_grow wr _ _)) (by rw [H1.out]; exact Hxl.out)), ?_⟩; go_big_quiet_on))
          repeat (first | go_big_quiet_skip | (go_big_quiet_want; go_big_quiet_op; go_big_quiet_on))
          refine wpQuiet_nil ?_; intro w2 hw2'; have hw2 := regrown_sees hw2'; clear hw2'
          go_wp2
        · have he : x = y := by
            obtain ⟨xa, xb, xc, xs⟩ := x; obtain ⟨ya, yb, yc, ys⟩ := y
            simp at e1 e2 e3 e4; simp [e1, e2, e3, e4]
          go_roundw
          case rel => exact ⟨k + 1, by omega, by go_num, take_more Hm.out Hx.out (by rw [he]; exact Hy.out), hS.trans hw2⟩
          case measure => simp [intOf]; omega
        all_goals
          have Hf := ne_of_at Hx.out Hy.out (fun e => by subst e; first | (simp at e4; done) | (simp at e3; done) | (simp at e2; done) | (simp at e1; done))
          go_ret
          exact ⟨ret_bool (decide_eq_false Hf).symm, hS.trans hw2⟩
      · obtain rfl : k = n := by omega
        have Hf := Lib.hid (eq_of_takes Hna.out Hnb.out Hm.out)
        go_wp2
        go_ret
        exact ⟨ret_bool (decide_eq_true Hf.out).symm, hS⟩
  · have Hf := Lib.hid (fun h => hlen (congrArg List.length h) : xs ≠ ys); obtain ⟨n, hna⟩ : ∃ n, n = xs.length := ⟨_, rfl⟩; obtain ⟨m, hnb⟩ : ∃ m, m = ys.length := ⟨_, rfl⟩; have hnm : ((n : Int) != (m : Int)) = true := (by rw [bne_iff_ne]; omega); rw [← hna, ← hnb]; clear hna hnb hlen ha hb hca hcb
    go_enter Tryd.func25, Tryd.ntmps25
    go_wp2
    go_ret
    exact ⟨ret_bool (decide_eq_false Hf.out).symm, hw⟩

/-- How many cells patches have. -/
def cellsOf (ls : List Pt) : Nat := (ls.map (·.cells.length)).sum
theorem cellsOf_take {ls : List Pt} {k : Nat} {p : Pt} (h : ls[k]? = some p) : cellsOf (ls.take (k + 1)) = cellsOf (ls.take k) + p.cells.length := by
  unfold cellsOf; rw [List.take_add_one, h]; simp
theorem cellsOf_le {ls : List Pt} {k c : Nat} (h : ∀ l ∈ ls, l.cells.length ≤ c) : cellsOf (ls.take k) ≤ k * c := by
  induction k with
  | zero => simp [cellsOf]
  | succ k ih =>
    rcases hk : ls[k]? with _ | p
    · rw [List.take_add_one, hk]; simp; rw [Nat.add_mul]; omega
    · rw [cellsOf_take hk, Nat.add_mul]
      have := h p (List.mem_iff_getElem?.2 ⟨_, hk⟩)
      omega

set_option maxHeartbeats 1000000 in
theorem cellsN_any (F : Nat → Prop) (v : Value) (xs : List Pt) (w : World) (ha : ptEl.Rd F w v xs) (hn : xs.length ≤ 1000000) (hnc : ∀ l ∈ xs, l.cells.length ≤ 1000000) :
    Calls Tryd.prog 22 #[v] w fun e w' => e = .returned (.int .i64 (cellsOf xs)) ∧ Sees w w' := by
  have Hnc := Lib.hid hnc
  obtain ⟨ao, ca, rfl, hca⟩ := ha.slice'
  obtain ⟨n, hna⟩ : ∃ n, n = xs.length := ⟨_, rfl⟩
  rw [← hna] at ha hn
  rw [← hna]
  have Hna := Lib.hid hna
  have Ha := Lib.hid ha
  clear hna ha hca hnc
  go_enter Tryd.func22, Tryd.ntmps22
  go_wp2
  go_loopw [3, 8] (fun s i wr => ∃ k : Nat, k ≤ n ∧ i = .int .i64 k ∧ s = .int .i64 (cellsOf (xs.take k)) ∧ Sees w wr) (fun _ i _ => n - (intOf i).toNat)
  case atStart => exact ⟨0, by omega, rfl, rfl, Sees.refl _⟩
  case round =>
    obtain ⟨k, hk, rfl, rfl, hS⟩ := hrel
    have HS := Lib.hid hS
    by_cases hlt : k < n
    · obtain ⟨b1, o1, x, a1, m1, rfl, _, hx, _, ⟨x0, x1, x2, x4⟩, x3⟩ := (Ha.out.sees hS).patch hlt
      have hc := cellsOf_take hx
      have hb := cellsOf_le (k := k) Hnc.out
      have hb2 := Hnc.out x (List.mem_iff_getElem?.2 ⟨_, hx⟩)
      have hb3 : cellsOf (xs.take k) ≤ 1000000000000 := Nat.le_trans hb (by have := Nat.mul_le_mul_right 1000000 (show k ≤ 1000000 by omega); omega)
      have Hc := Lib.hid hc
      generalize cellsOf (xs.take k) = s at *
      generalize x.cells.length = n1 at *
      clear hx x3 Ha hc hb Hnc hS
      go_wp2
      go_roundw
      case rel => exact ⟨k + 1, by omega, by go_num, by rw [Hc.out]; go_num, HS.out.alloc _⟩
      case measure => simp [intOf]; omega
    · obtain rfl : k = n := by omega
      go_wp2
      go_ret
      exact ⟨by rw [List.take_of_length_le (by rw [← Hna.out]; exact Nat.le_refl _)]; rfl, HS.out⟩
end Go.Proofs.YtonlmlmjglaoiaaDoor
