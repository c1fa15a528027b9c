/- The statements' comparisons of cells, lines and patches. No condition. -/
import Derived.Test.YtonlmlmjglaoiaaDoorDlP
namespace Go.Proofs.YtonlmlmjglaoiaaDoor
set_option linter.unusedVariables false
set_option linter.unusedSimpArgs false
open Go.RowKit

theorem bool_cases (b : Bool) : b = true ∨ b = false := by cases b <;> simp
theorem eq_of_takes {α : Type} {n : Nat} {xs ys : List α} (h1 : n = xs.length) (h2 : n = ys.length) (h : xs.take n = ys.take n) : xs = ys := by
  rwa [List.take_of_length_le (by omega), List.take_of_length_le (by omega)] at h
theorem ne_of_at {α : Type} {k : Nat} {xs ys : List α} {x y : α} (h1 : xs[k]? = some x) (h2 : ys[k]? = some y) (h : x ≠ y) : xs ≠ ys := by
  rintro rfl; exact h (Option.some.inj (h1.symm.trans h2))

set_option maxHeartbeats 1000000 in
theorem cells45_any (F G : Nat → Prop) (v u : Value) (xs ys : List Cell) (w : World) (ha : cellEl.Rd F w v xs) (hb : cellEl.Rd G w u ys) (hn : xs.length ≤ 1000000) :
    Calls Tryd.prog 30 #[v, u] w fun e w' => e = .returned (.bool (decide (xs = ys))) ∧ Sees w w' := by
  obtain ⟨ao, ca, rfl, hca⟩ := ha.slice'; obtain ⟨bo, cb, rfl, hcb⟩ := hb.slice'; have hw := Sees.refl w
  by_cases hlen : xs.length = ys.length
  · obtain ⟨n, hna⟩ : ∃ n, n = xs.length := ⟨_, rfl⟩; have hnb : n = ys.length := (by omega); rw [← hna] at ha hn; rw [← hnb] at hb; rw [← hna, ← hnb]; have Hna := Lib.hid hna; have Hnb := Lib.hid hnb; have Ha := Lib.hid ha; have Hb := Lib.hid hb; clear hna hnb ha hb hlen hca hcb
    go_enter Tryd.func30, Tryd.ntmps30
    go_wp2
    go_loopw [5] (fun i wr => ∃ k : Nat, k ≤ n ∧ i = .int .i64 k ∧ xs.take k = ys.take k ∧ Sees w wr) (fun i _ => n - (intOf i).toNat)
    case atStart => exact ⟨0, by omega, rfl, by simp, Sees.refl _⟩
    case round =>
      obtain ⟨k, hk, rfl, hm, hS⟩ := hrel
      have Hm := Lib.hid hm; clear hm hw
      by_cases hlt : k < n
      · obtain ⟨b1, o1, c, rfl, _, hc, hca⟩ := Ha.out.cell hlt
        obtain ⟨b2, o2, d, rfl, _, hd, hdb⟩ := Hb.out.cell hlt
        have F1 := Lib.hid (hca.sees hS)
        have F2 := Lib.hid (hdb.sees hS)
        have Hc := Lib.hid hc
        have Hd := Lib.hid hd
        clear hc hd hca hdb Ha Hb
        rcases bool_cases (decide (c = d)) with he | he
        all_goals
          go_wp2
          refine wp_region_sees (by kernel_rfl) (by kernel_rfl) ?_
          repeat (first | (refine wpQuiet_val (fun K hK => ⟨?_, ?_⟩); (focus (go_simp; done)); apply Exists.intro; refine ⟨fun W hW => ?_, ?_⟩; (focus ( go_simp; first | done | rfl)); go_simp; refine hK _ ?_; clear hK K) | (refine wpQuiet_off (fun K hK => ⟨?_, ?_⟩); (focus (go_simp; done)); go_simp; refine hK _ ?_; clear hK K))
          refine wpQuiet_run (c).val ?_ (fun W hW => exec_load rfl rfl (run_loadCell (F1.out.sees hW))) (fun K hK => ?_); (focus (go_simp; done)); go_simp; refine hK _ ?_; clear hK K
          repeat (first | (refine wpQuiet_val (fun K hK => ⟨?_, ?_⟩); (focus (go_simp; done)); apply Exists.intro; refine ⟨fun W hW => ?_, ?_⟩; (focus ( go_simp; first | done | rfl)); go_simp; refine hK _ ?_; clear hK K) | (refine wpQuiet_off (fun K hK => ⟨?_, ?_⟩); (focus (go_simp; done)); go_simp; refine hK _ ?_; clear hK K))
          refine wpQuiet_run (d).val ?_ (fun W hW => exec_load rfl rfl (run_loadCell (F2.out.sees hW))) (fun K hK => ?_); (focus (go_simp; done)); go_simp; refine hK _ ?_; clear hK K
          refine wpQuiet_run (.bool (!decide (c = d))) ?_ (fun W hW => exec_bin rfl rfl rfl (guard_neqCell _ _ c d W) (run_neqCell c d W)) (fun K hK => ?_); (focus (go_simp; done)); go_simp; refine hK _ ?_; clear hK K
          refine wpQuiet_nil ?_; intro w2 hw2
          go_wp2
        · have he := of_decide_eq_true he
          go_roundw
          case rel => exact ⟨k + 1, by omega, by go_num, take_more Hm.out Hc.out (by rw [he]; exact Hd.out), hS.trans hw2⟩
          case measure => simp [intOf]; omega
        · have Hf := ne_of_at Hc.out Hd.out (of_decide_eq_false he)
          go_ret
          exact ⟨ret_bool (decide_eq_false Hf).symm, hS.trans hw2⟩
      · obtain rfl : k = n := by omega
        have Hf := Lib.hid (eq_of_takes Hna.out Hnb.out Hm.out)
        go_wp2
        go_ret
        exact ⟨ret_bool (decide_eq_true Hf.out).symm, hS⟩
  · have Hf := Lib.hid (fun h => hlen (congrArg List.length h) : xs ≠ ys); obtain ⟨n, hna⟩ : ∃ n, n = xs.length := ⟨_, rfl⟩; obtain ⟨m, hnb⟩ : ∃ m, m = ys.length := ⟨_, rfl⟩; have hnm : ((n : Int) != (m : Int)) = true := (by rw [bne_iff_ne]; omega); rw [← hna, ← hnb]; clear hna hnb hlen ha hb hca hcb
    go_enter Tryd.func30, Tryd.ntmps30
    go_wp2
    go_ret
    exact ⟨ret_bool (decide_eq_false Hf.out).symm, hw⟩

set_option maxHeartbeats 1000000 in
theorem lines45_any (F G : Nat → Prop) (v u : Value) (xs ys : List Ln) (w : World) (ha : lnEl.Rd F w v xs) (hb : lnEl.Rd G w u ys) (hn : xs.length ≤ 1000000) (hnc : ∀ l ∈ xs, l.cells.length ≤ 1000000) :
    Calls Tryd.prog 16 #[v, u] w fun e w' => e = .returned (.bool (decide (xs = ys))) ∧ Sees w w' := by
  have Hnc := Lib.hid hnc
  clear hnc
  obtain ⟨ao, ca, rfl, hca⟩ := ha.slice'; obtain ⟨bo, cb, rfl, hcb⟩ := hb.slice'; have hw := Sees.refl w
  by_cases hlen : xs.length = ys.length
  · obtain ⟨n, hna⟩ : ∃ n, n = xs.length := ⟨_, rfl⟩; have hnb : n = ys.length := (by omega); rw [← hna] at ha hn; rw [← hnb] at hb; rw [← hna, ← hnb]; have Hna := Lib.hid hna; have Hnb := Lib.hid hnb; have Ha := Lib.hid ha; have Hb := Lib.hid hb; clear hna hnb ha hb hlen hca hcb
    go_enter Tryd.func16, Tryd.ntmps16
    go_wp2
    go_loopw [5] (fun i wr => ∃ k : Nat, k ≤ n ∧ i = .int .i64 k ∧ xs.take k = ys.take k ∧ Sees w wr) (fun i _ => n - (intOf i).toNat)
    case atStart => exact ⟨0, by omega, rfl, by simp, Sees.refl _⟩
    case round =>
      obtain ⟨k, hk, rfl, hm, hS⟩ := hrel
      have Hm := Lib.hid hm; clear hm hw
      by_cases hlt : k < n
      · obtain ⟨b1, o1, x, a1, m1, rfl, _, hx, _, x1, x2, x3⟩ := (Ha.out.sees hS).line hlt
        obtain ⟨b2, o2, y, a2, m2, rfl, _, hy, _, y1, y2, y3⟩ := (Hb.out.sees hS).line hlt
        have g1 := fun d os => (sees_grow wr d os).cell x1
        have g2 := fun d os => (sees_grow wr d os).cell x2
        have g3 := fun d os => (sees_grow wr d os).cell y1
        have g4 := fun d os => (sees_grow wr d os).cell y2
        have X3 := Lib.hid x3
        have Y3 := Lib.hid y3
        have Hx := Lib.hid hx
        have Hy := Lib.hid hy
        have Hxl := Lib.hid (Hnc.out x (List.mem_iff_getElem?.2 ⟨_, hx⟩))
        clear hx hy x1 x2 x3 y1 y2 y3 Ha Hb
        generalize h1 : x.cells.length = n1 at *
        generalize h2 : y.cells.length = n2 at *
        have H1 := Lib.hid h1
        have H2 := Lib.hid h2
        clear h1 h2
        rcases bool_cases (x.soft == y.soft) with e1 | e1 <;> rcases bool_cases (decide (x.cells = y.cells)) with e2 | e2
        all_goals
          go_wp2
          refine wp_region_quiet_below (by kernel_rfl) (by kernel_rfl) ?_
          repeat (first | go_big_quiet_skip | (go_big_quiet_want; go_big_quiet_op; go_big_quiet_on))
          (try (go_big_quiet_want; go_big_quiet_op; apply Exists.intro; refine ⟨fun p => Calls.regrown_of (cells45_any F G _ _ x.cells y.cells _ (X3.out.sees (sees_grow wr _ _)) (Y3.out.sees (sees_grow wr _ _)) (by rw [H1.out]; exact Hxl.out)), ?_⟩; go_big_quiet_on))
          repeat (first | go_big_quiet_skip | (go_big_quiet_want; go_big_quiet_op; go_big_quiet_on))
          refine wpQuiet_nil ?_; intro w2 hw2'; have hw2 := regrown_sees hw2'; clear hw2'
          go_wp2
        · have he : x = y := by
            obtain ⟨xc, xs⟩ := x; obtain ⟨yc, ys⟩ := y
            simp at e1 e2; simp [e1, e2]
          go_roundw
          case rel => exact ⟨k + 1, by omega, by go_num, take_more Hm.out Hx.out (by rw [he]; exact Hy.out), hS.trans hw2⟩
          case measure => simp [intOf]; omega
        · have Hf := ne_of_at Hx.out Hy.out (fun e => by subst e; simp at e2)
          go_ret
          exact ⟨ret_bool (decide_eq_false Hf).symm, hS.trans hw2⟩
        iterate 2
          · have Hf := ne_of_at Hx.out Hy.out (fun e => by subst e; simp at e1)
            go_ret
            exact ⟨ret_bool (decide_eq_false Hf).symm, hS.trans hw2⟩
      · obtain rfl : k = n := by omega
        have Hf := Lib.hid (eq_of_takes Hna.out Hnb.out Hm.out)
        go_wp2
        go_ret
        exact ⟨ret_bool (decide_eq_true Hf.out).symm, hS⟩
  · have Hf := Lib.hid (fun h => hlen (congrArg List.length h) : xs ≠ ys); obtain ⟨n, hna⟩ : ∃ n, n = xs.length := ⟨_, rfl⟩; obtain ⟨m, hnb⟩ : ∃ m, m = ys.length := ⟨_, rfl⟩; have hnm : ((n : Int) != (m : Int)) = true := (by rw [bne_iff_ne]; omega); rw [← hna, ← hnb]; clear hna hnb hlen ha hb hca hcb
    go_enter Tryd.func16, Tryd.ntmps16
    go_wp2
    go_ret
    exact ⟨ret_bool (decide_eq_false Hf.out).symm, hw⟩
end Go.Proofs.YtonlmlmjglaoiaaDoor
