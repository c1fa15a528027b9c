/- Lists of lines: comparing them; the reference's copy of a line. No condition. -/
import Derived.Test.YtfeoejpbmpdkaaaDoorLines
namespace Go.Proofs.YtfeoejpbmpdkaaaDoor
set_option linter.unusedVariables false
set_option linter.unusedSimpArgs false
open Go.RowKit

set_option maxHeartbeats 1000000 in
theorem all_any (F G : Nat → Prop) (v u : Value) (xs ys : List Ln) (w : World) (ha : RdL F w v xs) (hb : RdL G w u ys) (hn : xs.length ≤ 1000000) (hnc : ∀ l ∈ xs, l.cells.length ≤ 1000000) :
    Calls Tryd.prog 24 #[v, u] w fun e w' => e = .returned (.bool (decide (xs = ys))) ∧ Sees w w' := by
  obtain ⟨ao, ca, rfl, ha⟩ := ha
  obtain ⟨bo, cb, rfl, hb⟩ := hb
  have hw := Sees.refl w
  by_cases hlen : xs.length = ys.length
  · obtain ⟨n, hna⟩ : ∃ n, n = xs.length := ⟨_, rfl⟩
    have hnb : n = ys.length := by omega
    rw [← hna, ← hnb]
    rw [← hna] at hn
    have Hna := Lib.hid hna
    have Hnb := Lib.hid hnb
    have Ha := Lib.hid ha
    have Hb := Lib.hid hb
    have Hnc := Lib.hid hnc
    clear hna hnb ha hb hlen hnc
    go_enter Tryd.func24, Tryd.ntmps24
    go_wp2
    go_loopw [5] (fun i wr => ∃ k : Nat, k ≤ n ∧ i = .int .i64 k ∧ xs.take k = ys.take k ∧ Sees w wr) (fun i _ => n - (intOf i).toNat)
    case atStart => exact ⟨0, by omega, rfl, by simp, Sees.refl _⟩
    case round =>
      obtain ⟨k, hk, rfl, hm, hS⟩ := hrel
      have Hm := Lib.hid hm; clear hm hw
      have HS := Lib.hid hS
      by_cases hlt : k < n
      · obtain ⟨b1, o1, x, sx, rfl, _, hx, x1, x2, x3⟩ := RdL.line_at Ha.out Hna.out hlt
        obtain ⟨b2, o2, y, sy, rfl, _, hy, y1, y2, y3⟩ := RdL.line_at Hb.out Hnb.out hlt
        have g1 : ∀ d os, (Sort.grow (redrawn wr d) os).cell? ⟨b1, o1 + k * 2, none⟩ = some sx := fun d os => (hS.trans (sees_grow wr d os)).cell x1
        have g2 : ∀ d os, (Sort.grow (redrawn wr d) os).cell? ⟨b1, o1 + k * 2 + 1, none⟩ = some (.bool x.soft) := fun d os => (hS.trans (sees_grow wr d os)).cell x2
        have g3 : ∀ d os, (Sort.grow (redrawn wr d) os).cell? ⟨b2, o2 + k * 2, none⟩ = some sy := fun d os => (hS.trans (sees_grow wr d os)).cell y1
        have g4 : ∀ d os, (Sort.grow (redrawn wr d) os).cell? ⟨b2, o2 + k * 2 + 1, none⟩ = some (.bool y.soft) := fun d os => (hS.trans (sees_grow wr d os)).cell y2
        have X3 := Lib.hid x3.rd
        have Y3 := Lib.hid y3.rd
        have Hx := Lib.hid hx
        have Hy := Lib.hid hy
        have Hxl := Lib.hid (Hnc.out x (List.mem_iff_getElem?.2 ⟨_, hx⟩))
        clear hx hy x1 x2 x3 y1 y2 y3 Ha Hb
        by_cases hcd : x = y
        · have he := decide_eq_true hcd
          have Hcd := Lib.hid hcd; clear hcd
          go_wp2
          refine wp_region_quiet_below (by kernel_rfl) (by kernel_rfl) ?_
          repeat (first | go_big_quiet_skip | (go_big_quiet_want; go_big_quiet_op; go_big_quiet_on))
          go_big_quiet_want; go_big_quiet_op; apply Exists.intro; refine ⟨fun p => Calls.regrown_of (sameLine_any sx sy x y _ (X3.out.sees (HS.out.trans (sees_grow wr _ _))) (Y3.out.sees (HS.out.trans (sees_grow wr _ _))) Hxl.out), ?_⟩; go_big_quiet_on
          repeat (first | go_big_quiet_skip | (go_big_quiet_want; go_big_quiet_op; go_big_quiet_on))
          refine wpQuiet_nil ?_; intro w2 hw2'; have hw2 := regrown_sees hw2'; clear hw2'
          clear he
          go_wp2
          go_roundw
          case rel => exact ⟨k + 1, by omega, by go_num, take_more Hm.out Hx.out (by rw [Hcd.out]; exact Hy.out), HS.out.trans hw2⟩
          case measure => simp [intOf]; omega
        · have he := decide_eq_false hcd
          have Hf : Hid (decide (xs = ys) = false) := by
            refine decide_eq_false fun h => hcd ?_
            subst h
            exact Option.some.inj (Hx.out.symm.trans Hy.out)
          clear hcd
          go_wp2
          refine wp_region_quiet_below (by kernel_rfl) (by kernel_rfl) ?_
          repeat (first | go_big_quiet_skip | (go_big_quiet_want; go_big_quiet_op; go_big_quiet_on))
          go_big_quiet_want; go_big_quiet_op; apply Exists.intro; refine ⟨fun p => Calls.regrown_of (sameLine_any sx sy x y _ (X3.out.sees (HS.out.trans (sees_grow wr _ _))) (Y3.out.sees (HS.out.trans (sees_grow wr _ _))) Hxl.out), ?_⟩; go_big_quiet_on
          repeat (first | go_big_quiet_skip | (go_big_quiet_want; go_big_quiet_op; go_big_quiet_on))
          refine wpQuiet_nil ?_; intro w2 hw2'; have hw2 := regrown_sees hw2'; clear hw2'
          clear he
          go_wp2
          go_ret
          exact ⟨by rw [Hf.out]; rfl, HS.out.trans hw2⟩
      · obtain rfl : k = n := by omega
        have Hf : Hid (decide (xs = ys) = true) := by
          refine decide_eq_true ?_
          have := Hm.out
          rwa [List.take_of_length_le (by rw [← Hna.out]; exact Nat.le_refl _), List.take_of_length_le (by rw [← Hnb.out]; exact Nat.le_refl _)] at this
        go_wp2
        go_ret
        exact ⟨by rw [Hf.out]; rfl, hS⟩
  · have Hf : Hid (decide (xs = ys) = false) := decide_eq_false fun h => hlen (by rw [h])
    obtain ⟨n, hna⟩ : ∃ n, n = xs.length := ⟨_, rfl⟩
    obtain ⟨m, hnb⟩ : ∃ m, m = ys.length := ⟨_, rfl⟩
    have hnm : ((n : Int) != (m : Int)) = true := by rw [bne_iff_ne]; omega
    rw [← hna, ← hnb]
    clear hna hnb hlen ha hb
    go_enter Tryd.func24, Tryd.ntmps24
    go_wp2
    go_ret
    exact ⟨by rw [Hf.out]; rfl, hw⟩
end Go.Proofs.YtfeoejpbmpdkaaaDoor
