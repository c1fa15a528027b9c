/- Rows of cells: comparing them, testing them. The tables hold what the program's text lays. -/
import Derived.Test.YtfeoejpbmpdkaaaDoorOps
namespace Go.Proofs.YtfeoejpbmpdkaaaDoor
set_option linter.unusedVariables false
set_option linter.unusedSimpArgs false
open Go.RowKit

theorem take_more {α : Type} {xs ys : List α} {k : Nat} {c : α} (h : xs.take k = ys.take k) (h1 : xs[k]? = some c) (h2 : ys[k]? = some c) : xs.take (k + 1) = ys.take (k + 1) := by
  rw [List.take_add_one, List.take_add_one, h, h1, h2]

set_option maxHeartbeats 1000000 in
theorem same_any (v u : Value) (xs ys : List Cell) (w : World) (ha : RdCells w v xs) (hb : RdCells w u ys) (hn : xs.length ≤ 1000000) :
    Calls Tryd.prog 61 #[v, u] w fun e w' => e = .returned (.bool (decide (xs = ys))) ∧ Sees w w' := by
  obtain ⟨ao, ca, rfl, ha⟩ := ha
  obtain ⟨bo, cb, rfl, hb⟩ := hb
  have hw := Sees.refl w
  by_cases hlen : xs.length = ys.length
  · obtain ⟨n, hna⟩ : ∃ n, n = xs.length := ⟨_, rfl⟩
    have hnb : n = ys.length := by omega
    rw [← hna, ← hnb]
    rw [← hna] at hn
    have Hna := Lib.hid hna
    have Hnb := Lib.hid hnb
    have Ha := Lib.hid ha
    have Hb := Lib.hid hb
    clear hna hnb ha hb hlen
    go_enter Tryd.func61, Tryd.ntmps61
    go_wp2
    go_loopw [5] (fun i wr => ∃ k : Nat, k ≤ n ∧ i = .int .i64 k ∧ xs.take k = ys.take k ∧ Sees w wr) (fun i _ => n - (intOf i).toNat)
    case atStart => exact ⟨0, by omega, rfl, by simp, Sees.refl _⟩
    case round =>
      obtain ⟨k, hk, rfl, hm, hS⟩ := hrel
      have Hm := Lib.hid hm; clear hm hw
      by_cases hlt : k < n
      · obtain ⟨b1, o1, c, rfl, hc, hca⟩ := RdCells.at Ha.out Hna.out hlt
        obtain ⟨b2, o2, d, rfl, hd, hdb⟩ := RdCells.at Hb.out Hnb.out hlt
        have F1 := Lib.hid (fun (W : World) (hW : Sees w W) => (hca k c hc).sees hW)
        have F2 := Lib.hid (fun (W : World) (hW : Sees w W) => (hdb k d hd).sees hW)
        have Hc := Lib.hid hc
        have Hd := Lib.hid hd
        clear hc hd hca hdb Ha Hb
        by_cases hcd : c = d
        · have he := decide_eq_true hcd
          have Hcd := Lib.hid hcd; clear hcd
          go_wp2
          refine wp_region_sees (by kernel_rfl) (by kernel_rfl) ?_
          repeat (first | (refine wpQuiet_val (fun K hK => ⟨?_, ?_⟩); (focus (go_simp; done)); apply Exists.intro; refine ⟨fun W hW => ?_, ?_⟩; (focus ( go_simp; first | done | rfl)); go_simp; refine hK _ ?_; clear hK K) | (refine wpQuiet_off (fun K hK => ⟨?_, ?_⟩); (focus (go_simp; done)); go_simp; refine hK _ ?_; clear hK K))
          refine wpQuiet_run (c).val ?_ (fun W hW => exec_load rfl rfl (run_loadCell (F1.out W (hS.trans hW)))) (fun K hK => ?_); (focus (go_simp; done)); go_simp; refine hK _ ?_; clear hK K
          repeat (first | (refine wpQuiet_val (fun K hK => ⟨?_, ?_⟩); (focus (go_simp; done)); apply Exists.intro; refine ⟨fun W hW => ?_, ?_⟩; (focus ( go_simp; first | done | rfl)); go_simp; refine hK _ ?_; clear hK K) | (refine wpQuiet_off (fun K hK => ⟨?_, ?_⟩); (focus (go_simp; done)); go_simp; refine hK _ ?_; clear hK K))
          refine wpQuiet_run (d).val ?_ (fun W hW => exec_load rfl rfl (run_loadCell (F2.out W (hS.trans hW)))) (fun K hK => ?_); (focus (go_simp; done)); go_simp; refine hK _ ?_; clear hK K
          refine wpQuiet_run (.bool (!decide (c = d))) ?_ (fun W hW => exec_bin rfl rfl rfl (guard_neqCell _ _ c d W) (run_neqCell c d W)) (fun K hK => ?_); (focus (go_simp; done)); go_simp; refine hK _ ?_; clear hK K
          refine wpQuiet_nil ?_; intro w2 hw2
          clear he
          go_wp2
          go_roundw
          case rel => exact ⟨k + 1, by omega, by go_num, take_more Hm.out Hc.out (by rw [Hcd.out]; exact Hd.out), hS.trans hw2⟩
          case measure => simp [intOf]; omega
        · have he := decide_eq_false hcd
          have Hf : Hid (decide (xs = ys) = false) := by
            refine decide_eq_false fun h => hcd ?_
            subst h
            exact Option.some.inj (Hc.out.symm.trans Hd.out)
          clear hcd
          go_wp2
          refine wp_region_sees (by kernel_rfl) (by kernel_rfl) ?_
          repeat (first | (refine wpQuiet_val (fun K hK => ⟨?_, ?_⟩); (focus (go_simp; done)); apply Exists.intro; refine ⟨fun W hW => ?_, ?_⟩; (focus ( go_simp; first | done | rfl)); go_simp; refine hK _ ?_; clear hK K) | (refine wpQuiet_off (fun K hK => ⟨?_, ?_⟩); (focus (go_simp; done)); go_simp; refine hK _ ?_; clear hK K))
          refine wpQuiet_run (c).val ?_ (fun W hW => exec_load rfl rfl (run_loadCell (F1.out W (hS.trans hW)))) (fun K hK => ?_); (focus (go_simp; done)); go_simp; refine hK _ ?_; clear hK K
          repeat (first | (refine wpQuiet_val (fun K hK => ⟨?_, ?_⟩); (focus (go_simp; done)); apply Exists.intro; refine ⟨fun W hW => ?_, ?_⟩; (focus ( go_simp; first | done | rfl)); go_simp; refine hK _ ?_; clear hK K) | (refine wpQuiet_off (fun K hK => ⟨?_, ?_⟩); (focus (go_simp; done)); go_simp; refine hK _ ?_; clear hK K))
          refine wpQuiet_run (d).val ?_ (fun W hW => exec_load rfl rfl (run_loadCell (F2.out W (hS.trans hW)))) (fun K hK => ?_); (focus (go_simp; done)); go_simp; refine hK _ ?_; clear hK K
          refine wpQuiet_run (.bool (!decide (c = d))) ?_ (fun W hW => exec_bin rfl rfl rfl (guard_neqCell _ _ c d W) (run_neqCell c d W)) (fun K hK => ?_); (focus (go_simp; done)); go_simp; refine hK _ ?_; clear hK K
          refine wpQuiet_nil ?_; intro w2 hw2
          clear he
          go_wp2
          go_ret
          exact ⟨by rw [Hf.out]; rfl, hS.trans hw2⟩
      · obtain rfl : k = n := by omega
        have Hf : Hid (decide (xs = ys) = true) := by
          refine decide_eq_true ?_
          have := Hm.out
          rwa [List.take_of_length_le (by rw [← Hna.out]; exact Nat.le_refl _), List.take_of_length_le (by rw [← Hnb.out]; exact Nat.le_refl _)] at this
        go_wp2
        go_ret
        exact ⟨by rw [Hf.out]; rfl, hS⟩
  · have Hf : Hid (decide (xs = ys) = false) := decide_eq_false fun h => hlen (by rw [h])
    obtain ⟨n, hna⟩ : ∃ n, n = xs.length := ⟨_, rfl⟩
    obtain ⟨m, hnb⟩ : ∃ m, m = ys.length := ⟨_, rfl⟩
    have hnm : ((n : Int) != (m : Int)) = true := by rw [bne_iff_ne]; omega
    rw [← hna, ← hnb]
    clear hna hnb hlen ha hb
    go_enter Tryd.func61, Tryd.ntmps61
    go_wp2
    go_ret
    exact ⟨by rw [Hf.out]; rfl, hw⟩
end Go.Proofs.YtfeoejpbmpdkaaaDoor
