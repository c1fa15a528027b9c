/- Nil and zero histories: HistoryNone. No condition. -/
import Derived.Test.YtpicffaghoggdaaDoorHiK
namespace Go.Proofs.YtpicffaghoggdaaDoor
set_option linter.unusedVariables false
set_option linter.unusedSimpArgs false
open Go.RowKit

set_option maxRecDepth 1000000 in
set_option maxHeartbeats 4000000 in
theorem historyNone_any (n : Int) (w : World) (ht : Tabs w) :
    Calls Tryd.prog 12 #[.int .i64 n] w fun e w' => e = .returned (.bool true) ∧ Sees w w' := by
  have Ht := Lib.hid ht
  clear ht
  go_enter Tryd.func12, Tryd.ntmps12
  go_wp2_with fail
  refine wp_world (fun w1 hw1 => ?_)
  have hcw : Sees w w1 := by subst hw1; exact ((Sees.refl w).alloc _).alloc _
  have hrow : w1.heap[w.heap.size + 1]? = some (.cells #[.pointer none, .pointer (some ⟨w.heap.size, 0, none⟩)] 29 (0, 0)) := by
    subst hw1
    have := heap_alloc_new (w.alloc (Obj.cells #[.pointer none] 77)) (.cells #[.pointer none, .pointer (some ⟨w.heap.size, 0, none⟩)] 29)
    simpa using this
  have hz : Bx w1 w.heap.size 77 (.pointer none) := by
    subst hw1
    exact (Bx.new rfl).sees ((Sees.refl _).alloc _)
  have HE : Hid (∀ j : Nat, j < 2 → ∃ s, (∀ W, Sees w1 W → W.cell? ⟨w.heap.size + 1, j, none⟩ = some s) ∧ ∀ W, Sees w1 W → NoHi W s) := Lib.hid (by
    intro j hj
    obtain ⟨g0, g1⟩ := cell_row2 hrow
    match j, hj with
    | 0, _ => exact ⟨_, fun W hs => hs.cell g0, fun W hs => .inl rfl⟩
    | 1, _ => exact ⟨_, fun W hs => hs.cell g1, fun W hs => .inr ⟨_, rfl, hz.sees hs⟩⟩)
  have S0 := Lib.hid hcw
  clear hw1 hcw hrow hz
  generalize w.heap.size = B at *
  go_loopw [11] (fun i W => ∃ j : Nat, j ≤ 2 ∧ i = .int .i64 j ∧ Sees w1 W) (fun i _ => 2 - (intOf i).toNat)
  case atStart => exact ⟨0, by omega, rfl, Sees.refl _⟩
  case round =>
    obtain ⟨j, hj, rfl, hS⟩ := hrel
    have S1 := Lib.hid hS
    clear hS
    by_cases hlt : j < 2
    · obtain ⟨s, hs1, hs2⟩ := HE.out j hlt
      have HN := Lib.hid hs2
      have hce := hs1 _ S1.out
      clear hs1 hs2
      go_wp2_with fail
      refine (hclear_no _ _ (HN.out _ S1.out)).mono ?_
      rintro e W2 ⟨rfl, hs⟩; have S2 := Lib.hid ((S1).out.trans hs); clear hs
      go_wp2_with fail
      refine (hpush_no _ _ _ (HN.out _ S2.out)).mono ?_
      rintro e W3 ⟨rfl, hs⟩; have S3 := Lib.hid ((S2).out.trans hs); clear hs
      go_wp2_with fail
      refine (hpulls_no _ _ _ (HN.out _ S3.out)).mono ?_
      rintro e W4 ⟨rfl, hs⟩; have S4 := Lib.hid ((S3).out.trans hs); clear hs
      go_wp2_with fail
      refine (hreplace_no _ _ _ (HN.out _ S4.out)).mono ?_
      rintro e W5 ⟨rfl, hs⟩; have S5 := Lib.hid ((S4).out.trans hs); clear hs
      go_wp2_with fail
      refine (hgets_no _ _ _ (HN.out _ S5.out)).mono ?_
      rintro e W6 ⟨rfl, hs⟩; have S6 := Lib.hid ((S5).out.trans hs); clear hs
      go_wp2_with fail
      refine (hlast_no _ _ _ (HN.out _ S6.out)).mono ?_
      rintro e W7 ⟨rfl, hs⟩; have S7 := Lib.hid ((S6).out.trans hs); clear hs
      go_wp2_with fail
      refine (hall_no _ _ (HN.out _ S7.out)).mono ?_
      rintro e W8 ⟨rfl, hs⟩; have S8 := Lib.hid ((S7).out.trans hs); clear hs
      go_wp2_with fail
      refine (hlen_no _ _ (HN.out _ S8.out)).mono ?_
      rintro e W9 ⟨rfl, hs⟩; have S9 := Lib.hid ((S8).out.trans hs); clear hs
      go_wp2_with fail
      refine (hmost_no _ _ (HN.out _ S9.out)).mono ?_
      rintro e W10 ⟨rfl, hs⟩; have S10 := Lib.hid ((S9).out.trans hs); clear hs
      go_wp2_with fail
      refine (hfirst_no _ _ (HN.out _ S10.out)).mono ?_
      rintro e W11 ⟨rfl, hs⟩; have S11 := Lib.hid ((S10).out.trans hs); clear hs
      go_wp2_with fail
      refine (hnext_no _ _ (HN.out _ S11.out)).mono ?_
      rintro e W12 ⟨rfl, hs⟩; have S12 := Lib.hid ((S11).out.trans hs); clear hs
      go_wp2_with fail
      refine (hcopy_no _ _ (HN.out _ S12.out)).mono ?_
      rintro e W13 ⟨rfl, hs⟩; have S13 := Lib.hid ((S12).out.trans hs); clear hs
      go_wp2
      refine ⟨⟨j + 1, by omega, by simp, S13.out⟩, by simp [intOf]; omega⟩
    · obtain rfl : j = 2 := by omega
      go_wp2_with fail
      refine (known31 _ (Ht.out.sees (S0.out.trans S1.out))).mono ?_
      rintro e W2 ⟨rfl, hs⟩; have S2 := Lib.hid ((S1).out.trans hs); clear hs
      go_wp2
      go_ret
      exact ⟨rfl, S0.out.trans S2.out⟩
end Go.Proofs.YtpicffaghoggdaaDoor
