/- A new history: HistoryNew. No condition. -/
import Derived.Test.YtpicffaghoggdaaDoorHtA
import Derived.Test.YtpicffaghoggdaaDoorHiK
namespace Go.Proofs.YtpicffaghoggdaaDoor
set_option linter.unusedVariables false
set_option linter.unusedSimpArgs false
open Go.RowKit

set_option maxRecDepth 1000000 in
set_option maxHeartbeats 4000000 in
theorem historyNew_bad (n : Int) (w : World) (ht : Tabs w) (h : n < 0 ∨ 1048576 < n) :
    Calls Tryd.prog 6 #[.int .i64 n] w fun e w' => e = .returned (.bool true) ∧ Sees w w' := by
  have Ht := Lib.hid ht
  have Hd : Hid (decide (n < 0) = true ∨ (decide (n < 0) = false ∧ decide (n > 1048576) = true)) := Lib.hid (by
    by_cases h0 : n < 0
    · exact .inl (decide_eq_true h0)
    · exact .inr ⟨decide_eq_false h0, decide_eq_true (by omega)⟩)
  have Hf : Hid (decide (n ≥ 0) = false ∨ (decide (n ≥ 0) = true ∧ decide (n ≤ 1048576) = false)) := Lib.hid (by
    by_cases h0 : n < 0
    · exact .inl (decide_eq_false (by omega))
    · exact .inr ⟨decide_eq_true (by omega), decide_eq_false (by omega)⟩)
  clear ht h
  go_enter Tryd.func6, Tryd.ntmps6
  go_wp2_with fail
  refine (hnew_bad n w Hd.out).mono ?_
  rintro e w1 ⟨rfl, s1⟩
  go_wp2_with fail
  refine (refFine_no n w1 Hf.out).mono ?_
  rintro e w2 ⟨rfl, s2⟩
  have S2 := Lib.hid (s1.trans s2)
  clear s1 s2
  go_wp2_with fail
  refine (known31 _ (Ht.out.sees S2.out)).mono ?_
  rintro e w3 ⟨rfl, s3⟩
  go_wp2
  go_ret
  exact ⟨by simp, S2.out.trans s3⟩
set_option maxRecDepth 1000000 in
set_option maxHeartbeats 4000000 in
theorem historyNew_ok (n : Int) (w : World) (ht : Tabs w) (h0 : 0 ≤ n) (h1 : n ≤ 1048576) :
    Calls Tryd.prog 6 #[.int .i64 n] w fun e w' => e = .returned (.bool true) ∧ Sees w w' := by
  have Ht := Lib.hid ht
  have H0 := Lib.hid h0
  have H1 := Lib.hid h1
  clear ht h0 h1
  go_enter Tryd.func6, Tryd.ntmps6
  go_wp2_with fail
  refine (hnew_ok n w H0.out H1.out).mono ?_
  rintro e w1 ⟨b, rfl, hp⟩
  have P1 := Lib.hid hp
  clear hp
  go_wp2_with fail
  refine (refFine_yes n w1 H0.out H1.out).mono ?_
  rintro e w2 ⟨rfl, s2⟩
  have P2 := Lib.hid (P1.out.sees s2)
  clear s2 P1
  go_wp2_with fail
  refine (looks31_any (G := fun _ => True) P2.out _ (El.Rd.nil _ _) 0 (by decide) (Nat.zero_le _)).mono ?_
  rintro e w3 ⟨rfl, s3⟩
  have S3 := Lib.hid (P2.out.see.trans s3)
  clear s3 P2
  go_wp2_with fail
  refine (known31 _ (Ht.out.sees S3.out)).mono ?_
  rintro e w4 ⟨rfl, s4⟩
  go_wp2
  go_ret
  exact ⟨by simp, S3.out.trans s4⟩
theorem historyNew_any (n : Int) (w : World) (ht : Tabs w) :
    Calls Tryd.prog 6 #[.int .i64 n] w fun e w' => e = .returned (.bool true) ∧ Sees w w' := by
  by_cases h : 0 ≤ n ∧ n ≤ 1048576
  · exact historyNew_ok n w ht h.1 h.2
  · exact historyNew_bad n w ht (by omega)
end Go.Proofs.YtpicffaghoggdaaDoor
