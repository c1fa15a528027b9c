/- Nil and zero pages. No condition. -/
import Derived.Test.YtfeoejpbmpdkaaaDoorKnown
import Derived.Test.YtfeoejpbmpdkaaaDoorOpen
namespace Go.Proofs.YtfeoejpbmpdkaaaDoor
set_option linter.unusedVariables false
set_option linter.unusedSimpArgs false
open Go.RowKit

theorem pgcopy_no (s : Value) (w : World) (h : NoPg w s) : Calls Tryd.prog 31 #[s] w fun e w' => e = .returned (.pointer none) ∧ Sees w w' := by
  have H := Lib.hid h; clear h
  go_enter Tryd.func31, Tryd.ntmps31
  go_wp2_with fail
  refine (zero_no _ _ H.out).mono ?_
  rintro e w1 ⟨rfl, hs⟩
  go_wp2
  go_ret
  exact ⟨rfl, hs⟩
theorem rdnil (w : World) : RdCells w (.slice none 0 0) [] := ⟨none, 0, rfl, fun h => absurd rfl h⟩
theorem gets_no (s : Value) (i : Int) (w : World) (h : NoPg w s) :
    Calls Tryd.prog 20 #[s, .int .i64 i, .agg #[.slice none 0 0, .bool false], .int .i64 1] w fun e w' => e = .returned (.bool true) ∧ Sees w w' := by
  refine gets_true _ _ 1 _ ⟨[], false⟩ w (rdnil w) (by simp) fun W' hs => (get_no s i W' (h.sees hs)).mono ?_
  rintro e w' ⟨rfl, hs⟩
  exact ⟨_, rfl, rdnil _, hs⟩
theorem pops_no (s : Value) (w : World) (h : NoPg w s) :
    Calls Tryd.prog 17 #[s, .agg #[.slice none 0 0, .bool false], .int .i64 1] w fun e w' => e = .returned (.bool true) ∧ Sees w w' := by
  refine (pops_true (fun _ => False) (fun w' => True) _ 1 _ ⟨[], false⟩ w (rdnil w) (by simp) (fun b e => e.elim) (fun _ _ _ _ => trivial) fun W' hs => (pop_no s W' (h.sees hs)).mono ?_).mono ?_
  · rintro e w' ⟨rfl, hs⟩
    exact ⟨_, rfl, rdnil _, rdnil _, Keeps.of_sees hs, trivial⟩
  · rintro e w' ⟨rfl, _, hk⟩
    exact ⟨rfl, hk.sees_end (fun _ _ h => h)⟩

set_option maxRecDepth 1000000 in
set_option maxHeartbeats 4000000 in
theorem sheetNil_out (i : Int) (F : Nat → Prop) (u : Value) (cs : List Cell) (soft : Bool) (w : World) (ht : Tabs w) (hu : RdC F w u cs) (hn : decide ((cs.length : Int) > 20) = true) :
    Calls Tryd.prog 6 #[.int .i64 i, .agg #[u, .bool soft]] w fun e w' => e = .returned (.bool true) ∧ Sees w w' := by
  have Ht := Lib.hid ht
  obtain ⟨ao, cap, rfl, _⟩ := hu
  clear ht
  go_enter Tryd.func6, Tryd.ntmps6
  go_wp2_with fail
  refine (known07 _ (Ht.out.sees ((Sees.refl w).alloc _))).mono ?_
  rintro e w1 ⟨rfl, hs⟩
  go_wp2
  go_ret
  exact ⟨rfl, ((Sees.refl w).alloc _).trans hs⟩
set_option maxRecDepth 1000000 in
set_option maxHeartbeats 4000000 in
theorem sheetNil_in (i : Int) (F : Nat → Prop) (u : Value) (cs : List Cell) (soft : Bool) (w : World) (ht : Tabs w) (hu : RdC F w u cs) (hn : decide ((cs.length : Int) > 20) = false) :
    Calls Tryd.prog 6 #[.int .i64 i, .agg #[u, .bool soft]] w fun e w' => e = .returned (.bool true) ∧ Sees w w' := by
  have Ht := Lib.hid ht
  have Hu := Lib.hid hu.rd
  obtain ⟨ao, cap, rfl, _⟩ := hu
  clear ht
  go_enter Tryd.func6, Tryd.ntmps6
  go_wp2_with fail
  refine wp_world (fun w1 hw1 => ?_)
  have X : LnAt w1 w.heap.size (.slice ao cs.length cap) soft := by subst hw1; exact ((LnAt.new rfl).alloc _).alloc _
  have hcw : Sees w w1 := by subst hw1; exact (((Sees.refl w).alloc _).alloc _).alloc _
  have hrow : w1.heap[w.heap.size + 1 + 1]? = some (.cells #[.pointer none, .pointer (some ⟨w.heap.size + 1, 0, none⟩)] 24 (0, 0)) := by
    subst hw1
    have := heap_alloc_new ((w.alloc (Obj.cells #[.slice ao cs.length cap, .bool soft] 31)).alloc (Obj.cells #[.int .i64 0, .int .i64 0, .slice none 0 0] 58)) (.cells #[.pointer none, .pointer (some ⟨w.heap.size + 1, 0, none⟩)] 24)
    simpa using this
  have hz : PgAt w1 (w.heap.size + 1) 0 0 (.slice none 0 0) := by
    subst hw1
    have h0 : PgAt ((w.alloc (Obj.cells #[.slice ao cs.length cap, .bool soft] 31)).alloc (Obj.cells #[.int .i64 0, .int .i64 0, .slice none 0 0] 58)) (w.heap.size + 1) 0 0 (.slice none 0 0) := by
      unfold PgAt
      have := heap_alloc_new (w.alloc (Obj.cells #[.slice ao cs.length cap, .bool soft] 31)) (.cells #[.int .i64 0, .int .i64 0, .slice none 0 0] 58)
      simpa using this
    exact h0.sees ((Sees.refl _).alloc _)
  have HV : Hid (∀ W, Sees w1 W → (W.cell? ⟨w.heap.size, 0, none⟩ = some (.slice ao cs.length cap) ∧ W.cell? ⟨w.heap.size, 1, none⟩ = some (.bool soft))) := Lib.hid fun W hs => (X.sees hs).c
  have HU : Hid (∀ W, Sees w1 W → RdCells W (.slice ao cs.length cap) cs) := Lib.hid fun W hs => Hu.out.sees (hcw.trans hs)
  have HE : Hid (∀ j : Nat, j < 2 → ∃ s, (∀ W, Sees w1 W → W.cell? ⟨w.heap.size + 1 + 1, j, none⟩ = some s) ∧ ∀ W, Sees w1 W → NoPg W s) := Lib.hid (by
    intro j hj
    obtain ⟨g0, g1⟩ := cell_row2 hrow
    match j, hj with
    | 0, _ => exact ⟨_, fun W hs => hs.cell g0, fun W hs => .inl rfl⟩
    | 1, _ => exact ⟨_, fun W hs => hs.cell g1, fun W hs => .inr ⟨_, 0, .slice none 0 0, rfl, hz.sees hs⟩⟩)
  have S0 := Lib.hid hcw
  clear hw1 X hcw hrow hz
  generalize w.heap.size = B at *
  generalize cs.length = nc at *
  go_loopw [18] (fun i W => ∃ j : Nat, j ≤ 2 ∧ i = .int .i64 j ∧ Sees w1 W) (fun i _ => 2 - (intOf i).toNat)
  case atStart => exact ⟨0, by omega, rfl, Sees.refl _⟩
  case round =>
    obtain ⟨j, hj, rfl, hS⟩ := hrel
    have S1 := Lib.hid hS
    clear hS
    by_cases hlt : j < 2
    · obtain ⟨s, hs1, hs2⟩ := HE.out j hlt
      have HN := Lib.hid hs2
      have hce := hs1 _ S1.out
      clear hs1 hs2
      obtain ⟨q0, q1⟩ := HV.out _ (S1).out
      go_wp2_with fail
      refine (push_no _ _ cs soft _ (HN.out _ S1.out) (HU.out _ S1.out)).mono ?_
      rintro e W2 ⟨rfl, hs⟩; have S2 := Lib.hid ((S1).out.trans hs); clear hs
      clear q0 q1
      obtain ⟨q0, q1⟩ := HV.out _ (S2).out
      go_wp2_with fail
      refine (set_no _ _ _ cs soft _ (HN.out _ S2.out) (HU.out _ S2.out)).mono ?_
      rintro e W3 ⟨rfl, hs⟩; have S3 := Lib.hid ((S2).out.trans hs); clear hs
      clear q0 q1
      obtain ⟨q0, q1⟩ := HV.out _ (S3).out
      go_wp2_with fail
      refine (drop_no _ _ _ (HN.out _ S3.out)).mono ?_
      rintro e W4 ⟨rfl, hs⟩; have S4 := Lib.hid ((S3).out.trans hs); clear hs
      clear q0 q1
      obtain ⟨q0, q1⟩ := HV.out _ (S4).out
      go_wp2_with fail
      refine (pops_no _ _ (HN.out _ S4.out)).mono ?_
      rintro e W5 ⟨rfl, hs⟩; have S5 := Lib.hid ((S4).out.trans hs); clear hs
      clear q0 q1
      obtain ⟨q0, q1⟩ := HV.out _ (S5).out
      go_wp2_with fail
      refine (gets_no _ _ _ (HN.out _ S5.out)).mono ?_
      rintro e W6 ⟨rfl, hs⟩; have S6 := Lib.hid ((S5).out.trans hs); clear hs
      clear q0 q1
      obtain ⟨q0, q1⟩ := HV.out _ (S6).out
      go_wp2_with fail
      refine (len_no _ _ (HN.out _ S6.out)).mono ?_
      rintro e W7 ⟨rfl, hs⟩; have S7 := Lib.hid ((S6).out.trans hs); clear hs
      clear q0 q1
      obtain ⟨q0, q1⟩ := HV.out _ (S7).out
      go_wp2_with fail
      refine (cap_no _ _ (HN.out _ S7.out)).mono ?_
      rintro e W8 ⟨rfl, hs⟩; have S8 := Lib.hid ((S7).out.trans hs); clear hs
      clear q0 q1
      obtain ⟨q0, q1⟩ := HV.out _ (S8).out
      go_wp2_with fail
      refine (room_no _ _ (HN.out _ S8.out)).mono ?_
      rintro e W9 ⟨rfl, hs⟩; have S9 := Lib.hid ((S8).out.trans hs); clear hs
      clear q0 q1
      obtain ⟨q0, q1⟩ := HV.out _ (S9).out
      go_wp2_with fail
      refine (gone_no _ _ (HN.out _ S9.out)).mono ?_
      rintro e W10 ⟨rfl, hs⟩; have S10 := Lib.hid ((S9).out.trans hs); clear hs
      clear q0 q1
      obtain ⟨q0, q1⟩ := HV.out _ (S10).out
      go_wp2_with fail
      refine (lines_no _ _ (HN.out _ S10.out)).mono ?_
      rintro e W11 ⟨rfl, hs⟩; have S11 := Lib.hid ((S10).out.trans hs); clear hs
      clear q0 q1
      obtain ⟨q0, q1⟩ := HV.out _ (S11).out
      go_wp2_with fail
      refine (pgcopy_no _ _ (HN.out _ S11.out)).mono ?_
      rintro e W12 ⟨rfl, hs⟩; have S12 := Lib.hid ((S11).out.trans hs); clear hs
      clear q0 q1
      go_wp2
      refine ⟨⟨j + 1, by omega, by simp, S12.out⟩, by simp [intOf]; omega⟩
    · obtain rfl : j = 2 := by omega
      go_wp2_with fail
      refine (known07 _ (Ht.out.sees (S0.out.trans S1.out))).mono ?_
      rintro e W2 ⟨rfl, hs⟩; have S2 := Lib.hid ((S1).out.trans hs); clear hs
      go_wp2
      go_ret
      exact ⟨rfl, S0.out.trans S2.out⟩
end Go.Proofs.YtfeoejpbmpdkaaaDoor
