/- Nil and zero rings: RingNil. No condition. -/
import Derived.Test.YtfeoejpbmpdkaaaDoorRiQ
namespace Go.Proofs.YtfeoejpbmpdkaaaDoor
set_option linter.unusedVariables false
set_option linter.unusedSimpArgs false
open Go.RowKit

theorem rpop_no (w : World) (v : Value) (h : NoRi w v) :
    Calls Tryd.prog 41 #[v] w fun e w' => e = .returned (.tuple #[.agg #[.slice none 0 0, .bool false], .int .i64 1]) ∧ Sees w w' := by
  have H := Lib.hid h; clear h
  have HA := Lib.hid ((Sees.refl w).alloc (.cells #[.slice none 0 0, .bool false] 31))
  go_enter Tryd.func41, Tryd.ntmps41
  go_wp2_with fail
  refine (rzero_no _ _ (H.out.sees HA.out)).mono ?_
  rintro e w2 ⟨rfl, hs⟩
  have c0 : w2.cell? ⟨w.heap.size, 0, none⟩ = some (.slice none 0 0) := by rw [hs.cells _ _ (by simp)]; simp
  have c1 : w2.cell? ⟨w.heap.size, 1, none⟩ = some (.bool false) := by rw [hs.cells _ _ (by simp)]; simp
  have f1 : ∀ i, w2.frozen? ⟨w.heap.size, i, none⟩ = false := fun i => by rw [hs.frozens _ _ (by simp)]; simp
  have HS := Lib.hid (HA.out.trans hs)
  clear hs
  go_wp2
  refine bodyPost_ret_by (v := .tuple #[.agg #[.slice none 0 0, .bool false], .int .i64 1]) (by simp [results, Tryd.results41, go_sem, c0, c1]) rfl ⟨rfl, ?_⟩
  exact (HS.out.setCell (p := ⟨w.heap.size, 0, none⟩) (Nat.le_refl _) _).setCell (p := ⟨w.heap.size, 1, none⟩) (Nat.le_refl _) _
theorem rpushes_no (s u : Value) (soft : Bool) (ao : Option Addr) (m c : Nat) (hu : u = .slice ao m c) (w : World) (h : NoRi w s) :
    Calls Tryd.prog 34 #[s, .agg #[u, .bool soft], .int .i64 0, .int .i64 1] w fun e w' => e = .returned (.bool true) ∧ Sees w w' := by
  refine (rpushes_true (fun _ => False) (fun _ => True) s 0 1 u soft w ao m c hu (fun _ _ _ _ => trivial) (fun W' hs => (rpush_no _ _ u soft (h.sees hs)).mono ?_)).mono ?_
  · rintro e w' ⟨rfl, hs⟩
    exact ⟨rfl, Keeps.of_sees hs, trivial⟩
  · rintro e w' ⟨rfl, _, hk⟩
    exact ⟨rfl, hk.sees_end (fun _ _ h => h)⟩
theorem rpops_no (s : Value) (w : World) (h : NoRi w s) :
    Calls Tryd.prog 53 #[s, .agg #[.slice none 0 0, .bool false], .int .i64 1] w fun e w' => e = .returned (.bool true) ∧ Sees w w' := by
  refine (rpops_true (fun _ => False) (fun w' => True) _ 1 _ ⟨[], false⟩ w (rnil w) (by simp) (fun b e => e.elim) (fun _ _ _ _ => trivial) fun W' hs => (rpop_no W' s (h.sees hs)).mono ?_).mono ?_
  · rintro e w' ⟨rfl, hs⟩
    exact ⟨_, rfl, rnil _, rnil _, Keeps.of_sees hs, trivial⟩
  · rintro e w' ⟨rfl, _, hk⟩
    exact ⟨rfl, hk.sees_end (fun _ _ h => h)⟩
theorem rgets_no (s : Value) (i : Int) (w : World) (h : NoRi w s) :
    Calls Tryd.prog 40 #[s, .int .i64 i, .agg #[.slice none 0 0, .bool false], .int .i64 1] w fun e w' => e = .returned (.bool true) ∧ Sees w w' := by
  refine rgets_true _ _ 1 _ ⟨[], false⟩ w (rnil w) (by simp) fun W' hs => (rget_err W' s i 1 (by decide) (fun W hs2 => rat_no W s i (h.sees (hs.trans hs2)))).mono ?_
  rintro e w' ⟨rfl, hs⟩
  exact ⟨_, rfl, rnil _, hs⟩
theorem rranges_no (s : Value) (i j : Int) (w : World) (h : NoRi w s) :
    Calls Tryd.prog 52 #[s, .int .i64 i, .int .i64 j, .int .i64 1, .slice none 0 0] w fun e w' => e = .returned (.bool true) ∧ Sees w w' := by
  refine rranges_true (fun _ => True) _ i j 1 _ [] w (RdL.nil _ _) (by simp) (fun l hl => by cases hl) fun W' hs => (rrange_no W' s i j (h.sees hs)).mono ?_
  rintro e w' ⟨rfl, h2⟩
  exact ⟨_, rfl, RdL.nil _ _, h2⟩

set_option maxRecDepth 1000000 in
set_option maxHeartbeats 4000000 in
theorem ringNil_out (i j : Int) (F : Nat → Prop) (u : Value) (cs : List Cell) (soft : Bool) (w : World) (ht : Tabs w) (hu : RdC F w u cs) (hn : decide ((cs.length : Int) > 20) = true) :
    Calls Tryd.prog 10 #[.int .i64 i, .int .i64 j, .agg #[u, .bool soft]] w fun e w' => e = .returned (.bool true) ∧ Sees w w' := by
  have Ht := Lib.hid ht
  obtain ⟨ao, cap, rfl, _⟩ := hu
  clear ht
  go_enter Tryd.func10, Tryd.ntmps10
  go_wp2_with fail
  refine (known08 _ (Ht.out.sees ((Sees.refl w).alloc _))).mono ?_
  rintro e w1 ⟨rfl, hs⟩
  go_wp2
  go_ret
  exact ⟨rfl, ((Sees.refl w).alloc _).trans hs⟩
set_option maxRecDepth 1000000 in
set_option maxHeartbeats 4000000 in
theorem ringNil_in (i j2 : Int) (F : Nat → Prop) (u : Value) (cs : List Cell) (soft : Bool) (w : World) (ht : Tabs w) (hu : RdC F w u cs) (hn : decide ((cs.length : Int) > 20) = false) :
    Calls Tryd.prog 10 #[.int .i64 i, .int .i64 j2, .agg #[u, .bool soft]] w fun e w' => e = .returned (.bool true) ∧ Sees w w' := by
  have Ht := Lib.hid ht
  obtain ⟨ao, cap, rfl, _⟩ := hu
  clear ht
  go_enter Tryd.func10, Tryd.ntmps10
  go_wp2_with fail
  refine wp_world (fun w1 hw1 => ?_)
  have X : LnAt w1 w.heap.size (.slice ao cs.length cap) soft := by subst hw1; exact ((LnAt.new rfl).alloc _).alloc _
  have hcw : Sees w w1 := by subst hw1; exact (((Sees.refl w).alloc _).alloc _).alloc _
  have hrow : w1.heap[w.heap.size + 1 + 1]? = some (.cells #[.pointer none, .pointer (some ⟨w.heap.size + 1, 0, none⟩)] 63 (0, 0)) := by
    subst hw1
    have := heap_alloc_new ((w.alloc (Obj.cells #[.slice ao cs.length cap, .bool soft] 31)).alloc (Obj.cells #[.int .i64 0, .int .i64 0, .int .i64 0, .int .i64 0, .slice none 0 0] 92)) (.cells #[.pointer none, .pointer (some ⟨w.heap.size + 1, 0, none⟩)] 63)
    simpa using this
  have hz : RiAt w1 (w.heap.size + 1) 0 0 0 0 (.slice none 0 0) := by
    subst hw1
    exact (RiAt.new (by simp)).alloc _
  have HV : Hid (∀ W, Sees w1 W → (W.cell? ⟨w.heap.size, 0, none⟩ = some (.slice ao cs.length cap) ∧ W.cell? ⟨w.heap.size, 1, none⟩ = some (.bool soft))) := Lib.hid fun W hs => (X.sees hs).c
  have HE : Hid (∀ j : Nat, j < 2 → ∃ s, (∀ W, Sees w1 W → W.cell? ⟨w.heap.size + 1 + 1, j, none⟩ = some s) ∧ ∀ W, Sees w1 W → NoRi W s) := Lib.hid (by
    intro j hj
    obtain ⟨g0, g1⟩ := cell_row2 hrow
    match j, hj with
    | 0, _ => exact ⟨_, fun W hs => hs.cell g0, fun W hs => .inl rfl⟩
    | 1, _ => exact ⟨_, fun W hs => hs.cell g1, fun W hs => .inr ⟨_, 0, 0, 0, .slice none 0 0, rfl, hz.sees hs⟩⟩)
  have S0 := Lib.hid hcw
  clear hw1 X hcw hrow hz
  generalize w.heap.size = B at *
  generalize cs.length = nc at *
  go_loopw [20] (fun i W => ∃ j : Nat, j ≤ 2 ∧ i = .int .i64 j ∧ Sees w1 W) (fun i _ => 2 - (intOf i).toNat)
  case atStart => exact ⟨0, by omega, rfl, Sees.refl _⟩
  case round =>
    obtain ⟨j, hj, rfl, hS⟩ := hrel
    have S1 := Lib.hid hS
    clear hS
    by_cases hlt : j < 2
    · obtain ⟨s, hs1, hs2⟩ := HE.out j hlt
      have HN := Lib.hid hs2
      have hce := hs1 _ S1.out
      clear hs1 hs2
      obtain ⟨q0, q1⟩ := HV.out _ (S1).out
      go_wp2_with fail
      refine (rclear_no _ _ (HN.out _ S1.out)).mono ?_
      rintro e W2 ⟨rfl, hs⟩; have S2 := Lib.hid ((S1).out.trans hs); clear hs
      clear q0 q1
      obtain ⟨q0, q1⟩ := HV.out _ (S2).out
      go_wp2_with fail
      refine (rpushes_no _ _ soft _ _ _ rfl _ (HN.out _ S2.out)).mono ?_
      rintro e W3 ⟨rfl, hs⟩; have S3 := Lib.hid ((S2).out.trans hs); clear hs
      clear q0 q1
      obtain ⟨q0, q1⟩ := HV.out _ (S3).out
      go_wp2_with fail
      refine (rpops_no _ _ (HN.out _ S3.out)).mono ?_
      rintro e W4 ⟨rfl, hs⟩; have S4 := Lib.hid ((S3).out.trans hs); clear hs
      clear q0 q1
      obtain ⟨q0, q1⟩ := HV.out _ (S4).out
      go_wp2_with fail
      refine (rgets_no _ _ _ (HN.out _ S4.out)).mono ?_
      rintro e W5 ⟨rfl, hs⟩; have S5 := Lib.hid ((S4).out.trans hs); clear hs
      clear q0 q1
      obtain ⟨q0, q1⟩ := HV.out _ (S5).out
      go_wp2_with fail
      refine (rset_no _ _ _ _ soft (HN.out _ S5.out)).mono ?_
      rintro e W6 ⟨rfl, hs⟩; have S6 := Lib.hid ((S5).out.trans hs); clear hs
      clear q0 q1
      obtain ⟨q0, q1⟩ := HV.out _ (S6).out
      go_wp2_with fail
      refine (rranges_no _ _ _ _ (HN.out _ S6.out)).mono ?_
      rintro e W7 ⟨rfl, hs⟩; have S7 := Lib.hid ((S6).out.trans hs); clear hs
      clear q0 q1
      obtain ⟨q0, q1⟩ := HV.out _ (S7).out
      go_wp2_with fail
      refine (rlimit_no _ _ _ (HN.out _ S7.out)).mono ?_
      rintro e W8 ⟨rfl, hs⟩; have S8 := Lib.hid ((S7).out.trans hs); clear hs
      clear q0 q1
      obtain ⟨q0, q1⟩ := HV.out _ (S8).out
      go_wp2_with fail
      refine (rfirst_no _ _ (HN.out _ S8.out)).mono ?_
      rintro e W9 ⟨rfl, hs⟩; have S9 := Lib.hid ((S8).out.trans hs); clear hs
      clear q0 q1
      obtain ⟨q0, q1⟩ := HV.out _ (S9).out
      go_wp2_with fail
      refine (rnext_no _ _ (HN.out _ S9.out)).mono ?_
      rintro e W10 ⟨rfl, hs⟩; have S10 := Lib.hid ((S9).out.trans hs); clear hs
      clear q0 q1
      obtain ⟨q0, q1⟩ := HV.out _ (S10).out
      go_wp2_with fail
      refine (rlen_no _ _ (HN.out _ S10.out)).mono ?_
      rintro e W11 ⟨rfl, hs⟩; have S11 := Lib.hid ((S10).out.trans hs); clear hs
      clear q0 q1
      obtain ⟨q0, q1⟩ := HV.out _ (S11).out
      go_wp2_with fail
      refine (rmost_no _ _ (HN.out _ S11.out)).mono ?_
      rintro e W12 ⟨rfl, hs⟩; have S12 := Lib.hid ((S11).out.trans hs); clear hs
      clear q0 q1
      obtain ⟨q0, q1⟩ := HV.out _ (S12).out
      go_wp2_with fail
      refine (rpages_no _ _ (HN.out _ S12.out)).mono ?_
      rintro e W13 ⟨rfl, hs⟩; have S13 := Lib.hid ((S12).out.trans hs); clear hs
      clear q0 q1
      obtain ⟨q0, q1⟩ := HV.out _ (S13).out
      go_wp2_with fail
      refine (rcopy_no _ _ (HN.out _ S13.out)).mono ?_
      rintro e W14 ⟨rfl, hs⟩; have S14 := Lib.hid ((S13).out.trans hs); clear hs
      clear q0 q1
      go_wp2
      refine ⟨⟨j + 1, by omega, by simp, S14.out⟩, by simp [intOf]; omega⟩
    · obtain rfl : j = 2 := by omega
      go_wp2_with fail
      refine (known08 _ (Ht.out.sees (S0.out.trans S1.out))).mono ?_
      rintro e W2 ⟨rfl, hs⟩; have S2 := Lib.hid ((S1).out.trans hs); clear hs
      go_wp2
      go_ret
      exact ⟨rfl, S0.out.trans S2.out⟩
end Go.Proofs.YtfeoejpbmpdkaaaDoor
