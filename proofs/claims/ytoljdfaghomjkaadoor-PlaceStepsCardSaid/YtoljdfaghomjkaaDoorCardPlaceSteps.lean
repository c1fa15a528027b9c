/- PlaceSteps returns true for every input, and leaves its arguments alone; the two tables start as the program's text lays them (the card ties that). -/
import Derived.Test.YtoljdfaghomjkaaDoorPlO
import Derived.Test.YtoljdfaghomjkaaDoorPlK
namespace Go.Proofs.YtoljdfaghomjkaaDoor
set_option linter.unusedVariables false
set_option linter.unusedSimpArgs false
namespace placeSteps
open Go.ChangeShapes Go.WideShapes Go.ChangeAt Go.RowKit

theorem stR_di {l c m d cols : Int} (h1 : inB l c cols = true) (h2 : inB m d cols = true) : stR l c ((m - l) * cols + d - c) cols = ((m, d), 0) := by
  obtain ⟨a1, a2, a3, a4⟩ := in_ok h1
  obtain ⟨b1, b2, b3, b4⟩ := in_ok h2
  rw [stR_of (q := m - l) (r := d) h1 (by rw [Int.add_mul]; omega) ⟨b3, b4⟩, if_pos (by omega), show l + (m - l) = m by omega]
theorem di_i64 {l c m d cols : Int} (h1 : inB l c cols = true) (h2 : inB m d cols = true) : I64 ((m - l) * cols + d - c) := by
  obtain ⟨a1, a2, a3, a4⟩ := in_ok h1
  obtain ⟨b1, b2, b3, b4⟩ := in_ok h2
  obtain ⟨m1, m2⟩ := mul_both (x := m - l) (n := cols) (by omega) a1
  unfold I64
  omega
set_option maxHeartbeats 4000000 in
theorem walk (lp cp lq cq n columns : Int) (w : World) (hst : Std w) (hl : I64 lp) (hc : I64 cp) (hl2 : I64 lq) (hc2 : I64 cq) (hn : I64 n) (h3 : I64 columns) :
    Calls Tryd.prog 5 #[pl lp cp, pl lq cq, .int .i64 n, .int .i64 columns] w fun e w' => e = .returned (.bool true) ∧ Sees w w' := by
  have hw := Sees.refl w
  obtain ⟨⟨⟨x, y⟩, no⟩, hr⟩ : ∃ r, r = stR lp cp n columns := ⟨_, rfl⟩
  have hR := fun W => rstep_any lp cp n columns hn W
  rw [← hr] at hR
  have H := Lib.hid hR
  have hC := Lib.hid (steps_true lp cp n columns x y no hn hr.symm)
  clear hR hr
  go_enter Tryd.func5, Tryd.ntmps5
  go_wp2_with fail
  refine (H.out _).mono ?_
  rintro e w1 ⟨rfl, s1⟩
  have hS := ((hw.alloc _).alloc _).trans s1
  have A := ((PlAt.new w lp cp).sees ((Sees.refl _).alloc _)).sees s1
  have B := (PlAt.new (w.alloc (.cells #[.int .i64 lp, .int .i64 cp] 23)) lq cq).sees s1
  rw [show (w.alloc (.cells #[.int .i64 lp, .int .i64 cp] 23)).heap.size = w.heap.size + 1 by simp] at B
  clear s1 H
  have hl := A.lt
  have hl2 := B.lt
  obtain ⟨a0, a1⟩ := A.cs
  obtain ⟨b0, b1⟩ := B.cs
  go_wp2_with fail
  refine (hC.out _).mono ?_
  rintro e w2 ⟨rfl, s2⟩
  have hS2 := (hS.alloc _).trans s2
  have A2 := (A.sees ((Sees.refl _).alloc _)).sees s2
  have B2 := (B.sees ((Sees.refl _).alloc _)).sees s2
  clear s2 a0 a1 b0 b1 A B hS hl hl2 hC
  have hl := A2.lt
  have hl2 := B2.lt
  obtain ⟨a0, a1⟩ := A2.cs
  obtain ⟨b0, b1⟩ := B2.cs
  go_wp2_with fail
  refine (rin_any lp cp columns _).mono ?_
  rintro e w3 ⟨rfl, s3⟩
  have hS3 := hS2.trans s3
  have A3 := A2.sees s3
  have B3 := B2.sees s3
  clear s3 a0 a1 b0 b1 A2 B2 hS2 hl hl2
  have hl := A3.lt
  have hl2 := B3.lt
  obtain ⟨a0, a1⟩ := A3.cs
  obtain ⟨b0, b1⟩ := B3.cs
  by_cases h1 : inB lp cp columns = true
  · rw [h1]
    go_wp2_with fail
    refine (rin_any lq cq columns _).mono ?_
    rintro e w4 ⟨rfl, s4⟩
    have hS4 := hS3.trans s4
    have A4 := A3.sees s4
    have B4 := B3.sees s4
    clear s4 a0 a1 b0 b1 A3 B3 hS3 hl hl2
    have hl := A4.lt
    have hl2 := B4.lt
    obtain ⟨a0, a1⟩ := A4.cs
    obtain ⟨b0, b1⟩ := B4.cs
    by_cases h2 : inB lq cq columns = true
    · rw [h2]
      have hD := fun W => distance_any lp cp lq cq columns W
      rw [show diR lp cp lq cq columns = ((lq - lp) * columns + cq - cp, 0) by unfold diR; rw [if_pos ⟨h1, h2⟩]] at hD
      have HD := Lib.hid hD
      have hE := fun W => rstep_any lp cp _ columns (di_i64 h1 h2) W
      rw [stR_di h1 h2] at hE
      have HE := Lib.hid hE
      clear hD hE
      generalize (lq - lp) * columns + cq - cp = dd at HD HE
      go_wp2_with fail
      refine (HD.out _).mono ?_
      rintro e w5 ⟨rfl, s5⟩
      have hS5 := hS4.trans s5
      have A5 := A4.sees s5
      have B5 := B4.sees s5
      clear s5 a0 a1 b0 b1 A4 B4 hS4 hl hl2 HD
      have hl := A5.lt
      have hl2 := B5.lt
      obtain ⟨a0, a1⟩ := A5.cs
      obtain ⟨b0, b1⟩ := B5.cs
      go_wp2_with fail
      refine (HE.out _).mono ?_
      rintro e w6 ⟨rfl, s6⟩
      have hS6 := hS5.trans s6
      have B6 := B5.sees s6
      clear s6 a0 a1 b0 b1 A5 B5 hS5 hl hl2 HE
      have hl2 := B6.lt
      obtain ⟨b0, b1⟩ := B6.cs
      have q1 : (lq == lq) = true := by simp
      have q2 : (cq == cq) = true := by simp
      go_wp2_with fail
      refine (known09 _ (hst.sees (hS6.alloc _))).mono ?_
      rintro e w7 ⟨rfl, s7⟩
      have hS7 := (hS6.alloc _).trans s7
      go_wp2
      go_ret
      exact ⟨rfl, hS7⟩
    · have h2' : inB lq cq columns = false := by simpa using h2
      rw [h2']
      have hD := Lib.hid (distance_true lp cp lq cq columns 0 2 (by unfold diR; rw [if_neg fun h => h2 h.2]))
      go_wp2_with fail
      refine (hD.out _).mono ?_
      rintro e w5 ⟨rfl, s5⟩
      have hS5 := hS4.trans s5
      clear s5 a0 a1 b0 b1
      go_wp2_with fail
      refine (known09 _ (hst.sees hS5)).mono ?_
      rintro e w7 ⟨rfl, s7⟩
      have hS7 := hS5.trans s7
      go_wp2
      go_ret
      exact ⟨rfl, hS7⟩
  · have h1' : inB lp cp columns = false := by simpa using h1
    rw [h1']
    have hD := Lib.hid (distance_true lp cp lq cq columns 0 2 (by unfold diR; rw [if_neg fun h => h1 h.1]))
    go_wp2_with fail
    refine (hD.out _).mono ?_
    rintro e w5 ⟨rfl, s5⟩
    have hS5 := hS3.trans s5
    clear s5 a0 a1 b0 b1
    go_wp2_with fail
    refine (known09 _ (hst.sees hS5)).mono ?_
    rintro e w7 ⟨rfl, s7⟩
    have hS7 := hS5.trans s7
    go_wp2
    go_ret
    exact ⟨rfl, hS7⟩

set_option maxRecDepth 100000 in
theorem contract (H : Type) (enc : TypeId × Value → H) (W : World) (base : Nat) (args : Array Value) (ds gs : List (DataW H)) (before : List MemPlace)
    (hval : ∀ (j : Nat) t v, Tryd.f5.params[j]? = some t → args[j]? = some v → Value.okWide Tryd.prog W .any base t v)
    (hW : DataW.Whole enc Tryd.prog Tryd.f5.params.toList Rows.placeStepsSpec.vars false W args.toList ds gs before) (hL : laidMetH Tryd.prog Rows.placeStepsRow.laid W) (hsh : W.ShapedOpen Tryd.prog) :
    Calls Tryd.prog 5 args W fun e W' => ∃ v, e = .returned v ∧ Rows.placeStepsSpec.post enc Tryd.prog Tryd.f5 false true false false W args v W' := by
  have hW' := hW
  obtain ⟨p, q, hA0, hV, rfl, hfz, hnd⟩ := hW
  have hA : DataW.TrodAll enc Tryd.prog W 0 (fun _ => true) true Tryd.f5.params.toList args.toList ds p := hA0
  rw [Tryd.params5] at hA hval
  obtain ⟨v0, vs0, d0, ds0, p0, q0, hargs, rfl, rfl, h0, r0⟩ := trodAll_cons hA
  obtain ⟨v1, vs1, d1, ds1, p1, q1, rfl, rfl, rfl, h1, r1⟩ := trodAll_cons r0
  obtain ⟨v2, vs2, d2, ds2, p2, q2, rfl, rfl, rfl, h2, r2⟩ := trodAll_cons r1
  obtain ⟨v3, vs3, d3, ds3, p3, q3, rfl, rfl, rfl, h3, r3⟩ := trodAll_cons r2
  obtain ⟨rfl, rfl, rfl⟩ := trodAll_nil r3
  obtain rfl : args = #[v0, v1, v2, v3] := by cases args; simp_all
  obtain ⟨lp, cp, rfl, xp, yp⟩ := open_place (hval 0 23 v0 rfl rfl) h0
  obtain ⟨lq, cq, rfl, xq, yq⟩ := open_place (hval 1 23 v1 rfl rfl) h1
  obtain ⟨n, rfl, rfl, rfl, wn⟩ := open_int Tryd.underlying3 (hval 2 3 v2 rfl rfl) h2
  obtain ⟨columns, rfl, rfl, rfl, wcolumns⟩ := open_int Tryd.underlying3 (hval 3 3 v3 rfl rfl) h3
  have xn : -9223372036854775808 ≤ n ∧ n ≤ 9223372036854775807 := by simpa [Lit.wf, IntKind.min, IntKind.max, IntKind.signed, IntKind.bits] using wn
  have xcolumns : -9223372036854775808 ≤ columns ∧ columns ≤ 9223372036854775807 := by simpa [Lit.wf, IntKind.min, IntKind.max, IntKind.signed, IntKind.bits] using wcolumns
  refine (walk lp cp lq cq n columns W (std_of_laid hL hsh) xp yp xq yq xn xcolumns).mono fun e W' ⟨he, hs⟩ => ?_
  subst he
  exact ⟨_, rfl, law_post (tb := 4) laidOut (by
    rw [Tryd.params5]; intro t ht
    simp only [List.mem_cons, List.not_mem_nil, or_false] at ht
    rcases ht with rfl | rfl | rfl | rfl <;> exact ⟨by kernel_rfl, of_decide_eq_true (by kernel_rfl)⟩) hW' rfl (fun ds hl => by
    rw [Tryd.params5] at hl
    match ds, hl with
    | [_, _, _, _], _ => rfl) (by kernel_rfl) Tryd.underlying4 hs⟩

abbrev startArgs : Array Value := #[.agg #[.int .i64 0, .int .i64 0], .agg #[.int .i64 0, .int .i64 0], .int .i64 0, .int .i64 0]
noncomputable abbrev start (os : Os) : World := laidWorld os
theorem laid_met (os : Os) : laidMet Tryd.prog Rows.placeStepsRow.laid ((start os).forCall (fun _ _ => 0) ⟨#[], startArgs, []⟩).memory :=
  laidMet_of_run' 8 (by kernel_rfl) (by kernel_rfl)
theorem reads (os : Os) {H : Type} (enc : TypeId × Value → H) : ∃ x, DataW.whole enc Tryd.prog ((start os).forCall (fun _ _ => 0) ⟨#[], startArgs, []⟩).memory Tryd.f5.params.toList Rows.placeStepsSpec.vars false startArgs.toList 8 = some x :=
  ⟨([.agg [.lit (.int .i64 0), .lit (.int .i64 0)], .agg [.lit (.int .i64 0), .lit (.int .i64 0)], .lit (.int .i64 0), .lit (.int .i64 0)], [], []), by kernel_rfl⟩

set_option maxRecDepth 100000 in
theorem lifted (os : Os) (started : os.Started) (H : Type) (enc : TypeId × Value → H) (F : Stop.Interp) :
    ReturnsInHanded {} Tryd.checked os 5 .any ((OpenSpec.ofChange Rows.placeStepsSpec).preRow enc Tryd.prog Tryd.f5 Rows.placeStepsRow.domain false Rows.placeStepsRow.laid) (((OpenSpec.ofChange Rows.placeStepsSpec).at F).post enc Tryd.prog Tryd.f5 false true false false) := by
  obtain ⟨x, hx⟩ := reads os enc
  refine returnsInHanded_of_row (C := Tryd.checked) (s := OpenSpec.ofChange Rows.placeStepsSpec) ownK started (by kernel_rfl) Tryd.func5
    (witness_row_at (enc := enc) (C := Tryd.checked) false (start os) startArgs rfl (by kernel_rfl) (by kernel_rfl) (by kernel_rfl)
      (OpenSpec.preRow_of_cond 8 hx (by kernel_rfl) (fun k hk => by cases hk) (by kernel_rfl) (laid_met os))) ?_
  intro W base args ds gs before hval hW _ _ _ hL hsh _
  exact contract H enc W base args ds gs before hval hW hL hsh

theorem said : Rows.PlaceStepsSaid :=
  OpenClaim.holds_of_cond 5 Tryd.f5 rfl rfl rfl rfl rfl rfl rfl ⟨rfl, rfl, rfl, rfl, rfl⟩ rfl rfl rfl rfl rfl (by kernel_rfl) Tryd.func5 (by kernel_rfl)
    (of_decide_eq_true (by kernel_rfl)) (by unfold Func.isWrapper; first | (rw [if_pos (by decide +kernel)]; kernel_rfl) | (rw [if_neg (by decide +kernel)]; exact ⟨rfl, rfl⟩))
    (fun os started H enc _ F => by rw [OpenClaim.pre_eq_preRow]; exact lifted os started H enc F)

theorem plain (f : FuncId) (fn : Func) (hf : Tryd.pinned.checked.prog.funcNamed Rows.placeStepsRow.func = some f) (hfn : Tryd.pinned.checked.prog.funcs[f]? = some fn) :
    true = Tryd.pinned.checked.prog.looks [] ∧ ∀ (j : Nat) t, fn.params[j]? = some t → Tryd.pinned.checked.prog.wantsStandIn t = false := by
  obtain rfl : f = 5 := Option.some.inj ((show Tryd.prog.funcNamed Rows.placeStepsRow.func = some 5 by kernel_rfl).symm.trans hf) |>.symm
  obtain rfl : fn = Tryd.f5 := (Option.some.inj (Tryd.func5.symm.trans hfn)).symm
  refine ⟨by kernel_rfl, fun j t ht => ?_⟩
  rw [Tryd.params5] at ht
  have hm := Array.mem_of_getElem? ht
  simp only [List.mem_toArray, List.mem_cons, List.not_mem_nil, or_false] at hm
  rcases hm with rfl | rfl | rfl | rfl
  · exact (show Tryd.prog.wantsStandIn 23 = false by kernel_rfl)
  · exact (show Tryd.prog.wantsStandIn 23 = false by kernel_rfl)
  · exact (show Tryd.prog.wantsStandIn 3 = false by kernel_rfl)
  · exact (show Tryd.prog.wantsStandIn 3 = false by kernel_rfl)

theorem card : Rows.PlaceStepsCardSaid :=
  Claim7.holds_tied_plain_at .later [] _ _ _ _ said (fun _ h => by cases h) (by kernel_rfl) (fun _ h => by cases h) placeSteps_row_tie rfl ⟨rfl, rfl⟩ (by kernel_rfl) rfl plain (by kernel_rfl)
end placeSteps
end Go.Proofs.YtoljdfaghomjkaaDoor
