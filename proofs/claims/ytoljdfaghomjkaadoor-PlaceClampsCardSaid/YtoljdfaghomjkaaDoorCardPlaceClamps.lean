/- PlaceClamps returns true for every input, and leaves its arguments alone; the two tables start as the program's text lays them (the card ties that). -/
import Derived.Test.YtoljdfaghomjkaaDoorPlO
import Derived.Test.YtoljdfaghomjkaaDoorPlK
namespace Go.Proofs.YtoljdfaghomjkaaDoor
set_option linter.unusedVariables false
set_option linter.unusedSimpArgs false
namespace placeClamps
open Go.ChangeShapes Go.WideShapes Go.ChangeAt Go.RowKit

set_option maxHeartbeats 2000000 in
theorem walk (lp cp first next columns : Int) (w : World) (hst : Std w) (hl : I64 lp) (hc : I64 cp) (h1 : I64 first) (h2 : I64 next) (h3 : I64 columns) :
    Calls Tryd.prog 4 #[pl lp cp, .int .i64 first, .int .i64 next, .int .i64 columns] w fun e w' => e = .returned (.bool true) ∧ Sees w w' := by
  have hw := Sees.refl w
  obtain ⟨⟨⟨x, y⟩, no⟩, hr⟩ : ∃ r, r = clR lp cp first next columns := ⟨_, rfl⟩
  have hR := fun W => rclamp_r lp cp first next columns W
  rw [← hr] at hR
  have H := Lib.hid hR
  have hC := Lib.hid (clamps_true lp cp first next columns x y no hr.symm)
  clear hR hr
  go_enter Tryd.func4, Tryd.ntmps4
  go_wp2_with fail
  refine (H.out _).mono ?_
  rintro e w1 ⟨rfl, s1⟩
  have hS := (hw.alloc _).trans s1
  have A := (PlAt.new w lp cp).sees s1
  clear s1
  have hl := A.lt
  obtain ⟨a0, a1⟩ := A.cs
  go_wp2_with fail
  refine (hC.out _).mono ?_
  rintro e w2 ⟨rfl, s2⟩
  have hS2 := (hS.alloc _).trans s2
  clear s2 a0 a1 A
  go_wp2_with fail
  refine (known09 _ (hst.sees hS2)).mono ?_
  rintro e w3 ⟨rfl, s3⟩
  have hS3 := hS2.trans s3
  go_wp2
  go_ret
  exact ⟨rfl, hS3⟩

set_option maxRecDepth 100000 in
theorem contract (H : Type) (enc : TypeId × Value → H) (W : World) (base : Nat) (args : Array Value) (ds gs : List (DataW H)) (before : List MemPlace)
    (hval : ∀ (j : Nat) t v, Tryd.f4.params[j]? = some t → args[j]? = some v → Value.okWide Tryd.prog W .any base t v)
    (hW : DataW.Whole enc Tryd.prog Tryd.f4.params.toList Rows.placeClampsSpec.vars false W args.toList ds gs before) (hL : laidMetH Tryd.prog Rows.placeClampsRow.laid W) (hsh : W.ShapedOpen Tryd.prog) :
    Calls Tryd.prog 4 args W fun e W' => ∃ v, e = .returned v ∧ Rows.placeClampsSpec.post enc Tryd.prog Tryd.f4 false true false false W args v W' := by
  have hW' := hW
  obtain ⟨p, q, hA0, hV, rfl, hfz, hnd⟩ := hW
  have hA : DataW.TrodAll enc Tryd.prog W 0 (fun _ => true) true Tryd.f4.params.toList args.toList ds p := hA0
  rw [Tryd.params4] at hA hval
  obtain ⟨v0, vs0, d0, ds0, p0, q0, hargs, rfl, rfl, h0, r0⟩ := trodAll_cons hA
  obtain ⟨v1, vs1, d1, ds1, p1, q1, rfl, rfl, rfl, h1, r1⟩ := trodAll_cons r0
  obtain ⟨v2, vs2, d2, ds2, p2, q2, rfl, rfl, rfl, h2, r2⟩ := trodAll_cons r1
  obtain ⟨v3, vs3, d3, ds3, p3, q3, rfl, rfl, rfl, h3, r3⟩ := trodAll_cons r2
  obtain ⟨rfl, rfl, rfl⟩ := trodAll_nil r3
  obtain rfl : args = #[v0, v1, v2, v3] := by cases args; simp_all
  obtain ⟨lp, cp, rfl, xp, yp⟩ := open_place (hval 0 23 v0 rfl rfl) h0
  obtain ⟨first, rfl, rfl, rfl, wfirst⟩ := open_int Tryd.underlying3 (hval 1 3 v1 rfl rfl) h1
  obtain ⟨next, rfl, rfl, rfl, wnext⟩ := open_int Tryd.underlying3 (hval 2 3 v2 rfl rfl) h2
  obtain ⟨columns, rfl, rfl, rfl, wcolumns⟩ := open_int Tryd.underlying3 (hval 3 3 v3 rfl rfl) h3
  have xfirst : -9223372036854775808 ≤ first ∧ first ≤ 9223372036854775807 := by simpa [Lit.wf, IntKind.min, IntKind.max, IntKind.signed, IntKind.bits] using wfirst
  have xnext : -9223372036854775808 ≤ next ∧ next ≤ 9223372036854775807 := by simpa [Lit.wf, IntKind.min, IntKind.max, IntKind.signed, IntKind.bits] using wnext
  have xcolumns : -9223372036854775808 ≤ columns ∧ columns ≤ 9223372036854775807 := by simpa [Lit.wf, IntKind.min, IntKind.max, IntKind.signed, IntKind.bits] using wcolumns
  refine (walk lp cp first next columns W (std_of_laid hL hsh) xp yp xfirst xnext xcolumns).mono fun e W' ⟨he, hs⟩ => ?_
  subst he
  exact ⟨_, rfl, law_post (tb := 4) laidOut (by
    rw [Tryd.params4]; intro t ht
    simp only [List.mem_cons, List.not_mem_nil, or_false] at ht
    rcases ht with rfl | rfl | rfl | rfl <;> exact ⟨by kernel_rfl, of_decide_eq_true (by kernel_rfl)⟩) hW' rfl (fun ds hl => by
    rw [Tryd.params4] at hl
    match ds, hl with
    | [_, _, _, _], _ => rfl) (by kernel_rfl) Tryd.underlying4 hs⟩

abbrev startArgs : Array Value := #[.agg #[.int .i64 0, .int .i64 0], .int .i64 0, .int .i64 0, .int .i64 0]
noncomputable abbrev start (os : Os) : World := laidWorld os
theorem laid_met (os : Os) : laidMet Tryd.prog Rows.placeClampsRow.laid ((start os).forCall (fun _ _ => 0) ⟨#[], startArgs, []⟩).memory :=
  laidMet_of_run' 8 (by kernel_rfl) (by kernel_rfl)
theorem reads (os : Os) {H : Type} (enc : TypeId × Value → H) : ∃ x, DataW.whole enc Tryd.prog ((start os).forCall (fun _ _ => 0) ⟨#[], startArgs, []⟩).memory Tryd.f4.params.toList Rows.placeClampsSpec.vars false startArgs.toList 8 = some x :=
  ⟨([.agg [.lit (.int .i64 0), .lit (.int .i64 0)], .lit (.int .i64 0), .lit (.int .i64 0), .lit (.int .i64 0)], [], []), by kernel_rfl⟩

set_option maxRecDepth 100000 in
theorem lifted (os : Os) (started : os.Started) (H : Type) (enc : TypeId × Value → H) (F : Stop.Interp) :
    ReturnsInHanded {} Tryd.checked os 4 .any ((OpenSpec.ofChange Rows.placeClampsSpec).preRow enc Tryd.prog Tryd.f4 Rows.placeClampsRow.domain false Rows.placeClampsRow.laid) (((OpenSpec.ofChange Rows.placeClampsSpec).at F).post enc Tryd.prog Tryd.f4 false true false false) := by
  obtain ⟨x, hx⟩ := reads os enc
  refine returnsInHanded_of_row (C := Tryd.checked) (s := OpenSpec.ofChange Rows.placeClampsSpec) ownK started (by kernel_rfl) Tryd.func4
    (witness_row_at (enc := enc) (C := Tryd.checked) false (start os) startArgs rfl (by kernel_rfl) (by kernel_rfl) (by kernel_rfl)
      (OpenSpec.preRow_of_cond 8 hx (by kernel_rfl) (fun k hk => by cases hk) (by kernel_rfl) (laid_met os))) ?_
  intro W base args ds gs before hval hW _ _ _ hL hsh _
  exact contract H enc W base args ds gs before hval hW hL hsh

theorem said : Rows.PlaceClampsSaid :=
  OpenClaim.holds_of_cond 4 Tryd.f4 rfl rfl rfl rfl rfl rfl rfl ⟨rfl, rfl, rfl, rfl, rfl⟩ rfl rfl rfl rfl rfl (by kernel_rfl) Tryd.func4 (by kernel_rfl)
    (of_decide_eq_true (by kernel_rfl)) (by unfold Func.isWrapper; first | (rw [if_pos (by decide +kernel)]; kernel_rfl) | (rw [if_neg (by decide +kernel)]; exact ⟨rfl, rfl⟩))
    (fun os started H enc _ F => by rw [OpenClaim.pre_eq_preRow]; exact lifted os started H enc F)

theorem plain (f : FuncId) (fn : Func) (hf : Tryd.pinned.checked.prog.funcNamed Rows.placeClampsRow.func = some f) (hfn : Tryd.pinned.checked.prog.funcs[f]? = some fn) :
    true = Tryd.pinned.checked.prog.looks [] ∧ ∀ (j : Nat) t, fn.params[j]? = some t → Tryd.pinned.checked.prog.wantsStandIn t = false := by
  obtain rfl : f = 4 := Option.some.inj ((show Tryd.prog.funcNamed Rows.placeClampsRow.func = some 4 by kernel_rfl).symm.trans hf) |>.symm
  obtain rfl : fn = Tryd.f4 := (Option.some.inj (Tryd.func4.symm.trans hfn)).symm
  refine ⟨by kernel_rfl, fun j t ht => ?_⟩
  rw [Tryd.params4] at ht
  have hm := Array.mem_of_getElem? ht
  simp only [List.mem_toArray, List.mem_cons, List.not_mem_nil, or_false] at hm
  rcases hm with rfl | rfl | rfl | rfl
  · exact (show Tryd.prog.wantsStandIn 23 = false by kernel_rfl)
  · exact (show Tryd.prog.wantsStandIn 3 = false by kernel_rfl)
  · exact (show Tryd.prog.wantsStandIn 3 = false by kernel_rfl)
  · exact (show Tryd.prog.wantsStandIn 3 = false by kernel_rfl)

theorem card : Rows.PlaceClampsCardSaid :=
  Claim7.holds_tied_plain_at .later [] _ _ _ _ said (fun _ h => by cases h) (by kernel_rfl) (fun _ h => by cases h) placeClamps_row_tie rfl ⟨rfl, rfl⟩ (by kernel_rfl) rfl plain (by kernel_rfl)
end placeClamps
end Go.Proofs.YtoljdfaghomjkaaDoor
