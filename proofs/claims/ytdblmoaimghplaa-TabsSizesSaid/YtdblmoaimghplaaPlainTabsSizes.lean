/- TabsSizes returns true for every input, and leaves its arguments alone. No condition. -/
import Derived.Test.YtdblmoaimghplaaLawN
import Derived.Test.YtdblmoaimghplaaTbK
namespace Go.Proofs.Ytdblmoaimghplaa
set_option linter.unusedVariables false
set_option linter.unusedSimpArgs false
namespace tabsSizes
open Go.ChangeShapes Go.WideShapes Go.ChangeAt Go.RowKit

set_option maxHeartbeats 4000000 in
theorem walk (c : Int) (w : World) (hc : -9223372036854775808 ≤ c ∧ c ≤ 9223372036854775807) :
    Calls Try.prog 4 #[.int .i64 c] w fun e w' => e = .returned (.bool true) ∧ Sees w w' := by
  by_cases h1 : c < 1
  · have d1 : decide (c < 1) = true := decide_eq_true h1
    have hN := new_bad w c (by omega)
    go_enter Try.func4, Try.ntmps4
    go_wp2_with (first | (go_at_call 9; refine hN.mono ?_) | (go_at_call 8; refine (known20 _).mono ?_))
    try (rintro e W ⟨rfl, rfl⟩; go_wp2_with (go_at_call 8; refine (known20 _).mono ?_))
    rintro e W2 ⟨rfl, s2⟩
    go_wp2
    go_ret
    exact ⟨rfl, s2⟩
  have d1 : decide (c < 1) = false := decide_eq_false h1
  by_cases h2 : c > 1000
  · have d2 : decide (c > 1000) = true := decide_eq_true h2
    have d2' : decide (1000 < c) = true := decide_eq_true h2
    have hN := new_bad w c (by omega)
    go_enter Try.func4, Try.ntmps4
    go_wp2_with (first | (go_at_call 9; refine hN.mono ?_) | (go_at_call 8; refine (known20 _).mono ?_))
    try (rintro e W ⟨rfl, rfl⟩; go_wp2_with (go_at_call 8; refine (known20 _).mono ?_))
    rintro e W2 ⟨rfl, s2⟩
    go_wp2
    go_ret
    exact ⟨rfl, s2⟩
  have d2 : decide (c > 1000) = false := decide_eq_false h2
  have d2' : decide (1000 < c) = false := decide_eq_false h2
  obtain ⟨n, rfl⟩ : ∃ n : Nat, c = (n : Int) := ⟨c.toNat, by omega⟩
  have hn : 1 ≤ n ∧ n ≤ 1000 := by omega
  go_enter Try.func4, Try.ntmps4
  go_wp2_with fail
  refine (new_ok w n hn).mono ?_
  rintro e W1 ⟨p, mb, rfl, hp, hm, hS, s1⟩
  replace hS := Lib.hid hS
  have hco := cols_at hS.out
  rw [defL_length] at hco
  go_wp2_with (first | (go_at_call 12; refine hco.mono ?_) | (go_at_call 10; refine (rnew_at _ n hn).mono ?_))
  try (rintro e W ⟨rfl, rfl⟩; go_wp2_with (go_at_call 10; refine (rnew_at _ n hn).mono ?_))
  rintro e W2 ⟨q, b, rfl, hq, hb, hR, s2⟩
  go_wp2_with fail
  refine (rlist_at hR).mono ?_
  rintro e W3 ⟨v, rfl, hv, s3⟩
  have hS3 := (hS.out.sees s2).sees s3
  have hv2 := IntsRd.of_row hv
  go_wp2_with fail
  refine (listed_at hS3 _ _ hv2 rfl).mono ?_
  rintro e W4 ⟨rfl, s4⟩
  go_wp2_with fail
  refine (known20 _).mono ?_
  rintro e W5 ⟨rfl, s5⟩
  go_wp2
  go_ret
  exact ⟨rfl, (((s1.trans s2).trans s3).trans s4).trans s5⟩

set_option maxRecDepth 100000 in
theorem contract (H : Type) (enc : TypeId × Value → H) (W : World) (base : Nat) (args : Array Value) (ds gs : List (DataW H)) (before : List MemPlace)
    (hval : ∀ (j : Nat) t v, Try.f4.params[j]? = some t → args[j]? = some v → Value.okWide Try.prog W .any base t v)
    (hW : DataW.Whole enc Try.prog Try.f4.params.toList Rows.tabsSizesSpec.vars false W args.toList ds gs before) :
    Calls Try.prog 4 args W fun e W' => ∃ v, e = .returned v ∧ Rows.tabsSizesSpec.post enc Try.prog Try.f4 false true false false W args v W' := by
  have hW' := hW
  obtain ⟨p, q, hA0, hV, rfl, hfz, hnd⟩ := hW
  have hA : DataW.TrodAll enc Try.prog W 0 (fun _ => true) true Try.f4.params.toList args.toList ds p := hA0
  rw [Try.params4] at hA hval
  obtain ⟨v0, vs0, d0, ds0, p0, q0, hargs, rfl, rfl, h0, r0⟩ := trodAll_cons hA
  obtain ⟨rfl, rfl, rfl⟩ := trodAll_nil r0
  obtain rfl : args = #[v0] := by cases args; simp_all
  obtain ⟨nc, rfl, rfl, rfl, wc⟩ := open_int Try.underlying3 (hval 0 3 v0 rfl rfl) h0
  have xc : -9223372036854775808 ≤ nc ∧ nc ≤ 9223372036854775807 := by simp [Lit.wf, IntKind.min, IntKind.max, IntKind.signed, IntKind.bits] at wc; omega
  refine (walk nc W xc).mono fun e W' ⟨he, hs⟩ => ?_
  subst he
  exact ⟨_, rfl, law_post (tb := 4) laidOut (by
    rw [Try.params4]; intro t ht
    simp only [List.mem_cons, List.not_mem_nil, or_false] at ht
    rcases ht with rfl <;> exact ⟨by kernel_rfl, of_decide_eq_true (by kernel_rfl)⟩) hW' rfl (fun ds hl => by
    rw [Try.params4] at hl
    match ds, hl with
    | [_], _ => rfl) (by kernel_rfl) Try.underlying4 hs⟩

set_option maxRecDepth 100000 in
theorem lifted (os : Os) (started : os.Started) (H : Type) (enc : TypeId × Value → H) :
    ReturnsInHanded {} Try.checked os 4 .any (Rows.tabsSizesSpec.pre6 enc Try.prog Try.f4 Rows.tabsSizesRow.domain false) (Rows.tabsSizesSpec.post enc Try.prog Try.f4 false true false false) := by
  refine returnsInHanded_of_change (C := Try.checked) ownK started (by kernel_rfl) Try.func4
    (ChangeSpec.witness6 (enc := enc) (C := Try.checked) false ⟨#[], #[.int .i64 0], []⟩ 8 (by kernel_rfl) (by kernel_rfl) (by kernel_rfl) (by kernel_rfl)) ?_
  intro W base args ds gs before hval0 hW _ _
  exact contract H enc W base args ds gs before hval0 hW

theorem proved : Rows.TabsSizesSaid :=
  OpenClaim.holds_of_wide 4 Try.f4 rfl rfl rfl rfl rfl rfl rfl ⟨rfl, rfl, rfl, rfl, rfl⟩ rfl rfl rfl rfl rfl (by kernel_rfl) Try.func4 (by kernel_rfl)
    (of_decide_eq_true (by kernel_rfl)) (by unfold Func.isWrapper; first | (rw [if_pos (by decide +kernel)]; kernel_rfl) | (rw [if_neg (by decide +kernel)]; exact ⟨rfl, rfl⟩))
    (fun os started H enc _ => lifted os started H enc)
end tabsSizes
end Go.Proofs.Ytdblmoaimghplaa
