/- TabsNil returns true for every input, and leaves its arguments alone. No condition. -/
import Derived.Test.YtdblmoaimghplaaLawN
import Derived.Test.YtdblmoaimghplaaTbN
namespace Go.Proofs.Ytdblmoaimghplaa
set_option linter.unusedVariables false
set_option linter.unusedSimpArgs false
namespace tabsNil
open Go.ChangeShapes Go.WideShapes Go.ChangeAt Go.RowKit

set_option maxHeartbeats 4000000 in
theorem walk (a n : Int) (w : World) (_ha : -9223372036854775808 ≤ a ∧ a ≤ 9223372036854775807) (_hn : -9223372036854775808 ≤ n ∧ n ≤ 9223372036854775807) :
    Calls Try.prog 7 #[.int .i64 a, .int .i64 n] w fun e w' => e = .returned (.bool true) ∧ Sees w w' := by
  have hr := Sees.refl w
  have hs1 : Sees w ((w.alloc (.cells #[i64 0, .map none] 53)).alloc (.cells #[.pointer none, ptr w.heap.size] 24)) := (hr.alloc _).alloc _
  have hrow1 : ((w.alloc (.cells #[i64 0, .map none] 53)).alloc (.cells #[.pointer none, ptr w.heap.size] 24)).heap[w.heap.size]? = some (.cells #[i64 0, .map none] 53 (0, 0)) := by
    rw [Below.heap_alloc _ _ w.heap.size (by simp)]
    exact heap_alloc_new w _
  have hrow2 : ((w.alloc (.cells #[i64 0, .map none] 53)).alloc (.cells #[.pointer none, ptr w.heap.size] 24)).heap[w.heap.size + 1]? = some (.cells #[.pointer none, ptr w.heap.size] 24 (0, 0)) := by
    have := heap_alloc_new (w.alloc (.cells #[i64 0, .map none] 53)) (.cells #[.pointer none, ptr w.heap.size] 24)
    simpa using this
  go_enter Try.func7, Try.ntmps7
  go_wp2
  generalize (w.alloc (.cells #[i64 0, .map none] 53)).alloc (.cells #[.pointer none, ptr w.heap.size] 24) = W1 at hs1 hrow1 hrow2 ⊢
  go_loopw [11] (fun x W => ∃ k : Nat, x = .int .i64 k ∧ k ≤ 2 ∧ RowKit.Hid (Sees w W) ∧ RowKit.Hid (W.heap[w.heap.size]? = some (.cells #[i64 0, .map none] 53 (0, 0))) ∧ RowKit.Hid (W.heap[w.heap.size + 1]? = some (.cells #[.pointer none, ptr w.heap.size] 24 (0, 0)))) (fun x _ => 2 - (vInt x).toNat)
  case atStart => exact ⟨0, rfl, by omega, Lib.hid hs1, Lib.hid hrow1, Lib.hid hrow2⟩
  case round =>
    obtain ⟨k, rfl, hk, hS, h1, h2⟩ := hrel
    clear hs1 hrow1 hrow2
    by_cases hlt : k < 2
    · obtain ⟨s, hs, hN⟩ : ∃ s, wr.cell? ⟨w.heap.size + 1, k, none⟩ = some (.pointer s) ∧ NoS wr s := by
        rcases (show k = 0 ∨ k = 1 by omega) with rfl | rfl
        · exact ⟨none, by rw [Go.cell_of_row _ _ _ _ _ _ h2.out]; rfl, .inl rfl⟩
        · exact ⟨some ⟨w.heap.size, 0, none⟩, by rw [Go.cell_of_row _ _ _ _ _ _ h2.out]; rfl, .inr ⟨_, rfl, h1.out⟩⟩
      replace hN := Lib.hid hN
      have HS := Lib.hid (Sees.refl wr)
      go_wp2_with fail
      refine (no_set hN.out a).mono ?_
      rintro e W ⟨rfl, s⟩
      replace hN := Lib.hid (hN.out.sees s)
      replace HS := Lib.hid (HS.out.trans s)
      clear s
      go_wp2_with fail
      refine (no_clear hN.out a).mono ?_
      rintro e W ⟨rfl, s⟩
      replace hN := Lib.hid (hN.out.sees s)
      replace HS := Lib.hid (HS.out.trans s)
      clear s
      go_wp2_with fail
      refine (no_reset hN.out).mono ?_
      rintro e W ⟨rfl, s⟩
      replace hN := Lib.hid (hN.out.sees s)
      replace HS := Lib.hid (HS.out.trans s)
      clear s
      go_wp2_with fail
      refine (no_default hN.out).mono ?_
      rintro e W ⟨rfl, s⟩
      replace hN := Lib.hid (hN.out.sees s)
      replace HS := Lib.hid (HS.out.trans s)
      clear s
      go_wp2_with fail
      refine (no_nexts hN.out a n).mono ?_
      rintro e W ⟨rfl, s⟩
      replace hN := Lib.hid (hN.out.sees s)
      replace HS := Lib.hid (HS.out.trans s)
      clear s
      go_wp2_with fail
      refine (no_prevs hN.out a n).mono ?_
      rintro e W ⟨rfl, s⟩
      replace hN := Lib.hid (hN.out.sees s)
      replace HS := Lib.hid (HS.out.trans s)
      clear s
      go_wp2_with fail
      refine (no_resize hN.out a).mono ?_
      rintro e W ⟨rfl, s⟩
      replace hN := Lib.hid (hN.out.sees s)
      replace HS := Lib.hid (HS.out.trans s)
      clear s
      go_wp2_with fail
      refine (no_cols hN.out).mono ?_
      rintro e W ⟨rfl, s⟩
      replace hN := Lib.hid (hN.out.sees s)
      replace HS := Lib.hid (HS.out.trans s)
      clear s
      go_wp2_with fail
      refine (no_list hN.out).mono ?_
      rintro e W ⟨rfl, s⟩
      replace hN := Lib.hid (hN.out.sees s)
      replace HS := Lib.hid (HS.out.trans s)
      clear s
      go_wp2_with fail
      refine (no_copy hN.out).mono ?_
      rintro e W ⟨rfl, s⟩
      replace hN := Lib.hid (hN.out.sees s)
      replace HS := Lib.hid (HS.out.trans s)
      clear s
      clear hs
      go_wp2
      go_roundw
      case rel => exact ⟨k + 1, by go_num, by omega, Lib.hid (hS.out.trans HS.out), Lib.hid (by rw [HS.out.block _ (Array.getElem?_eq_some_iff.1 h1.out).1]; exact h1.out), Lib.hid (by rw [HS.out.block _ (Array.getElem?_eq_some_iff.1 h2.out).1]; exact h2.out)⟩
      case measure => simp [vInt]; omega
    · obtain rfl : k = 2 := by omega
      go_wp2_with fail
      refine (known20 _).mono ?_
      rintro e W ⟨rfl, s⟩
      go_wp2
      go_ret
      exact ⟨rfl, hS.out.trans s⟩

set_option maxRecDepth 100000 in
theorem contract (H : Type) (enc : TypeId × Value → H) (W : World) (base : Nat) (args : Array Value) (ds gs : List (DataW H)) (before : List MemPlace)
    (hval : ∀ (j : Nat) t v, Try.f7.params[j]? = some t → args[j]? = some v → Value.okWide Try.prog W .any base t v)
    (hW : DataW.Whole enc Try.prog Try.f7.params.toList Rows.tabsNilSpec.vars false W args.toList ds gs before) :
    Calls Try.prog 7 args W fun e W' => ∃ v, e = .returned v ∧ Rows.tabsNilSpec.post enc Try.prog Try.f7 false true false false W args v W' := by
  have hW' := hW
  obtain ⟨p, q, hA0, hV, rfl, hfz, hnd⟩ := hW
  have hA : DataW.TrodAll enc Try.prog W 0 (fun _ => true) true Try.f7.params.toList args.toList ds p := hA0
  rw [Try.params7] at hA hval
  obtain ⟨v0, vs0, d0, ds0, p0, q0, hargs, rfl, rfl, h0, r0⟩ := trodAll_cons hA
  obtain ⟨v1, vs1, d1, ds1, p1, q1, rfl, rfl, rfl, h1, r1⟩ := trodAll_cons r0
  obtain ⟨rfl, rfl, rfl⟩ := trodAll_nil r1
  obtain rfl : args = #[v0, v1] := by cases args; simp_all
  obtain ⟨na, rfl, rfl, rfl, wa⟩ := open_int Try.underlying3 (hval 0 3 v0 rfl rfl) h0
  obtain ⟨nn, rfl, rfl, rfl, wn⟩ := open_int Try.underlying3 (hval 1 3 v1 rfl rfl) h1
  have xa : -9223372036854775808 ≤ na ∧ na ≤ 9223372036854775807 := by simp [Lit.wf, IntKind.min, IntKind.max, IntKind.signed, IntKind.bits] at wa; omega
  have xn : -9223372036854775808 ≤ nn ∧ nn ≤ 9223372036854775807 := by simp [Lit.wf, IntKind.min, IntKind.max, IntKind.signed, IntKind.bits] at wn; omega
  refine (walk na nn W xa xn).mono fun e W' ⟨he, hs⟩ => ?_
  subst he
  exact ⟨_, rfl, law_post (tb := 4) laidOut (by
    rw [Try.params7]; intro t ht
    simp only [List.mem_cons, List.not_mem_nil, or_false] at ht
    rcases ht with rfl | rfl <;> exact ⟨by kernel_rfl, of_decide_eq_true (by kernel_rfl)⟩) hW' rfl (fun ds hl => by
    rw [Try.params7] at hl
    match ds, hl with
    | [_, _], _ => rfl) (by kernel_rfl) Try.underlying4 hs⟩

set_option maxRecDepth 100000 in
theorem lifted (os : Os) (started : os.Started) (H : Type) (enc : TypeId × Value → H) :
    ReturnsInHanded {} Try.checked os 7 .any (Rows.tabsNilSpec.pre6 enc Try.prog Try.f7 Rows.tabsNilRow.domain false) (Rows.tabsNilSpec.post enc Try.prog Try.f7 false true false false) := by
  refine returnsInHanded_of_change (C := Try.checked) ownK started (by kernel_rfl) Try.func7
    (ChangeSpec.witness6 (enc := enc) (C := Try.checked) false ⟨#[], #[.int .i64 0, .int .i64 0], []⟩ 8 (by kernel_rfl) (by kernel_rfl) (by kernel_rfl) (by kernel_rfl)) ?_
  intro W base args ds gs before hval0 hW _ _
  exact contract H enc W base args ds gs before hval0 hW

theorem proved : Rows.TabsNilSaid :=
  OpenClaim.holds_of_wide 7 Try.f7 rfl rfl rfl rfl rfl rfl rfl ⟨rfl, rfl, rfl, rfl, rfl⟩ rfl rfl rfl rfl rfl (by kernel_rfl) Try.func7 (by kernel_rfl)
    (of_decide_eq_true (by kernel_rfl)) (by unfold Func.isWrapper; first | (rw [if_pos (by decide +kernel)]; kernel_rfl) | (rw [if_neg (by decide +kernel)]; exact ⟨rfl, rfl⟩))
    (fun os started H enc _ => lifted os started H enc)
end tabsNil
end Go.Proofs.Ytdblmoaimghplaa
