/- SheetHolds returns true for every input, and leaves its arguments alone; the two tables start as the program's text lays them (the card ties that). -/
import Derived.Test.YtfeoejpbmpdkaaaDoorLaw
import Derived.Test.YtfeoejpbmpdkaaaDoorHolds
namespace Go.Proofs.YtfeoejpbmpdkaaaDoor
set_option linter.unusedVariables false
set_option linter.unusedSimpArgs false
namespace sheetHolds
open Go.ChangeShapes Go.WideShapes Go.ChangeAt Go.RowKit

theorem walk (a : Int) (v : Value) (bs : List Int) (w : World) (ht : Tabs w) (ha : 0 ≤ a ∧ a ≤ 255) (hv : RdBs w v bs) :
    Calls Tryd.prog 4 #[.int .u8 a, v] w fun e w' => e = .returned (.bool true) ∧ Sees w w' := by
  by_cases h1 : a < 1
  · exact sheetHolds_out a v bs w ht hv (.inl (decide_eq_true h1))
  · by_cases h2 : a > 12
    · exact sheetHolds_out a v bs w ht hv (.inr (.inl ⟨decide_eq_false h1, decide_eq_true h2⟩))
    · by_cases h3 : (bs.length : Int) > 60
      · exact sheetHolds_out a v bs w ht hv (.inr (.inr ⟨decide_eq_false h1, decide_eq_false h2, decide_eq_true h3⟩))
      · obtain ⟨n, rfl⟩ := Int.eq_ofNat_of_zero_le ha.1
        exact sheetHolds_in n v bs w ht hv (by omega) (by omega) (by omega)

set_option maxRecDepth 100000 in
theorem contract (H : Type) (enc : TypeId × Value → H) (W : World) (base : Nat) (args : Array Value) (ds gs : List (DataW H)) (before : List MemPlace)
    (hval : ∀ (j : Nat) t v, Tryd.f4.params[j]? = some t → args[j]? = some v → Value.okWide Tryd.prog W .any base t v)
    (hW : DataW.Whole enc Tryd.prog Tryd.f4.params.toList Rows.sheetHoldsSpec.vars false W args.toList ds gs before) (hL : laidMetH Tryd.prog Rows.sheetHoldsRow.laid W) :
    Calls Tryd.prog 4 args W fun e W' => ∃ v, e = .returned v ∧ Rows.sheetHoldsSpec.post enc Tryd.prog Tryd.f4 false true false false W args v W' := by
  have hW' := hW
  obtain ⟨p, q, hA0, hV, rfl, hfz, hnd⟩ := hW
  have hA : DataW.TrodAll enc Tryd.prog W 0 (fun _ => true) true Tryd.f4.params.toList args.toList ds p := hA0
  rw [Tryd.params4] at hA hval
  obtain ⟨v0, vs0, d0, ds0, p0, q0, hargs, rfl, rfl, h0, r0⟩ := trodAll_cons hA
  obtain ⟨v1, vs1, d1, ds1, p1, q1, rfl, rfl, rfl, h1, r1⟩ := trodAll_cons r0
  obtain ⟨rfl, rfl, rfl⟩ := trodAll_nil r1
  obtain rfl : args = #[v0, v1] := by cases args; simp_all
  obtain ⟨a, rfl, rfl, rfl, wa⟩ := open_int Tryd.underlying5 (hval 0 5 v0 rfl rfl) h0
  obtain ⟨bsb, xb⟩ := open_bytes (hval 1 38 v1 rfl rfl) h1
  have xa : 0 ≤ a ∧ a ≤ 255 := by simpa [Lit.wf, IntKind.min, IntKind.max, IntKind.signed, IntKind.bits] using wa
  refine (walk a _ bsb W (tabs_of_laid hL) xa xb).mono fun e W' ⟨he, hs⟩ => ?_
  subst he
  exact ⟨_, rfl, law_post (tb := 4) laidOut (by
    rw [Tryd.params4]; intro t ht
    simp only [List.mem_cons, List.not_mem_nil, or_false] at ht
    rcases ht with rfl | rfl <;> exact ⟨by kernel_rfl, of_decide_eq_true (by kernel_rfl)⟩) hW' rfl (fun ds hl => by
    rw [Tryd.params4] at hl
    match ds, hl with
    | [_, _], _ => rfl) (by kernel_rfl) Tryd.underlying4 hs⟩

abbrev startArgs : Array Value := #[.int .u8 0, .slice none 0 0]
noncomputable abbrev start (os : Os) : World := laidWorld os (World.holding Tryd.prog os ⟨#[], #[], []⟩)
theorem laid_met (os : Os) : laidMet Tryd.prog Rows.sheetHoldsRow.laid ((start os).forCall (fun _ _ => 0) ⟨#[], startArgs, []⟩).memory :=
  laidMet_of_run' 8 (by kernel_rfl) (by kernel_rfl)
theorem reads (os : Os) {H : Type} (enc : TypeId × Value → H) : ∃ x, DataW.whole enc Tryd.prog ((start os).forCall (fun _ _ => 0) ⟨#[], startArgs, []⟩).memory Tryd.f4.params.toList Rows.sheetHoldsSpec.vars false startArgs.toList 8 = some x :=
  ⟨([.lit (.int .u8 0), .nil], [], []), by kernel_rfl⟩

set_option maxRecDepth 100000 in
theorem lifted (os : Os) (started : os.Started) (H : Type) (enc : TypeId × Value → H) (F : Stop.Interp) :
    ReturnsInHanded {} Tryd.checked os 4 .any ((OpenSpec.ofChange Rows.sheetHoldsSpec).preRow enc Tryd.prog Tryd.f4 Rows.sheetHoldsRow.domain false Rows.sheetHoldsRow.laid) (((OpenSpec.ofChange Rows.sheetHoldsSpec).at F).post enc Tryd.prog Tryd.f4 false true false false) := by
  obtain ⟨x, hx⟩ := reads os enc
  refine returnsInHanded_of_row (C := Tryd.checked) (s := OpenSpec.ofChange Rows.sheetHoldsSpec) ownK started (by kernel_rfl) Tryd.func4
    (witness_row_at (enc := enc) (C := Tryd.checked) false (start os) startArgs rfl (by kernel_rfl) (by kernel_rfl) (by kernel_rfl)
      (OpenSpec.preRow_of_cond 8 hx (by kernel_rfl) (fun k hk => by cases hk) (by kernel_rfl) (laid_met os))) ?_
  intro W base args ds gs before hval hW _ _ _ hL _ _
  exact contract H enc W base args ds gs before hval hW hL

theorem said : Rows.SheetHoldsSaid :=
  OpenClaim.holds_of_cond 4 Tryd.f4 rfl rfl rfl rfl rfl rfl rfl ⟨rfl, rfl, rfl, rfl, rfl⟩ rfl rfl rfl rfl rfl (by kernel_rfl) Tryd.func4 (by kernel_rfl)
    (of_decide_eq_true (by kernel_rfl)) (by unfold Func.isWrapper; first | (rw [if_pos (by decide +kernel)]; kernel_rfl) | (rw [if_neg (by decide +kernel)]; exact ⟨rfl, rfl⟩))
    (fun os started H enc _ F => by rw [OpenClaim.pre_eq_preRow]; exact lifted os started H enc F)

theorem plain (f : FuncId) (fn : Func) (hf : Tryd.pinned.checked.prog.funcNamed Rows.sheetHoldsRow.func = some f) (hfn : Tryd.pinned.checked.prog.funcs[f]? = some fn) :
    false = Tryd.pinned.checked.prog.looks [] ∧ ∀ (j : Nat) t, fn.params[j]? = some t → Tryd.pinned.checked.prog.wantsStandIn t = false := by
  obtain rfl : f = 4 := Option.some.inj ((show Tryd.prog.funcNamed Rows.sheetHoldsRow.func = some 4 by kernel_rfl).symm.trans hf) |>.symm
  obtain rfl : fn = Tryd.f4 := (Option.some.inj (Tryd.func4.symm.trans hfn)).symm
  refine ⟨by kernel_rfl, fun j t ht => ?_⟩
  rw [Tryd.params4] at ht
  have hm := Array.mem_of_getElem? ht
  simp only [List.mem_toArray, List.mem_cons, List.not_mem_nil, or_false] at hm
  rcases hm with rfl | rfl
  · exact (show Tryd.prog.wantsStandIn 5 = false by kernel_rfl)
  · exact (show Tryd.prog.wantsStandIn 38 = false by kernel_rfl)

theorem card : Rows.SheetHoldsCardSaid :=
  Claim7.holds_tied_plain_at .later [] _ _ _ _ said (fun _ h => by cases h) (by kernel_rfl) (fun _ h => by cases h) sheetHolds_row_tie rfl ⟨rfl, rfl⟩ (by kernel_rfl) rfl plain (by kernel_rfl)
end sheetHolds
end Go.Proofs.YtfeoejpbmpdkaaaDoor
