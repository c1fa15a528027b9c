/- MarkupPages returns true for every input, and leaves its arguments alone; the two tables start as the program's text lays them (the card ties that). -/
import Derived.Test.YthcndmchlpohpaaGreatDoorLawM
import Derived.Test.YthcndmchlpohpaaGreatDoorMpG
import Derived.Test.YthcndmchlpohpaaGreatDoorOpB
namespace Go.Proofs.YthcndmchlpohpaaGreatDoor
set_option linter.unusedVariables false
set_option linter.unusedSimpArgs false
namespace markupPages
open Go.ChangeShapes Go.WideShapes Go.ChangeAt Go.RowKit

theorem walk (v : Value) (ls : List Ln) (more : ByteArray) (W : World) (hw : Sd W) (xl : lnEl.Rd (fun b => b < W.heap.size) W v ls) (yl : ∀ x ∈ ls, ∀ c ∈ x.cells, c.Bd) (xmore : more.size ≤ maxLen) :
    Calls Tryz.prog 4 #[v, .string more] W fun e W' => e = .returned (.bool true) ∧ Sees W W' := by
  have h := markupPages_true v ls _ more.data.toList W hw xl yl (by
    have h1 : maxLen ≤ 9223372036854775807 := by decide
    have h2 : more.data.toList.length = more.size := by simp
    omega)
  rwa [strL_self] at h

set_option maxRecDepth 100000 in
theorem contract (H : Type) (enc : TypeId × Value → H) (W : World) (base : Nat) (args : Array Value) (ds gs : List (DataW H)) (before : List MemPlace)
    (hval : ∀ (j : Nat) t v, Tryz.f4.params[j]? = some t → args[j]? = some v → Value.okWide Tryz.prog W .any base t v)
    (hW : DataW.Whole enc Tryz.prog Tryz.f4.params.toList Rows.markupPagesSpec.vars false W args.toList ds gs before) (hL : laidMetH Tryz.prog Rows.markupPagesRow.laid W) (hsh : W.ShapedOpen Tryz.prog) :
    Calls Tryz.prog 4 args W fun e W' => ∃ v, e = .returned v ∧ Rows.markupPagesSpec.post enc Tryz.prog Tryz.f4 false true false false W args v W' := by
  have hW' := hW
  obtain ⟨p, q, hA0, hV, rfl, hfz, hnd⟩ := hW
  have hA : DataW.TrodAll enc Tryz.prog W 0 (fun _ => true) true Tryz.f4.params.toList args.toList ds p := hA0
  rw [Tryz.params4] at hA hval
  obtain ⟨v0, vs0, d0, ds0, p0, q0, hargs, rfl, rfl, h0, r0⟩ := trodAll_cons hA
  obtain ⟨v1, vs1, d1, ds1, p1, q1, rfl, rfl, rfl, h1, r1⟩ := trodAll_cons r0
  obtain ⟨rfl, rfl, rfl⟩ := trodAll_nil r1
  obtain rfl : args = #[v0, v1] := by cases args; simp_all
  obtain ⟨lsl, xl, yl⟩ := open_linesB (hval 0 30 v0 rfl rfl) h0
  obtain ⟨smore, rfl, rfl, rfl, xmore⟩ := Go.ChangeMaps.open_string Tryz.underlying9 (hval 1 9 v1 rfl rfl) h1
  refine (walk _ lsl smore W (std_of_laid hL hsh) xl yl xmore).mono fun e W' ⟨he, hs⟩ => ?_
  subst he
  exact ⟨_, rfl, law_post (tb := 4) laidOut (by
    rw [Tryz.params4]; intro t ht
    simp only [List.mem_cons, List.not_mem_nil, or_false] at ht
    rcases ht with rfl | rfl <;> exact ⟨by kernel_rfl, of_decide_eq_true (by kernel_rfl)⟩) hW' rfl (fun ds hl => by
    rw [Tryz.params4] at hl
    match ds, hl with
    | [_, _], _ => rfl) (by kernel_rfl) Tryz.underlying4 hs⟩

abbrev startArgs : Array Value := #[.slice none 0 0, .string ⟨#[]⟩]
noncomputable abbrev start (os : Os) : World := laidWorld os
theorem laid_met (os : Os) : laidMet Tryz.prog Rows.markupPagesRow.laid ((start os).forCall (fun _ _ => 0) ⟨#[], startArgs, []⟩).memory :=
  laidMet_of_run' 8 (by kernel_rfl) (by kernel_rfl)
theorem reads (os : Os) {H : Type} (enc : TypeId × Value → H) : ∃ x, DataW.whole enc Tryz.prog ((start os).forCall (fun _ _ => 0) ⟨#[], startArgs, []⟩).memory Tryz.f4.params.toList Rows.markupPagesSpec.vars false startArgs.toList 8 = some x :=
  ⟨([.nil, .lit (.string [])], [], []), by kernel_rfl⟩

set_option maxRecDepth 100000 in
theorem lifted (os : Os) (started : os.Started) (H : Type) (enc : TypeId × Value → H) (F : Stop.Interp) :
    ReturnsInHanded {} Tryz.checked os 4 .any ((OpenSpec.ofChange Rows.markupPagesSpec).preRow enc Tryz.prog Tryz.f4 Rows.markupPagesRow.domain false Rows.markupPagesRow.laid) (((OpenSpec.ofChange Rows.markupPagesSpec).at F).post enc Tryz.prog Tryz.f4 false true false false) := by
  obtain ⟨x, hx⟩ := reads os enc
  refine returnsInHanded_of_row (C := Tryz.checked) (s := OpenSpec.ofChange Rows.markupPagesSpec) ownK started (by kernel_rfl) Tryz.func4
    (witness_row_at (enc := enc) (C := Tryz.checked) false (start os) startArgs rfl (by kernel_rfl) (by kernel_rfl) (by kernel_rfl)
      (OpenSpec.preRow_of_cond 8 hx (by kernel_rfl) (fun k hk => by cases hk) (by kernel_rfl) (laid_met os))) ?_
  intro W base args ds gs before hval hW _ _ _ hL hsh _
  exact contract H enc W base args ds gs before hval hW hL hsh

theorem said : Rows.MarkupPagesSaid :=
  OpenClaim.holds_of_cond 4 Tryz.f4 rfl rfl rfl rfl rfl rfl rfl ⟨rfl, rfl, rfl, rfl, rfl⟩ rfl rfl rfl rfl rfl (by kernel_rfl) Tryz.func4 (by kernel_rfl)
    (of_decide_eq_true (by kernel_rfl)) (by unfold Func.isWrapper; first | (rw [if_pos (by decide +kernel)]; kernel_rfl) | (rw [if_neg (by decide +kernel)]; exact ⟨rfl, rfl⟩))
    (fun os started H enc _ F => by rw [OpenClaim.pre_eq_preRow]; exact lifted os started H enc F)

theorem plain (f : FuncId) (fn : Func) (hf : Tryz.pinned.checked.prog.funcNamed Rows.markupPagesRow.func = some f) (hfn : Tryz.pinned.checked.prog.funcs[f]? = some fn) :
    true = Tryz.pinned.checked.prog.looks [] ∧ ∀ (j : Nat) t, fn.params[j]? = some t → Tryz.pinned.checked.prog.wantsStandIn t = false := by
  obtain rfl : f = 4 := Option.some.inj ((show Tryz.prog.funcNamed Rows.markupPagesRow.func = some 4 by kernel_rfl).symm.trans hf) |>.symm
  obtain rfl : fn = Tryz.f4 := (Option.some.inj (Tryz.func4.symm.trans hfn)).symm
  refine ⟨by kernel_rfl, fun j t ht => ?_⟩
  rw [Tryz.params4] at ht
  have hm := Array.mem_of_getElem? ht
  simp only [List.mem_toArray, List.mem_cons, List.not_mem_nil, or_false] at hm
  rcases hm with rfl | rfl
  · exact (show Tryz.prog.wantsStandIn 30 = false by kernel_rfl)
  · exact (show Tryz.prog.wantsStandIn 9 = false by kernel_rfl)

theorem card : Rows.MarkupPagesCardSaid :=
  Claim7.holds_tied_plain_at .later [] _ _ _ _ said (fun _ h => by cases h) (by kernel_rfl) (fun _ h => by cases h) markupPages_row_tie rfl ⟨rfl, rfl⟩ (by kernel_rfl) rfl plain (by kernel_rfl)
end markupPages
end Go.Proofs.YthcndmchlpohpaaGreatDoor
