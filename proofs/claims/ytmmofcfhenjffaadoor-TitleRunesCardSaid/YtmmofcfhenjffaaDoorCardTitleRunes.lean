/- TitleRunes returns true for every input, and leaves its arguments alone; the two tables start as the program's text lays them (the card ties that). -/
import Derived.Test.YtmmofcfhenjffaaDoorTiO
import Derived.Test.YtmmofcfhenjffaaDoorTiL
namespace Go.Proofs.YtmmofcfhenjffaaDoor
set_option linter.unusedVariables false
set_option linter.unusedSimpArgs false
namespace titleRunes
open Go.ChangeShapes Go.WideShapes Go.ChangeAt Go.RowKit

theorem conv_rune (w : World) (b : Nat) (r : Int) (T : TypeId) (fr : Nat × Nat) (h : w.heap[b]? = some (.cells #[.int .i32 r] T fr)) :
    (convert 25 9 (.slice (some ⟨b, 0, none⟩) 1 1)).run Tryd.prog w = .ok (.string (runesBytes [r])) w := by
  refine run_convert_runes w _ _ 21 ⟨b, 0, none⟩ 1 1 [r] (Nat.le_refl _) Tryd.underlying25 Tryd.underlying21 Tryd.underlying9 ?_
  intro j hj
  obtain rfl : j = 0 := by simp at hj; omega
  rw [show (⟨b, 0, none⟩ : Addr).add 0 = ⟨b, 0, none⟩ from rfl, cell_of_row w b 0 _ _ _ h]
  rfl
set_option maxHeartbeats 4000000 in
set_option maxRecDepth 100000 in
theorem walk (r : Int) (w : World) (hst : Std w) (_hr : -2147483648 ≤ r ∧ r ≤ 2147483647) :
    Calls Tryd.prog 4 #[.int .i32 r] w fun e w' => e = .returned (.bool true) ∧ Sees w w' := by
  have hw := Sees.refl w
  obtain ⟨X, hX⟩ : ∃ X : ByteArray, X = runesBytes [r] := ⟨_, rfl⟩
  have hXs : X.size ≤ 4 := by
    rw [hX]
    exact runesBytes_size_le [r]
  have hcv := fun W b T fr h => conv_rune W b r T fr h
  rw [← hX] at hcv
  clear hX
  have hl : (((⟨#[97]⟩ : ByteArray) ++ X) ++ ⟨#[98]⟩).size ≤ 1000 := by
    rw [ByteArray.size_append, ByteArray.size_append]
    have : (⟨#[97]⟩ : ByteArray).size = 1 := rfl
    have : (⟨#[98]⟩ : ByteArray).size = 1 := rfl
    omega
  have h1 := fun W => clean_any _ (show (((⟨#[97]⟩ : ByteArray) ++ X) ++ ⟨#[98]⟩).size < 4294967281 by omega) W
  have h2 := fun W => rclean_any _ (show (((⟨#[97]⟩ : ByteArray) ++ X) ++ ⟨#[98]⟩).size ≤ 1000000 by omega) W
  generalize (⟨(cleanT (((⟨#[97]⟩ : ByteArray) ++ X) ++ ⟨#[98]⟩).data.toList).toArray⟩ : ByteArray) = C at h1 h2
  go_enter Tryd.func4, Tryd.ntmps4
  go_wp2_with fail
  rw [hcv _ _ _ _ (heap_alloc_new w _)]
  simp only [Result.andThen]
  rw [Oper.upon_value]
  have s0 : Sees w (w.alloc (.cells #[.int .i32 r] 21)) := hw.alloc _
  generalize w.alloc (.cells #[.int .i32 r] 21) = W0 at s0 ⊢
  go_wp2_with fail
  refine (h1 _).mono ?_
  rintro e W1 ⟨rfl, s1⟩
  replace s1 := s0.trans s1
  go_wp2_with fail
  refine (h2 _).mono ?_
  rintro e W2 ⟨rfl, s2⟩
  have S2 := s1.trans s2
  go_wp2_with fail
  refine (known26 _ (hst.sees S2)).mono ?_
  rintro e W3 ⟨rfl, s3⟩
  have S3 := S2.trans s3
  go_wp2
  go_ret
  exact ⟨rfl, S3⟩

set_option maxRecDepth 100000 in
theorem contract (H : Type) (enc : TypeId × Value → H) (W : World) (base : Nat) (args : Array Value) (ds gs : List (DataW H)) (before : List MemPlace)
    (hval : ∀ (j : Nat) t v, Tryd.f4.params[j]? = some t → args[j]? = some v → Value.okWide Tryd.prog W .any base t v)
    (hW : DataW.Whole enc Tryd.prog Tryd.f4.params.toList Rows.titleRunesSpec.vars false W args.toList ds gs before) (hL : laidMetH Tryd.prog Rows.titleRunesRow.laid W) (hsh : W.ShapedOpen Tryd.prog) :
    Calls Tryd.prog 4 args W fun e W' => ∃ v, e = .returned v ∧ Rows.titleRunesSpec.post enc Tryd.prog Tryd.f4 false true false false W args v W' := by
  have hW' := hW
  obtain ⟨p, q, hA0, hV, rfl, hfz, hnd⟩ := hW
  have hA : DataW.TrodAll enc Tryd.prog W 0 (fun _ => true) true Tryd.f4.params.toList args.toList ds p := hA0
  rw [Tryd.params4] at hA hval
  obtain ⟨v0, vs0, d0, ds0, p0, q0, hargs, rfl, rfl, h0, r0⟩ := trodAll_cons hA
  obtain ⟨rfl, rfl, rfl⟩ := trodAll_nil r0
  obtain rfl : args = #[v0] := by cases args; simp_all
  obtain ⟨r, rfl, rfl, rfl, wr⟩ := open_int Tryd.underlying21 (hval 0 21 v0 rfl rfl) h0
  have xr : -2147483648 ≤ r ∧ r ≤ 2147483647 := by simpa [Lit.wf, IntKind.min, IntKind.max, IntKind.signed, IntKind.bits] using wr
  refine (walk r W (std_of_laid hL hsh) xr).mono fun e W' ⟨he, hs⟩ => ?_
  subst he
  exact ⟨_, rfl, law_post (tb := 4) laidOut (by
    rw [Tryd.params4]; intro t ht
    simp only [List.mem_cons, List.not_mem_nil, or_false] at ht
    rcases ht with rfl <;> exact ⟨by kernel_rfl, of_decide_eq_true (by kernel_rfl)⟩) hW' rfl (fun ds hl => by
    rw [Tryd.params4] at hl
    match ds, hl with
    | [_], _ => rfl) (by kernel_rfl) Tryd.underlying4 hs⟩

abbrev startArgs : Array Value := #[.int .i32 0]
noncomputable abbrev start (os : Os) : World := laidWorld os
theorem laid_met (os : Os) : laidMet Tryd.prog Rows.titleRunesRow.laid ((start os).forCall (fun _ _ => 0) ⟨#[], startArgs, []⟩).memory :=
  laidMet_of_run' 8 (by kernel_rfl) (by kernel_rfl)
theorem reads (os : Os) {H : Type} (enc : TypeId × Value → H) : ∃ x, DataW.whole enc Tryd.prog ((start os).forCall (fun _ _ => 0) ⟨#[], startArgs, []⟩).memory Tryd.f4.params.toList Rows.titleRunesSpec.vars false startArgs.toList 8 = some x :=
  ⟨([.lit (.int .i32 0)], [], []), by kernel_rfl⟩

set_option maxRecDepth 100000 in
theorem lifted (os : Os) (started : os.Started) (H : Type) (enc : TypeId × Value → H) (F : Stop.Interp) :
    ReturnsInHanded {} Tryd.checked os 4 .any ((OpenSpec.ofChange Rows.titleRunesSpec).preRow enc Tryd.prog Tryd.f4 Rows.titleRunesRow.domain false Rows.titleRunesRow.laid) (((OpenSpec.ofChange Rows.titleRunesSpec).at F).post enc Tryd.prog Tryd.f4 false true false false) := by
  obtain ⟨x, hx⟩ := reads os enc
  refine returnsInHanded_of_row (C := Tryd.checked) (s := OpenSpec.ofChange Rows.titleRunesSpec) ownK started (by kernel_rfl) Tryd.func4
    (witness_row_at (enc := enc) (C := Tryd.checked) false (start os) startArgs rfl (by kernel_rfl) (by kernel_rfl) (by kernel_rfl)
      (OpenSpec.preRow_of_cond 8 hx (by kernel_rfl) (fun k hk => by cases hk) (by kernel_rfl) (laid_met os))) ?_
  intro W base args ds gs before hval hW _ _ _ hL hsh _
  exact contract H enc W base args ds gs before hval hW hL hsh

theorem said : Rows.TitleRunesSaid :=
  OpenClaim.holds_of_cond 4 Tryd.f4 rfl rfl rfl rfl rfl rfl rfl ⟨rfl, rfl, rfl, rfl, rfl⟩ rfl rfl rfl rfl rfl (by kernel_rfl) Tryd.func4 (by kernel_rfl)
    (of_decide_eq_true (by kernel_rfl)) (by unfold Func.isWrapper; first | (rw [if_pos (by decide +kernel)]; kernel_rfl) | (rw [if_neg (by decide +kernel)]; exact ⟨rfl, rfl⟩))
    (fun os started H enc _ F => by rw [OpenClaim.pre_eq_preRow]; exact lifted os started H enc F)

theorem plain (f : FuncId) (fn : Func) (hf : Tryd.pinned.checked.prog.funcNamed Rows.titleRunesRow.func = some f) (hfn : Tryd.pinned.checked.prog.funcs[f]? = some fn) :
    true = Tryd.pinned.checked.prog.looks [] ∧ ∀ (j : Nat) t, fn.params[j]? = some t → Tryd.pinned.checked.prog.wantsStandIn t = false := by
  obtain rfl : f = 4 := Option.some.inj ((show Tryd.prog.funcNamed Rows.titleRunesRow.func = some 4 by kernel_rfl).symm.trans hf) |>.symm
  obtain rfl : fn = Tryd.f4 := (Option.some.inj (Tryd.func4.symm.trans hfn)).symm
  refine ⟨by kernel_rfl, fun j t ht => ?_⟩
  rw [Tryd.params4] at ht
  have hm := Array.mem_of_getElem? ht
  simp only [List.mem_toArray, List.mem_cons, List.not_mem_nil, or_false] at hm
  rcases hm with rfl
  · exact (show Tryd.prog.wantsStandIn 21 = false by kernel_rfl)

theorem card : Rows.TitleRunesCardSaid :=
  Claim7.holds_tied_plain_at .later [] _ _ _ _ said (fun _ h => by cases h) (by kernel_rfl) (fun _ h => by cases h) titleRunes_row_tie rfl ⟨rfl, rfl⟩ (by kernel_rfl) rfl plain (by kernel_rfl)
end titleRunes
end Go.Proofs.YtmmofcfhenjffaaDoor
