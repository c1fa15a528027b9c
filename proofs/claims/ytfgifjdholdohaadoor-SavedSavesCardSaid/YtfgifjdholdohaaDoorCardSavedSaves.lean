/- SavedSaves returns true for every input, and leaves its arguments alone; the two tables start as the program's text lays them (the card ties that). -/
import Derived.Test.YtfgifjdholdohaaDoorSaB
import Derived.Test.YtfgifjdholdohaaDoorSaN
namespace Go.Proofs.YtfgifjdholdohaaDoor
set_option linter.unusedVariables false
set_option linter.unusedSimpArgs false
namespace savedSaves
open Go.ChangeShapes Go.WideShapes Go.ChangeAt Go.RowKit

set_option maxHeartbeats 16000000 in
set_option maxRecDepth 100000 in
theorem saves_bad (s : Sv) (w : World) (hw : Std w) (hv : s.ok = false) : Calls Tryd.prog 4 #[s.val] w fun e w' => e = .returned (.bool true) ∧ Sees w w' := by
  have HW := Lib.hid hw
  clear hw
  have KL : RowKit.Hid (∀ W, Calls Tryd.prog 9 #[s.val] W fun e w' => e = .returned (.bool false) ∧ Sees W w') := fun W => by have h := lvalid_any s W; rw [hv] at h; exact h
  have KK : RowKit.Hid (∀ W, Std W → Calls Tryd.prog 12 #[] W fun e w' => e = .returned (.bool true) ∧ Sees W w') := fun W h0 => by exact known_any W h0
  have KS : RowKit.Hid (∀ W, Calls Tryd.prog 14 #[s.val, zSv.val, .int .i64 2] W fun e w' => e = .returned (.bool true) ∧ Sees W w') := fun W => by have h := saves_any s zSv 2 W; rw [hv] at h; exact (by rw [if_neg (by decide), if_neg (by decide), eqSv_self] at h; exact h)
  have KT : RowKit.Hid (∀ W, Calls Tryd.prog 15 #[s.val, .string ⟨#[]⟩, .int .i64 2] W fun e w' => e = .returned (.bool true) ∧ Sees W w') := fun W => by have h := texts_bad s ⟨#[]⟩ 2 hv W; rw [Lib.toList_data] at h; exact h
  clear hv
  have A0 := SvAt.new w s
  have S0 := (Sees.refl w).alloc (.cells s.cells 35)
  go_enter Tryd.func4, Tryd.ntmps4
  go_wp2_with (first
    | (refine wpList_val rfl (exec_box (cs := s.cells) rfl rfl) (fun K hK => ?_); go_simp; refine hK _ _ ?_; clear hK K)
    | (refine wpList_val rfl (exec_load (v := s.val) rfl rfl (run_loadSv A0)) (fun K hK => ?_); go_simp; refine hK _ _ ?_; clear hK K))
  refine (KL.out _).mono ?_
  rintro e W1 ⟨rfl, s1⟩
  have A1 := A0.sees s1
  have S1 := S0.trans s1
  clear A0 S0 s1
  go_wp2_with (first
    | (refine wpList_val rfl (exec_load (v := s.val) rfl rfl (run_loadSv A1)) (fun K hK => ?_); go_simp; refine hK _ _ ?_; clear hK K)
    | (refine wpList_val rfl (exec_build_zero rfl) (fun K hK => ?_); go_simp; refine hK _ _ ?_; clear hK K))
  refine (KS.out _).mono ?_
  rintro e W2 ⟨rfl, s2⟩
  have A2 := A1.sees s2
  have S2 := S1.trans s2
  clear A1 S1 s2
  go_wp2_with (first
    | (refine wpList_valG (by go_simp) (exec_load (v := s.val) rfl rfl (run_loadSv A2)) (fun K hK => ?_); go_simp; refine hK _ _ ?_; clear hK K))
  refine (KT.out _).mono ?_
  rintro e W3 ⟨rfl, s3⟩
  have S3 := S2.trans s3
  clear A2 S2 s3
  go_wp2_with fail
  refine (KK.out _ (HW.out.sees S3)).mono ?_
  rintro e W4 ⟨rfl, s4⟩
  have S4 := S3.trans s4
  clear  S3 s4
  go_wp2
  go_ret
  exact ⟨rfl, S4⟩
set_option maxHeartbeats 16000000 in
set_option maxRecDepth 100000 in
theorem saves_good (s : Sv) (w : World) (hw : Std w) (hv : s.ok = true) (hf : s.Fits) : Calls Tryd.prog 4 #[s.val] w fun e w' => e = .returned (.bool true) ∧ Sees w w' := by
  have HW := Lib.hid hw
  clear hw
  have KL : RowKit.Hid (∀ W, Calls Tryd.prog 9 #[s.val] W fun e w' => e = .returned (.bool true) ∧ Sees W w') := fun W => by have h := lvalid_any s W; rw [hv] at h; exact h
  have KK : RowKit.Hid (∀ W, Std W → Calls Tryd.prog 12 #[] W fun e w' => e = .returned (.bool true) ∧ Sees W w') := fun W h0 => by exact known_any W h0
  have KP : RowKit.Hid (∀ W, Calls Tryd.prog 16 #[s.penA] W fun e w' => e = .returned (.tuple #[.int .u64 (s.word : Int), .int .i64 0]) ∧ Sees W w') := fun W => by exact pack_sv s hf (s.ok_pen hv) W
  have KR : RowKit.Hid (∀ W, Calls Tryd.prog 17 #[s.val, .int .u64 (s.word : Int)] W fun e w' => e = .returned (.string ⟨s.text.toArray⟩) ∧ Sees W w') := fun W => by exact rtext_ok s hv s.word (Nat.lt_trans (word_lt hf (s.ok_pen hv)) (by decide)) W
  have KS : RowKit.Hid (∀ W, Calls Tryd.prog 14 #[s.val, s.val, .int .i64 0] W fun e w' => e = .returned (.bool true) ∧ Sees W w') := fun W => by have h := saves_any s s 0 W; rw [hv, if_pos rfl, if_pos rfl, eqSv_self] at h; exact h
  have KT : RowKit.Hid (∀ W, Std W → Calls Tryd.prog 15 #[s.val, .string ⟨s.text.toArray⟩, .int .i64 0] W fun e w' => e = .returned (.bool true) ∧ Sees W w') := fun W h0 => by have h := texts_ok s ⟨s.text.toArray⟩ 0 hv hf W h0; rw [beq_self_eq_true] at h; exact h
  have hsz : s.text.length ≤ 100000 := text_len hv hf
  have KQ : RowKit.Hid (∀ W, Std W → Calls Tryd.prog 18 #[.string ⟨s.text.toArray⟩, s.val, .int .i64 0] W fun e w' => e = .returned (.bool true) ∧ Sees W w') := fun W h0 => by have h := parses_text s s 0 hv hf ⟨s.text.toArray⟩ (by simp) (by show s.text.toArray.size ≤ _; simpa using hsz) W h0; rw [eqSv_self] at h; exact h
  obtain ⟨n, hn⟩ : ∃ n : Nat, n = s.word := ⟨_, rfl⟩
  obtain ⟨Y, hY⟩ : ∃ Y : ByteArray, Y = ⟨s.text.toArray⟩ := ⟨_, rfl⟩
  rw [← hn] at KP KR
  rw [← hY] at KR KT KQ
  clear hv hf hn hY hsz
  have A0 := SvAt.new w s
  have S0 := (Sees.refl w).alloc (.cells s.cells 35)
  go_enter Tryd.func4, Tryd.ntmps4
  go_wp2_with (first
    | (refine wpList_val rfl (exec_box (cs := s.cells) rfl rfl) (fun K hK => ?_); go_simp; refine hK _ _ ?_; clear hK K)
    | (refine wpList_val rfl (exec_load (v := s.val) rfl rfl (run_loadSv A0)) (fun K hK => ?_); go_simp; refine hK _ _ ?_; clear hK K))
  refine (KL.out _).mono ?_
  rintro e W1 ⟨rfl, s1⟩
  have A1 := A0.sees s1
  have S1 := S0.trans s1
  clear A0 S0 s1
  go_wp2_with (first
    | (refine wpList_val rfl (exec_load (v := s.penA) rfl rfl (run_loadPenSv A1)) (fun K hK => ?_); go_simp; refine hK _ _ ?_; clear hK K))
  refine (KP.out _).mono ?_
  rintro e W2 ⟨rfl, s2⟩
  have A2 := A1.sees s2
  have S2 := S1.trans s2
  clear A1 S1 s2
  go_wp2_with (first
    | (refine wpList_val rfl (exec_load (v := s.val) rfl rfl (run_loadSv A2)) (fun K hK => ?_); go_simp; refine hK _ _ ?_; clear hK K))
  refine (KR.out _).mono ?_
  rintro e W3 ⟨rfl, s3⟩
  have A3 := A2.sees s3
  have S3 := S2.trans s3
  clear A2 S2 s3
  go_wp2_with (first
    | (refine wpList_val rfl (exec_load (v := s.val) rfl rfl (run_loadSv A3)) (fun K hK => ?_); go_simp; refine hK _ _ ?_; clear hK K))
  refine (KS.out _).mono ?_
  rintro e W4 ⟨rfl, s4⟩
  have A4 := A3.sees s4
  have S4 := S3.trans s4
  clear A3 S3 s4
  go_wp2_with (first
    | (refine wpList_valG (by go_simp) (exec_load (v := s.val) rfl rfl (run_loadSv A4)) (fun K hK => ?_); go_simp; refine hK _ _ ?_; clear hK K))
  refine (KT.out _ (HW.out.sees S4)).mono ?_
  rintro e W5 ⟨rfl, s5⟩
  have A5 := A4.sees s5
  have S5 := S4.trans s5
  clear A4 S4 s5
  go_wp2_with (first
    | (refine wpList_valG (by go_simp) (exec_load (v := s.val) rfl rfl (run_loadSv A5)) (fun K hK => ?_); go_simp; refine hK _ _ ?_; clear hK K))
  refine (KQ.out _ (HW.out.sees S5)).mono ?_
  rintro e W6 ⟨rfl, s6⟩
  have S6 := S5.trans s6
  clear A5 S5 s6
  go_wp2_with fail
  refine (KK.out _ (HW.out.sees S6)).mono ?_
  rintro e W7 ⟨rfl, s7⟩
  have S7 := S6.trans s7
  clear  S6 s7
  go_wp2
  go_ret
  exact ⟨rfl, S7⟩
theorem walk (s : Sv) (w : World) (hw : Std w) (hf : s.Fits) : Calls Tryd.prog 4 #[s.val] w fun e w' => e = .returned (.bool true) ∧ Sees w w' := by
  cases hv : s.ok
  · exact saves_bad s w hw hv
  · exact saves_good s w hw hv hf

set_option maxRecDepth 100000 in
theorem contract (H : Type) (enc : TypeId × Value → H) (W : World) (base : Nat) (args : Array Value) (ds gs : List (DataW H)) (before : List MemPlace)
    (hval : ∀ (j : Nat) t v, Tryd.f4.params[j]? = some t → args[j]? = some v → Value.okWide Tryd.prog W .any base t v)
    (hW : DataW.Whole enc Tryd.prog Tryd.f4.params.toList Rows.savedSavesSpec.vars false W args.toList ds gs before) (hL : laidMetH Tryd.prog Rows.savedSavesRow.laid W) (hsh : W.ShapedOpen Tryd.prog) :
    Calls Tryd.prog 4 args W fun e W' => ∃ v, e = .returned v ∧ Rows.savedSavesSpec.post enc Tryd.prog Tryd.f4 false true false false W args v W' := by
  have hW' := hW
  obtain ⟨p, q, hA0, hV, rfl, hfz, hnd⟩ := hW
  have hA : DataW.TrodAll enc Tryd.prog W 0 (fun _ => true) true Tryd.f4.params.toList args.toList ds p := hA0
  rw [Tryd.params4] at hA hval
  obtain ⟨v0, vs0, d0, ds0, p0, q0, hargs, rfl, rfl, h0, r0⟩ := trodAll_cons hA
  obtain ⟨rfl, rfl, rfl⟩ := trodAll_nil r0
  obtain rfl : args = #[v0] := by cases args; simp_all
  obtain ⟨s, rfl, xs⟩ := open_saved (hval 0 35 v0 rfl rfl) h0
  refine (walk s W (std_of_laid hL hsh) xs).mono fun e W' ⟨he, hs⟩ => ?_
  subst he
  exact ⟨_, rfl, law_post (tb := 4) laidOut (by
    rw [Tryd.params4]; intro t ht
    simp only [List.mem_cons, List.not_mem_nil, or_false] at ht
    rcases ht with rfl <;> exact ⟨by kernel_rfl, of_decide_eq_true (by kernel_rfl)⟩) hW' rfl (fun ds hl => by
    rw [Tryd.params4] at hl
    match ds, hl with
    | [_], _ => rfl) (by kernel_rfl) Tryd.underlying4 hs⟩

abbrev startArgs : Array Value := #[.agg #[.int .i64 0, .int .i64 0, .bool false, .int .i64 0, .int .u8 0, .int .u8 0, .int .u8 0, .int .u8 0, .int .i64 0, .int .u8 0, .int .u8 0, .int .u8 0, .int .u8 0, .int .u8 0, .bool false, .int .i64 0, .int .i64 0, .int .i64 0]]
noncomputable abbrev start (os : Os) : World := laidWorld os
theorem laid_met (os : Os) : laidMet Tryd.prog Rows.savedSavesRow.laid ((start os).forCall (fun _ _ => 0) ⟨#[], startArgs, []⟩).memory :=
  laidMet_of_run' 8 (by kernel_rfl) (by kernel_rfl)
theorem reads (os : Os) {H : Type} (enc : TypeId × Value → H) : ∃ x, DataW.whole enc Tryd.prog ((start os).forCall (fun _ _ => 0) ⟨#[], startArgs, []⟩).memory Tryd.f4.params.toList Rows.savedSavesSpec.vars false startArgs.toList 8 = some x :=
  ⟨([.agg [.agg [.lit (.int .i64 0), .lit (.int .i64 0), .lit (.bool false)], .agg [.agg [.lit (.int .i64 0), .lit (.int .u8 0), .lit (.int .u8 0), .lit (.int .u8 0), .lit (.int .u8 0)], .agg [.lit (.int .i64 0), .lit (.int .u8 0), .lit (.int .u8 0), .lit (.int .u8 0), .lit (.int .u8 0)], .lit (.int .u8 0)], .lit (.bool false), .agg [.agg [.lit (.int .i64 0), .lit (.int .i64 0)], .lit (.int .i64 0)]]], [], []), by kernel_rfl⟩

set_option maxRecDepth 100000 in
theorem lifted (os : Os) (started : os.Started) (H : Type) (enc : TypeId × Value → H) (F : Stop.Interp) :
    ReturnsInHanded {} Tryd.checked os 4 .any ((OpenSpec.ofChange Rows.savedSavesSpec).preRow enc Tryd.prog Tryd.f4 Rows.savedSavesRow.domain false Rows.savedSavesRow.laid) (((OpenSpec.ofChange Rows.savedSavesSpec).at F).post enc Tryd.prog Tryd.f4 false true false false) := by
  obtain ⟨x, hx⟩ := reads os enc
  refine returnsInHanded_of_row (C := Tryd.checked) (s := OpenSpec.ofChange Rows.savedSavesSpec) ownK started (by kernel_rfl) Tryd.func4
    (witness_row_at (enc := enc) (C := Tryd.checked) false (start os) startArgs rfl (by kernel_rfl) (by kernel_rfl) (by kernel_rfl)
      (OpenSpec.preRow_of_cond 8 hx (by kernel_rfl) (fun k hk => by cases hk) (by kernel_rfl) (laid_met os))) ?_
  intro W base args ds gs before hval hW _ _ _ hL hsh _
  exact contract H enc W base args ds gs before hval hW hL hsh

theorem said : Rows.SavedSavesSaid :=
  OpenClaim.holds_of_cond 4 Tryd.f4 rfl rfl rfl rfl rfl rfl rfl ⟨rfl, rfl, rfl, rfl, rfl⟩ rfl rfl rfl rfl rfl (by kernel_rfl) Tryd.func4 (by kernel_rfl)
    (of_decide_eq_true (by kernel_rfl)) (by unfold Func.isWrapper; first | (rw [if_pos (by decide +kernel)]; kernel_rfl) | (rw [if_neg (by decide +kernel)]; exact ⟨rfl, rfl⟩))
    (fun os started H enc _ F => by rw [OpenClaim.pre_eq_preRow]; exact lifted os started H enc F)

theorem plain (f : FuncId) (fn : Func) (hf : Tryd.pinned.checked.prog.funcNamed Rows.savedSavesRow.func = some f) (hfn : Tryd.pinned.checked.prog.funcs[f]? = some fn) :
    true = Tryd.pinned.checked.prog.looks [] ∧ ∀ (j : Nat) t, fn.params[j]? = some t → Tryd.pinned.checked.prog.wantsStandIn t = false := by
  obtain rfl : f = 4 := Option.some.inj ((show Tryd.prog.funcNamed Rows.savedSavesRow.func = some 4 by kernel_rfl).symm.trans hf) |>.symm
  obtain rfl : fn = Tryd.f4 := (Option.some.inj (Tryd.func4.symm.trans hfn)).symm
  refine ⟨by kernel_rfl, fun j t ht => ?_⟩
  rw [Tryd.params4] at ht
  have hm := Array.mem_of_getElem? ht
  simp only [List.mem_toArray, List.mem_cons, List.not_mem_nil, or_false] at hm
  rcases hm with rfl
  · exact (show Tryd.prog.wantsStandIn 35 = false by kernel_rfl)

theorem card : Rows.SavedSavesCardSaid :=
  Claim7.holds_tied_plain_at .later [] _ _ _ _ said (fun _ h => by cases h) (by kernel_rfl) (fun _ h => by cases h) savedSaves_row_tie rfl ⟨rfl, rfl⟩ (by kernel_rfl) rfl plain (by kernel_rfl)
end savedSaves
end Go.Proofs.YtfgifjdholdohaaDoor
