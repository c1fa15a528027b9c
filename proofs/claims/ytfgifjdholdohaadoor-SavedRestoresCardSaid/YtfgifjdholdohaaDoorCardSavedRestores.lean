/- SavedRestores returns true for every input, and leaves its arguments alone; the two tables start as the program's text lays them (the card ties that). -/
import Derived.Test.YtfgifjdholdohaaDoorSaB
import Derived.Test.YtfgifjdholdohaaDoorSaN
namespace Go.Proofs.YtfgifjdholdohaaDoor
set_option linter.unusedVariables false
set_option linter.unusedSimpArgs false
namespace savedRestores
open Go.ChangeShapes Go.WideShapes Go.ChangeAt Go.RowKit

theorem wpQuiet_run {P : Program} {ops : Array Oper} {C : World → Prop} {Q : Act → Prop} {a : Act} {o : Oper} {rest : List Oper} (v : Value) (hw : Region.wanted o (yielded ops a.tmps) = true) (hr : ∀ W, C W → (execOp a.eval o).run P W = .ok (.value v) W) (h : ∀ K : Act → Prop, (∀ a, wpQuiet P ops C Q rest a → K a) → K (a.put o.dst v)) : wpQuiet P ops C Q (o :: rest) a :=
  wpQuiet_val fun K hK => ⟨hw, v, hr, h K hK⟩
theorem sa2 (w : World) (s : Sv) (a : Ar) (W : World) (hW : W = (w.alloc (.cells s.cells 35)).alloc (.cells a.cells 39)) : SvAt W w.heap.size s ∧ ArAt W (w.heap.size + 1) a ∧ Sees w W := by
  subst hW
  have a1 := (Sees.refl (w.alloc (.cells s.cells 35))).alloc (.cells a.cells 39)
  have B1 := ArAt.new (w.alloc (.cells s.cells 35)) a
  rw [size_al] at B1
  exact ⟨(SvAt.new w s).sees a1, B1, ((Sees.refl w).alloc _).alloc _⟩
set_option maxHeartbeats 16000000 in
set_option maxRecDepth 100000 in
theorem restores_bad (s : Sv) (a : Ar) (w : World) (hw : Std w) (hv : s.ok = false) : Calls Tryd.prog 3 #[s.val, a.val] w fun e w' => e = .returned (.bool true) ∧ Sees w w' := by
  have HW := Lib.hid hw
  clear hw
  have KV : RowKit.Hid (∀ W, Calls Tryd.prog 8 #[s.val] W fun e w' => e = .returned (.bool false) ∧ Sees W w') := fun W => by have h := sValid_any s W; rw [hv] at h; exact h
  have KL : RowKit.Hid (∀ W, Calls Tryd.prog 9 #[s.val] W fun e w' => e = .returned (.bool false) ∧ Sees W w') := fun W => by have h := lvalid_any s W; rw [hv] at h; exact h
  have KK : RowKit.Hid (∀ W, Std W → Calls Tryd.prog 12 #[] W fun e w' => e = .returned (.bool true) ∧ Sees W w') := fun W h0 => by exact known_any W h0
  have KX : RowKit.Hid (∀ W, Calls Tryd.prog 11 #[s.val, a.val, zSv.val, .int .i64 2] W fun e w' => e = .returned (.bool true) ∧ Sees W w') := fun W => by have h := Go.Proofs.YtfgifjdholdohaaDoor.restores_bad s a zSv 2 hv W; rw [eqSv_self] at h; exact h
  clear hv
  go_enter Tryd.func3, Tryd.ntmps3
  go_upto_region 1 with (first
    | (refine wpList_val rfl (exec_box (cs := s.cells) rfl rfl) (fun K hK => ?_); go_simp; refine hK _ _ ?_; clear hK K)
    | (refine wpList_val rfl (exec_box (cs := a.cells) rfl rfl) (fun K hK => ?_); go_simp; refine hK _ _ ?_; clear hK K))
  refine wp_world fun W0 hW0 => ?_
  obtain ⟨A0, B0, S0⟩ := sa2 w s a W0 hW0
  clear hW0
  go_wp2_with fail
  refine wp_region_sees (by kernel_rfl) (by kernel_rfl) ?_
  refine wpQuiet_run s.val ?_ (fun W hW => exec_load rfl rfl (run_loadSv (A0.sees hW))) (fun K hK => ?_); (focus (go_simp; done)); go_simp; refine hK _ ?_; clear hK K
  refine wpQuiet_enter 8 #[s.val] (fun K hK => ⟨?_, fun W hW => ?_, ?_⟩); (focus (go_simp; done)); (focus ( go_simp; done)); apply Exists.intro; refine ⟨fun W hW => (KV.out W).mono fun e w'' ⟨he, hb⟩ => ⟨he, hW.trans hb⟩, ?_⟩; go_simp; refine hK _ ?_; clear hK K
  refine wpQuiet_run s.val ?_ (fun W hW => exec_load rfl rfl (run_loadSv (A0.sees hW))) (fun K hK => ?_); (focus (go_simp; done)); go_simp; refine hK _ ?_; clear hK K
  refine wpQuiet_enter 9 #[s.val] (fun K hK => ⟨?_, fun W hW => ?_, ?_⟩); (focus (go_simp; done)); (focus ( go_simp; done)); apply Exists.intro; refine ⟨fun W hW => (KL.out W).mono fun e w'' ⟨he, hb⟩ => ⟨he, hW.trans hb⟩, ?_⟩; go_simp; refine hK _ ?_; clear hK K
  refine wpQuiet_val (fun K hK => ⟨?_, ?_⟩); (focus (go_simp; done)); apply Exists.intro; refine ⟨fun W hW => ?_, ?_⟩; (focus ( go_simp; first | done | rfl)); go_simp; refine hK _ ?_; clear hK K
  refine wpQuiet_nil ?_; intro w2 hw2
  have A1 := A0.sees hw2
  have B1 := B0.sees hw2
  have S1 := S0.trans hw2
  clear A0 B0 S0 hw2
  go_wp2_with (first
    | (refine wpList_val rfl (exec_load (v := s.val) rfl rfl (run_loadSv A1)) (fun K hK => ?_); go_simp; refine hK _ _ ?_; clear hK K))
  refine (KL.out _).mono ?_
  rintro e W2 ⟨rfl, s2⟩
  have A2 := A1.sees s2
  have B2 := B1.sees s2
  have S2 := S1.trans s2
  clear A1 B1 S1 s2
  go_wp2_with (first
    | (refine wpList_val rfl (exec_load (v := s.val) rfl rfl (run_loadSv A2)) (fun K hK => ?_); go_simp; refine hK _ _ ?_; clear hK K)
    | (refine wpList_val rfl (exec_load (v := a.val) rfl rfl (run_loadAr B2)) (fun K hK => ?_); go_simp; refine hK _ _ ?_; clear hK K)
    | (refine wpList_val rfl (exec_build_zero rfl) (fun K hK => ?_); go_simp; refine hK _ _ ?_; clear hK K))
  refine (KX.out _).mono ?_
  rintro e W3 ⟨rfl, s3⟩
  have S3 := S2.trans s3
  clear A2 B2 S2 s3
  go_wp2_with fail
  refine (KK.out _ (HW.out.sees S3)).mono ?_
  rintro e W4 ⟨rfl, s4⟩
  have S4 := S3.trans s4
  clear  S3 s4
  go_wp2
  go_ret
  exact ⟨rfl, S4⟩
set_option maxHeartbeats 16000000 in
set_option maxRecDepth 100000 in
theorem restores_wrong (s : Sv) (a : Ar) (w : World) (hw : Std w) (hv : s.ok = true) (hr : a.right = false) : Calls Tryd.prog 3 #[s.val, a.val] w fun e w' => e = .returned (.bool true) ∧ Sees w w' := by
  have HW := Lib.hid hw
  clear hw
  have KV : RowKit.Hid (∀ W, Calls Tryd.prog 8 #[s.val] W fun e w' => e = .returned (.bool true) ∧ Sees W w') := fun W => by have h := sValid_any s W; rw [hv] at h; exact h
  have KL : RowKit.Hid (∀ W, Calls Tryd.prog 9 #[s.val] W fun e w' => e = .returned (.bool true) ∧ Sees W w') := fun W => by have h := lvalid_any s W; rw [hv] at h; exact h
  have KK : RowKit.Hid (∀ W, Std W → Calls Tryd.prog 12 #[] W fun e w' => e = .returned (.bool true) ∧ Sees W w') := fun W h0 => by exact known_any W h0
  have KR : RowKit.Hid (∀ W, Calls Tryd.prog 10 #[a.val] W fun e w' => e = .returned (.bool false) ∧ Sees W w') := fun W => by have h := rright_any a W; rw [hr] at h; exact h
  have KX : RowKit.Hid (∀ W, Calls Tryd.prog 11 #[s.val, a.val, zSv.val, .int .i64 2] W fun e w' => e = .returned (.bool true) ∧ Sees W w') := fun W => by have h := Go.Proofs.YtfgifjdholdohaaDoor.restores_wrong s a zSv 2 hv hr W; rw [eqSv_self] at h; exact h
  clear hv hr
  go_enter Tryd.func3, Tryd.ntmps3
  go_upto_region 1 with (first
    | (refine wpList_val rfl (exec_box (cs := s.cells) rfl rfl) (fun K hK => ?_); go_simp; refine hK _ _ ?_; clear hK K)
    | (refine wpList_val rfl (exec_box (cs := a.cells) rfl rfl) (fun K hK => ?_); go_simp; refine hK _ _ ?_; clear hK K))
  refine wp_world fun W0 hW0 => ?_
  obtain ⟨A0, B0, S0⟩ := sa2 w s a W0 hW0
  clear hW0
  go_wp2_with fail
  refine wp_region_sees (by kernel_rfl) (by kernel_rfl) ?_
  refine wpQuiet_run s.val ?_ (fun W hW => exec_load rfl rfl (run_loadSv (A0.sees hW))) (fun K hK => ?_); (focus (go_simp; done)); go_simp; refine hK _ ?_; clear hK K
  refine wpQuiet_enter 8 #[s.val] (fun K hK => ⟨?_, fun W hW => ?_, ?_⟩); (focus (go_simp; done)); (focus ( go_simp; done)); apply Exists.intro; refine ⟨fun W hW => (KV.out W).mono fun e w'' ⟨he, hb⟩ => ⟨he, hW.trans hb⟩, ?_⟩; go_simp; refine hK _ ?_; clear hK K
  refine wpQuiet_run s.val ?_ (fun W hW => exec_load rfl rfl (run_loadSv (A0.sees hW))) (fun K hK => ?_); (focus (go_simp; done)); go_simp; refine hK _ ?_; clear hK K
  refine wpQuiet_enter 9 #[s.val] (fun K hK => ⟨?_, fun W hW => ?_, ?_⟩); (focus (go_simp; done)); (focus ( go_simp; done)); apply Exists.intro; refine ⟨fun W hW => (KL.out W).mono fun e w'' ⟨he, hb⟩ => ⟨he, hW.trans hb⟩, ?_⟩; go_simp; refine hK _ ?_; clear hK K
  refine wpQuiet_val (fun K hK => ⟨?_, ?_⟩); (focus (go_simp; done)); apply Exists.intro; refine ⟨fun W hW => ?_, ?_⟩; (focus ( go_simp; first | done | rfl)); go_simp; refine hK _ ?_; clear hK K
  refine wpQuiet_nil ?_; intro w2 hw2
  have A1 := A0.sees hw2
  have B1 := B0.sees hw2
  have S1 := S0.trans hw2
  clear A0 B0 S0 hw2
  go_wp2_with (first
    | (refine wpList_val rfl (exec_load (v := s.val) rfl rfl (run_loadSv A1)) (fun K hK => ?_); go_simp; refine hK _ _ ?_; clear hK K))
  refine (KL.out _).mono ?_
  rintro e W2 ⟨rfl, s2⟩
  have A2 := A1.sees s2
  have B2 := B1.sees s2
  have S2 := S1.trans s2
  clear A1 B1 S1 s2
  go_wp2_with (first
    | (refine wpList_valG (by go_simp) (exec_load (v := a.val) rfl rfl (run_loadAr B2)) (fun K hK => ?_); go_simp; refine hK _ _ ?_; clear hK K))
  refine (KR.out _).mono ?_
  rintro e W3 ⟨rfl, s3⟩
  have A3 := A2.sees s3
  have B3 := B2.sees s3
  have S3 := S2.trans s3
  clear A2 B2 S2 s3
  go_wp2_with (first
    | (refine wpList_val rfl (exec_load (v := s.val) rfl rfl (run_loadSv A3)) (fun K hK => ?_); go_simp; refine hK _ _ ?_; clear hK K)
    | (refine wpList_val rfl (exec_load (v := a.val) rfl rfl (run_loadAr B3)) (fun K hK => ?_); go_simp; refine hK _ _ ?_; clear hK K)
    | (refine wpList_val rfl (exec_build_zero rfl) (fun K hK => ?_); go_simp; refine hK _ _ ?_; clear hK K))
  refine (KX.out _).mono ?_
  rintro e W4 ⟨rfl, s4⟩
  have S4 := S3.trans s4
  clear A3 B3 S3 s4
  go_wp2_with fail
  refine (KK.out _ (HW.out.sees S4)).mono ?_
  rintro e W5 ⟨rfl, s5⟩
  have S5 := S4.trans s5
  clear  S4 s5
  go_wp2
  go_ret
  exact ⟨rfl, S5⟩
set_option maxHeartbeats 16000000 in
set_option maxRecDepth 100000 in
theorem restores_ok (s : Sv) (a : Ar) (w : World) (hw : Std w) (hv : s.ok = true) (hr : a.right = true) : Calls Tryd.prog 3 #[s.val, a.val] w fun e w' => e = .returned (.bool true) ∧ Sees w w' := by
  have HW := Lib.hid hw
  clear hw
  have KV : RowKit.Hid (∀ W, Calls Tryd.prog 8 #[s.val] W fun e w' => e = .returned (.bool true) ∧ Sees W w') := fun W => by have h := sValid_any s W; rw [hv] at h; exact h
  have KL : RowKit.Hid (∀ W, Calls Tryd.prog 9 #[s.val] W fun e w' => e = .returned (.bool true) ∧ Sees W w') := fun W => by have h := lvalid_any s W; rw [hv] at h; exact h
  have KK : RowKit.Hid (∀ W, Std W → Calls Tryd.prog 12 #[] W fun e w' => e = .returned (.bool true) ∧ Sees W w') := fun W h0 => by exact known_any W h0
  have KR : RowKit.Hid (∀ W, Calls Tryd.prog 10 #[a.val] W fun e w' => e = .returned (.bool true) ∧ Sees W w') := fun W => by have h := rright_any a W; rw [hr] at h; exact h
  have KF : RowKit.Hid (∀ W, Calls Tryd.prog 13 #[s.val, a.val] W fun e w' => e = .returned (resto s a).val ∧ Sees W w') := fun W => by exact rrestore_ok s a hv hr W
  have KX : RowKit.Hid (∀ W, Calls Tryd.prog 11 #[s.val, a.val, (resto s a).val, .int .i64 0] W fun e w' => e = .returned (.bool true) ∧ Sees W w') := fun W => by have h := Go.Proofs.YtfgifjdholdohaaDoor.restores_ok s a (resto s a) 0 hv hr W; rw [eqSv_self] at h; exact h
  clear hv hr
  obtain ⟨x, hx⟩ : ∃ x, x = resto s a := ⟨_, rfl⟩
  rw [← hx] at KF KX
  clear hx
  go_enter Tryd.func3, Tryd.ntmps3
  go_upto_region 1 with (first
    | (refine wpList_val rfl (exec_box (cs := s.cells) rfl rfl) (fun K hK => ?_); go_simp; refine hK _ _ ?_; clear hK K)
    | (refine wpList_val rfl (exec_box (cs := a.cells) rfl rfl) (fun K hK => ?_); go_simp; refine hK _ _ ?_; clear hK K))
  refine wp_world fun W0 hW0 => ?_
  obtain ⟨A0, B0, S0⟩ := sa2 w s a W0 hW0
  clear hW0
  go_wp2_with fail
  refine wp_region_sees (by kernel_rfl) (by kernel_rfl) ?_
  refine wpQuiet_run s.val ?_ (fun W hW => exec_load rfl rfl (run_loadSv (A0.sees hW))) (fun K hK => ?_); (focus (go_simp; done)); go_simp; refine hK _ ?_; clear hK K
  refine wpQuiet_enter 8 #[s.val] (fun K hK => ⟨?_, fun W hW => ?_, ?_⟩); (focus (go_simp; done)); (focus ( go_simp; done)); apply Exists.intro; refine ⟨fun W hW => (KV.out W).mono fun e w'' ⟨he, hb⟩ => ⟨he, hW.trans hb⟩, ?_⟩; go_simp; refine hK _ ?_; clear hK K
  refine wpQuiet_run s.val ?_ (fun W hW => exec_load rfl rfl (run_loadSv (A0.sees hW))) (fun K hK => ?_); (focus (go_simp; done)); go_simp; refine hK _ ?_; clear hK K
  refine wpQuiet_enter 9 #[s.val] (fun K hK => ⟨?_, fun W hW => ?_, ?_⟩); (focus (go_simp; done)); (focus ( go_simp; done)); apply Exists.intro; refine ⟨fun W hW => (KL.out W).mono fun e w'' ⟨he, hb⟩ => ⟨he, hW.trans hb⟩, ?_⟩; go_simp; refine hK _ ?_; clear hK K
  refine wpQuiet_val (fun K hK => ⟨?_, ?_⟩); (focus (go_simp; done)); apply Exists.intro; refine ⟨fun W hW => ?_, ?_⟩; (focus ( go_simp; first | done | rfl)); go_simp; refine hK _ ?_; clear hK K
  refine wpQuiet_nil ?_; intro w2 hw2
  have A1 := A0.sees hw2
  have B1 := B0.sees hw2
  have S1 := S0.trans hw2
  clear A0 B0 S0 hw2
  go_wp2_with (first
    | (refine wpList_val rfl (exec_load (v := s.val) rfl rfl (run_loadSv A1)) (fun K hK => ?_); go_simp; refine hK _ _ ?_; clear hK K))
  refine (KL.out _).mono ?_
  rintro e W2 ⟨rfl, s2⟩
  have A2 := A1.sees s2
  have B2 := B1.sees s2
  have S2 := S1.trans s2
  clear A1 B1 S1 s2
  go_wp2_with (first
    | (refine wpList_valG (by go_simp) (exec_load (v := a.val) rfl rfl (run_loadAr B2)) (fun K hK => ?_); go_simp; refine hK _ _ ?_; clear hK K))
  refine (KR.out _).mono ?_
  rintro e W3 ⟨rfl, s3⟩
  have A3 := A2.sees s3
  have B3 := B2.sees s3
  have S3 := S2.trans s3
  clear A2 B2 S2 s3
  go_wp2_with fail
  refine wp_region_sees (by kernel_rfl) (by kernel_rfl) ?_
  refine wpQuiet_run s.val ?_ (fun W hW => exec_load rfl rfl (run_loadSv (A3.sees hW))) (fun K hK => ?_); (focus (go_simp; done)); go_simp; refine hK _ ?_; clear hK K
  refine wpQuiet_run a.val ?_ (fun W hW => exec_load rfl rfl (run_loadAr (B3.sees hW))) (fun K hK => ?_); (focus (go_simp; done)); go_simp; refine hK _ ?_; clear hK K
  refine wpQuiet_run s.val ?_ (fun W hW => exec_load rfl rfl (run_loadSv (A3.sees hW))) (fun K hK => ?_); (focus (go_simp; done)); go_simp; refine hK _ ?_; clear hK K
  refine wpQuiet_run a.val ?_ (fun W hW => exec_load rfl rfl (run_loadAr (B3.sees hW))) (fun K hK => ?_); (focus (go_simp; done)); go_simp; refine hK _ ?_; clear hK K
  refine wpQuiet_enter 13 #[s.val, a.val] (fun K hK => ⟨?_, fun W hW => ?_, ?_⟩); (focus (go_simp; done)); (focus ( go_simp; done)); apply Exists.intro; refine ⟨fun W hW => (KF.out W).mono fun e w'' ⟨he, hb⟩ => ⟨he, hW.trans hb⟩, ?_⟩; go_simp; refine hK _ ?_; clear hK K
  refine wpQuiet_enter 11 #[s.val, a.val, x.val, .int .i64 0] (fun K hK => ⟨?_, fun W hW => ?_, ?_⟩); (focus (go_simp; done)); (focus ( go_simp; done)); apply Exists.intro; refine ⟨fun W hW => (KX.out W).mono fun e w'' ⟨he, hb⟩ => ⟨he, hW.trans hb⟩, ?_⟩; go_simp; refine hK _ ?_; clear hK K
  refine wpQuiet_val (fun K hK => ⟨?_, ?_⟩); (focus (go_simp; done)); apply Exists.intro; refine ⟨fun W hW => ?_, ?_⟩; (focus ( go_simp; first | done | rfl)); go_simp; refine hK _ ?_; clear hK K
  refine wpQuiet_enter 12 #[] (fun K hK => ⟨?_, fun W hW => ?_, ?_⟩); (focus (go_simp; done)); (focus ( go_simp; done)); apply Exists.intro; refine ⟨fun W hW => (KK.out W (HW.out.sees (S3.trans hW))).mono fun e w'' ⟨he, hb⟩ => ⟨he, hW.trans hb⟩, ?_⟩; go_simp; refine hK _ ?_; clear hK K
  refine wpQuiet_val (fun K hK => ⟨?_, ?_⟩); (focus (go_simp; done)); apply Exists.intro; refine ⟨fun W hW => ?_, ?_⟩; (focus ( go_simp; first | done | rfl)); go_simp; refine hK _ ?_; clear hK K
  refine wpQuiet_val (fun K hK => ⟨?_, ?_⟩); (focus (go_simp; done)); apply Exists.intro; refine ⟨fun W hW => ?_, ?_⟩; (focus ( go_simp; first | done | rfl)); go_simp; refine hK _ ?_; clear hK K
  refine wpQuiet_nil ?_; intro w2 hw2
  have A4 := A3.sees hw2
  have B4 := B3.sees hw2
  have S4 := S3.trans hw2
  clear A3 B3 S3 hw2
  go_wp2
  go_ret
  exact ⟨rfl, S4⟩
theorem walk (s : Sv) (a : Ar) (w : World) (hw : Std w) (hf : s.Fits) : Calls Tryd.prog 3 #[s.val, a.val] w fun e w' => e = .returned (.bool true) ∧ Sees w w' := by
  cases hv : s.ok
  · exact restores_bad s a w hw hv
  · cases hr : a.right
    · exact restores_wrong s a w hw hv hr
    · exact restores_ok s a w hw hv hr

set_option maxRecDepth 100000 in
theorem contract (H : Type) (enc : TypeId × Value → H) (W : World) (base : Nat) (args : Array Value) (ds gs : List (DataW H)) (before : List MemPlace)
    (hval : ∀ (j : Nat) t v, Tryd.f3.params[j]? = some t → args[j]? = some v → Value.okWide Tryd.prog W .any base t v)
    (hW : DataW.Whole enc Tryd.prog Tryd.f3.params.toList Rows.savedRestoresSpec.vars false W args.toList ds gs before) (hL : laidMetH Tryd.prog Rows.savedRestoresRow.laid W) (hsh : W.ShapedOpen Tryd.prog) :
    Calls Tryd.prog 3 args W fun e W' => ∃ v, e = .returned v ∧ Rows.savedRestoresSpec.post enc Tryd.prog Tryd.f3 false true false false W args v W' := by
  have hW' := hW
  obtain ⟨p, q, hA0, hV, rfl, hfz, hnd⟩ := hW
  have hA : DataW.TrodAll enc Tryd.prog W 0 (fun _ => true) true Tryd.f3.params.toList args.toList ds p := hA0
  rw [Tryd.params3] at hA hval
  obtain ⟨v0, vs0, d0, ds0, p0, q0, hargs, rfl, rfl, h0, r0⟩ := trodAll_cons hA
  obtain ⟨v1, vs1, d1, ds1, p1, q1, rfl, rfl, rfl, h1, r1⟩ := trodAll_cons r0
  obtain ⟨rfl, rfl, rfl⟩ := trodAll_nil r1
  obtain rfl : args = #[v0, v1] := by cases args; simp_all
  obtain ⟨s, rfl, xs⟩ := open_saved (hval 0 35 v0 rfl rfl) h0
  obtain ⟨a, rfl⟩ := open_area (hval 1 39 v1 rfl rfl) h1
  refine (walk s a W (std_of_laid hL hsh) xs).mono fun e W' ⟨he, hs⟩ => ?_
  subst he
  exact ⟨_, rfl, law_post (tb := 4) laidOut (by
    rw [Tryd.params3]; intro t ht
    simp only [List.mem_cons, List.not_mem_nil, or_false] at ht
    rcases ht with rfl | rfl <;> exact ⟨by kernel_rfl, of_decide_eq_true (by kernel_rfl)⟩) hW' rfl (fun ds hl => by
    rw [Tryd.params3] at hl
    match ds, hl with
    | [_, _], _ => rfl) (by kernel_rfl) Tryd.underlying4 hs⟩

abbrev startArgs : Array Value := #[.agg #[.int .i64 0, .int .i64 0, .bool false, .int .i64 0, .int .u8 0, .int .u8 0, .int .u8 0, .int .u8 0, .int .i64 0, .int .u8 0, .int .u8 0, .int .u8 0, .int .u8 0, .int .u8 0, .bool false, .int .i64 0, .int .i64 0, .int .i64 0], .agg #[.int .i64 0, .int .i64 0, .int .i64 0, .int .i64 0, .bool false]]
noncomputable abbrev start (os : Os) : World := laidWorld os
theorem laid_met (os : Os) : laidMet Tryd.prog Rows.savedRestoresRow.laid ((start os).forCall (fun _ _ => 0) ⟨#[], startArgs, []⟩).memory :=
  laidMet_of_run' 8 (by kernel_rfl) (by kernel_rfl)
theorem reads (os : Os) {H : Type} (enc : TypeId × Value → H) : ∃ x, DataW.whole enc Tryd.prog ((start os).forCall (fun _ _ => 0) ⟨#[], startArgs, []⟩).memory Tryd.f3.params.toList Rows.savedRestoresSpec.vars false startArgs.toList 8 = some x :=
  ⟨([.agg [.agg [.lit (.int .i64 0), .lit (.int .i64 0), .lit (.bool false)], .agg [.agg [.lit (.int .i64 0), .lit (.int .u8 0), .lit (.int .u8 0), .lit (.int .u8 0), .lit (.int .u8 0)], .agg [.lit (.int .i64 0), .lit (.int .u8 0), .lit (.int .u8 0), .lit (.int .u8 0), .lit (.int .u8 0)], .lit (.int .u8 0)], .lit (.bool false), .agg [.agg [.lit (.int .i64 0), .lit (.int .i64 0)], .lit (.int .i64 0)]], .agg [.lit (.int .i64 0), .lit (.int .i64 0), .agg [.lit (.int .i64 0), .lit (.int .i64 0)], .lit (.bool false)]], [], []), by kernel_rfl⟩

set_option maxRecDepth 100000 in
theorem lifted (os : Os) (started : os.Started) (H : Type) (enc : TypeId × Value → H) (F : Stop.Interp) :
    ReturnsInHanded {} Tryd.checked os 3 .any ((OpenSpec.ofChange Rows.savedRestoresSpec).preRow enc Tryd.prog Tryd.f3 Rows.savedRestoresRow.domain false Rows.savedRestoresRow.laid) (((OpenSpec.ofChange Rows.savedRestoresSpec).at F).post enc Tryd.prog Tryd.f3 false true false false) := by
  obtain ⟨x, hx⟩ := reads os enc
  refine returnsInHanded_of_row (C := Tryd.checked) (s := OpenSpec.ofChange Rows.savedRestoresSpec) ownK started (by kernel_rfl) Tryd.func3
    (witness_row_at (enc := enc) (C := Tryd.checked) false (start os) startArgs rfl (by kernel_rfl) (by kernel_rfl) (by kernel_rfl)
      (OpenSpec.preRow_of_cond 8 hx (by kernel_rfl) (fun k hk => by cases hk) (by kernel_rfl) (laid_met os))) ?_
  intro W base args ds gs before hval hW _ _ _ hL hsh _
  exact contract H enc W base args ds gs before hval hW hL hsh

theorem said : Rows.SavedRestoresSaid :=
  OpenClaim.holds_of_cond 3 Tryd.f3 rfl rfl rfl rfl rfl rfl rfl ⟨rfl, rfl, rfl, rfl, rfl⟩ rfl rfl rfl rfl rfl (by kernel_rfl) Tryd.func3 (by kernel_rfl)
    (of_decide_eq_true (by kernel_rfl)) (by unfold Func.isWrapper; first | (rw [if_pos (by decide +kernel)]; kernel_rfl) | (rw [if_neg (by decide +kernel)]; exact ⟨rfl, rfl⟩))
    (fun os started H enc _ F => by rw [OpenClaim.pre_eq_preRow]; exact lifted os started H enc F)

theorem plain (f : FuncId) (fn : Func) (hf : Tryd.pinned.checked.prog.funcNamed Rows.savedRestoresRow.func = some f) (hfn : Tryd.pinned.checked.prog.funcs[f]? = some fn) :
    true = Tryd.pinned.checked.prog.looks [] ∧ ∀ (j : Nat) t, fn.params[j]? = some t → Tryd.pinned.checked.prog.wantsStandIn t = false := by
  obtain rfl : f = 3 := Option.some.inj ((show Tryd.prog.funcNamed Rows.savedRestoresRow.func = some 3 by kernel_rfl).symm.trans hf) |>.symm
  obtain rfl : fn = Tryd.f3 := (Option.some.inj (Tryd.func3.symm.trans hfn)).symm
  refine ⟨by kernel_rfl, fun j t ht => ?_⟩
  rw [Tryd.params3] at ht
  have hm := Array.mem_of_getElem? ht
  simp only [List.mem_toArray, List.mem_cons, List.not_mem_nil, or_false] at hm
  rcases hm with rfl | rfl
  · exact (show Tryd.prog.wantsStandIn 35 = false by kernel_rfl)
  · exact (show Tryd.prog.wantsStandIn 39 = false by kernel_rfl)

theorem card : Rows.SavedRestoresCardSaid :=
  Claim7.holds_tied_plain_at .later [] _ _ _ _ said (fun _ h => by cases h) (by kernel_rfl) (fun _ h => by cases h) savedRestores_row_tie rfl ⟨rfl, rfl⟩ (by kernel_rfl) rfl plain (by kernel_rfl)
end savedRestores
end Go.Proofs.YtfgifjdholdohaaDoor
