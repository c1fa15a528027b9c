/- SavedReads returns true for every input, and leaves its arguments alone; the two tables start as the program's text lays them (the card ties that). -/
import Derived.Test.YtfgifjdholdohaaDoorSaB
import Derived.Test.YtfgifjdholdohaaDoorSaN
namespace Go.Proofs.YtfgifjdholdohaaDoor
set_option linter.unusedVariables false
set_option linter.unusedSimpArgs false
namespace savedReads
open Go.ChangeShapes Go.WideShapes Go.ChangeAt Go.RowKit

set_option maxHeartbeats 16000000 in
set_option maxRecDepth 100000 in
theorem reads_bad (s : Sv) (b1 b2 : Int) (M : ByteArray) (w : World) (hw : Std w) (hv : s.ok = false) : Calls Tryd.prog 5 #[s.val, .int .u8 b1, .int .u8 b2, .string M] w fun e w' => e = .returned (.bool true) ∧ Sees w w' := by
  have HW := Lib.hid hw
  clear hw
  have KL : RowKit.Hid (∀ W, Calls Tryd.prog 9 #[s.val] W fun e w' => e = .returned (.bool false) ∧ Sees W w') := fun W => by have h := lvalid_any s W; rw [hv] at h; exact h
  have KK : RowKit.Hid (∀ W, Std W → Calls Tryd.prog 12 #[] W fun e w' => e = .returned (.bool true) ∧ Sees W w') := fun W h0 => by exact known_any W h0
  clear hv
  have A0 := SvAt.new w s
  have S0 := (Sees.refl w).alloc (.cells s.cells 35)
  go_enter Tryd.func5, Tryd.ntmps5
  go_wp2_with (first
    | (refine wpList_val rfl (exec_box (cs := s.cells) rfl rfl) (fun K hK => ?_); go_simp; refine hK _ _ ?_; clear hK K)
    | (refine wpList_val rfl (exec_load (v := s.val) rfl rfl (run_loadSv A0)) (fun K hK => ?_); go_simp; refine hK _ _ ?_; clear hK K))
  refine (KL.out _).mono ?_
  rintro e W1 ⟨rfl, s1⟩
  have S1 := S0.trans s1
  clear A0 S0 s1
  go_wp2_with fail
  refine (KK.out _ (HW.out.sees S1)).mono ?_
  rintro e W2 ⟨rfl, s2⟩
  have S2 := S1.trans s2
  clear  S1 s2
  go_wp2
  go_ret
  exact ⟨rfl, S2⟩
set_option maxHeartbeats 16000000 in
set_option maxRecDepth 100000 in
theorem reads_long (s : Sv) (b1 b2 : Int) (M : ByteArray) (w : World) (hw : Std w) (hv : s.ok = true) (hM : 30 < M.size) : Calls Tryd.prog 5 #[s.val, .int .u8 b1, .int .u8 b2, .string M] w fun e w' => e = .returned (.bool true) ∧ Sees w w' := by
  have HW := Lib.hid hw
  clear hw
  have KL : RowKit.Hid (∀ W, Calls Tryd.prog 9 #[s.val] W fun e w' => e = .returned (.bool true) ∧ Sees W w') := fun W => by have h := lvalid_any s W; rw [hv] at h; exact h
  have KK : RowKit.Hid (∀ W, Std W → Calls Tryd.prog 12 #[] W fun e w' => e = .returned (.bool true) ∧ Sees W w') := fun W h0 => by exact known_any W h0
  have t1 : decide ((M.size : Int) > 30) = true := decide_eq_true (by omega)
  have t2 : 30 < (M.size : Int) := by omega
  clear hv hM
  have A0 := SvAt.new w s
  have S0 := (Sees.refl w).alloc (.cells s.cells 35)
  go_enter Tryd.func5, Tryd.ntmps5
  go_wp2_with (first
    | (refine wpList_val rfl (exec_box (cs := s.cells) rfl rfl) (fun K hK => ?_); go_simp; refine hK _ _ ?_; clear hK K)
    | (refine wpList_val rfl (exec_load (v := s.val) rfl rfl (run_loadSv A0)) (fun K hK => ?_); go_simp; refine hK _ _ ?_; clear hK K))
  refine (KL.out _).mono ?_
  rintro e W1 ⟨rfl, s1⟩
  have S1 := S0.trans s1
  clear A0 S0 s1
  go_wp2_with fail
  refine (KK.out _ (HW.out.sees S1)).mono ?_
  rintro e W2 ⟨rfl, s2⟩
  have S2 := S1.trans s2
  clear  S1 s2
  go_wp2
  go_ret
  exact ⟨rfl, S2⟩
set_option maxHeartbeats 16000000 in
set_option maxRecDepth 100000 in
theorem reads_main (s : Sv) (b1 b2 : Nat) (M : ByteArray) (w : World) (hw : Std w) (hv : s.ok = true) (hf : s.Fits) (hM : M.size ≤ 30) (h1 : b1 < 256) (h2 : b2 < 256) : Calls Tryd.prog 5 #[s.val, .int .u8 (b1 : Int), .int .u8 (b2 : Int), .string M] w fun e w' => e = .returned (.bool true) ∧ Sees w w' := by
  have HW := Lib.hid hw
  clear hw
  have KL : RowKit.Hid (∀ W, Calls Tryd.prog 9 #[s.val] W fun e w' => e = .returned (.bool true) ∧ Sees W w') := fun W => by have h := lvalid_any s W; rw [hv] at h; exact h
  have KK : RowKit.Hid (∀ W, Std W → Calls Tryd.prog 12 #[] W fun e w' => e = .returned (.bool true) ∧ Sees W w') := fun W h0 => by exact known_any W h0
  have KP : RowKit.Hid (∀ W, Calls Tryd.prog 16 #[s.penA] W fun e w' => e = .returned (.tuple #[.int .u64 (s.word : Int), .int .i64 0]) ∧ Sees W w') := fun W => by exact pack_sv s hf (s.ok_pen hv) W
  have KR : RowKit.Hid (∀ W, Calls Tryd.prog 17 #[s.val, .int .u64 (s.word : Int)] W fun e w' => e = .returned (.string ⟨s.text.toArray⟩) ∧ Sees W w') := fun W => by exact rtext_ok s hv s.word (Nat.lt_trans (word_lt hf (s.ok_pen hv)) (by decide)) W
  have hsz : s.text.length ≤ 1000 := text_len1000 hv hf
  obtain ⟨n, hn⟩ : ∃ n : Nat, n = s.word := ⟨_, rfl⟩
  obtain ⟨Y, hY⟩ : ∃ Y : ByteArray, Y = ⟨s.text.toArray⟩ := ⟨_, rfl⟩
  rw [← hn] at KP KR
  rw [← hY] at KR
  have hYs : Y.size ≤ 1000 := by rw [hY]; show s.text.toArray.size ≤ _; simpa using hsz
  have HY : RowKit.Hid (Y.data.toList = s.text) := by show _ = _; rw [hY]
  have HV := Lib.hid hv
  have HFt := Lib.hid hf
  obtain ⟨i, hi⟩ : ∃ i : Nat, i = b1 % (Y.size + 1) := ⟨_, rfl⟩
  obtain ⟨k, hk⟩ : ∃ k : Nat, k = min Y.size (i + b2) := ⟨_, rfl⟩
  have hil : i ≤ Y.size := by rw [hi]; have := Nat.mod_lt b1 (show 0 < Y.size + 1 by omega); omega
  have hkl : k ≤ Y.size := by omega
  have r1 : (b1 : Int) % ((Y.size : Int) + 1) = (i : Int) := by rw [hi, Int.natCast_emod]; rfl
  have r2 : (b1 : Int).tmod ((Y.size : Int) + 1) = (i : Int) := by rw [IntWalk.rem_in _ _ (by omega)]; exact r1
  have r3 : min (Y.size : Int) ((i : Int) + (b2 : Int)) = (k : Int) := by omega
  have l1 : ¬ (9223372036854775807 < i + M.size) := by omega
  have l2 : ¬ (9223372036854775807 < i + M.size + (Y.size - k)) := by omega
  have r4 : ((Y.size : Int) + 1 == 0) = false := beq_eq_false_iff_ne.2 (by omega)
  have t1 : decide ((M.size : Int) > 30) = false := decide_eq_false (by omega)
  have t2 : ¬ (30 < (M.size : Int)) := by omega
  have Hk := Lib.hid hk
  clear hv hf hn hY hsz hi hk
  have A0 := SvAt.new w s
  have S0 := (Sees.refl w).alloc (.cells s.cells 35)
  go_enter Tryd.func5, Tryd.ntmps5
  go_wp2_with (first
    | (refine wpList_val rfl (exec_box (cs := s.cells) rfl rfl) (fun K hK => ?_); go_simp; refine hK _ _ ?_; clear hK K)
    | (refine wpList_val rfl (exec_load (v := s.val) rfl rfl (run_loadSv A0)) (fun K hK => ?_); go_simp; refine hK _ _ ?_; clear hK K))
  refine (KL.out _).mono ?_
  rintro e W1 ⟨rfl, s1⟩
  have A1 := A0.sees s1
  have S1 := S0.trans s1
  clear A0 S0 s1
  go_wp2_with (first
    | (refine wpList_val rfl (exec_load (v := s.penA) rfl rfl (run_loadPenSv A1)) (fun K hK => ?_); go_simp; refine hK _ _ ?_; clear hK K))
  refine (KP.out _).mono ?_
  rintro e W2 ⟨rfl, s2⟩
  have A2 := A1.sees s2
  have S2 := S1.trans s2
  clear A1 S1 s2
  go_wp2_with (first
    | (refine wpList_val rfl (exec_load (v := s.val) rfl rfl (run_loadSv A2)) (fun K hK => ?_); go_simp; refine hK _ _ ?_; clear hK K))
  refine (KR.out _).mono ?_
  rintro e W3 ⟨rfl, s3⟩
  have A3 := A2.sees s3
  have S3 := S2.trans s3
  clear A2 S2 s3
  go_wp2_with fail
  refine wp_region_sees (by kernel_rfl) (by kernel_rfl) ?_
  refine wpQuiet_val (fun K hK => ⟨?_, ?_⟩); (focus (go_simp; done)); apply Exists.intro; refine ⟨fun W hW => ?_, ?_⟩; (focus ( go_simp; first | done | rfl)); go_simp; refine hK _ ?_; clear hK K
  refine wpQuiet_val (fun K hK => ⟨?_, ?_⟩); (focus (go_simp; done)); apply Exists.intro; refine ⟨fun W hW => ?_, ?_⟩; (focus ( go_simp; first | done | rfl)); go_simp; refine hK _ ?_; clear hK K
  refine wpQuiet_val (fun K hK => ⟨?_, ?_⟩); (focus (go_simp; done)); apply Exists.intro; refine ⟨fun W hW => ?_, ?_⟩; (focus ( go_simp; first | done | rfl)); go_simp; refine hK _ ?_; clear hK K
  refine wpQuiet_val (fun K hK => ⟨?_, ?_⟩); (focus (go_simp; done)); apply Exists.intro; refine ⟨fun W hW => ?_, ?_⟩; (focus ( go_simp; first | done | rfl)); go_simp; refine hK _ ?_; clear hK K
  refine wpQuiet_val (fun K hK => ⟨?_, ?_⟩); (focus (go_simp; done)); apply Exists.intro; refine ⟨fun W hW => ?_, ?_⟩; (focus ( go_simp; first | done | rfl)); go_simp; refine hK _ ?_; clear hK K
  refine wpQuiet_val (fun K hK => ⟨?_, ?_⟩); (focus (go_simp; done)); apply Exists.intro; refine ⟨fun W hW => ?_, ?_⟩; (focus ( go_simp; first | done | rfl)); go_simp; refine hK _ ?_; clear hK K
  refine wpQuiet_val (fun K hK => ⟨?_, ?_⟩); (focus (go_simp; done)); apply Exists.intro; refine ⟨fun W hW => ?_, ?_⟩; (focus ( go_simp; first | done | rfl)); go_simp; refine hK _ ?_; clear hK K
  refine wpQuiet_val (fun K hK => ⟨?_, ?_⟩); (focus (go_simp; done)); apply Exists.intro; refine ⟨fun W hW => ?_, ?_⟩; (focus ( go_simp; first | done | rfl)); go_simp; refine hK _ ?_; clear hK K
  refine wpQuiet_val (fun K hK => ⟨?_, ?_⟩); (focus (go_simp; done)); apply Exists.intro; refine ⟨fun W hW => ?_, ?_⟩; (focus ( go_simp; first | done | rfl)); go_simp; refine hK _ ?_; clear hK K
  refine wpQuiet_val (fun K hK => ⟨?_, ?_⟩); (focus (go_simp; done)); apply Exists.intro; refine ⟨fun W hW => ?_, ?_⟩; (focus ( go_simp; first | done | rfl)); go_simp; refine hK _ ?_; clear hK K
  refine wpQuiet_nil ?_; intro w2 hw2
  have A4 := A3.sees hw2
  have S4 := S3.trans hw2
  clear A3 S3 hw2
  obtain ⟨T, hT⟩ : ∃ T : ByteArray, T = Y.extract 0 i ++ M ++ Y.extract k Y.size := ⟨_, rfl⟩
  have hTs : T.size ≤ 100000 := by
    rw [hT]
    simp only [ByteArray.size_append, ByteArray.size_extract]
    omega
  rw [← hT]
  clear hT l1 l2 r1 r2 r3 r4 hil hkl Hk t1 t2
  have hp := sparse_any T hTs w2 (HW.out.sees S4)
  clear hTs
  go_wp2_with fail
  refine hp.mono ?_
  rintro e W5 ⟨hpp, s5⟩
  have A5 := A4.sees s5
  have S5 := S4.trans s5
  clear A4 S4 s5 hp
  have Z5 := SvAt.new W5 zSv
  have S6 := S5.alloc (.cells zSv.cells 35)
  rcases hpp with ⟨x, hx, hfx, hxt, rfl⟩ | ⟨hbad, rfl⟩
  · have X6 := SvAt.stored Z5 x
    have S7 := S6.setRow (p := W5.heap.size) (by have := S5.size; omega) x.cells
    have KP2 : RowKit.Hid (∀ W, Calls Tryd.prog 16 #[x.penA] W fun e w' => e = .returned (.tuple #[.int .u64 (x.word : Int), .int .i64 0]) ∧ Sees W w') := fun W => by exact pack_sv x hfx (x.ok_pen hx) W
    have KR2 : RowKit.Hid (∀ W, Calls Tryd.prog 17 #[x.val, .int .u64 (x.word : Int)] W fun e w' => e = .returned (.string T) ∧ Sees W w') := fun W => by have h := rtext_ok x hx x.word (Nat.lt_trans (word_lt hfx (x.ok_pen hx)) (by decide)) W; rw [show textN (x.nums x.word) = T.data.toList from hxt, Lib.mk_data] at h; exact h
    have KL2 : RowKit.Hid (∀ W, Calls Tryd.prog 9 #[x.val] W fun e w' => e = .returned (.bool true) ∧ Sees W w') := fun W => by have h := lvalid_any x W; rw [hx] at h; exact h
    obtain ⟨n2, hn2⟩ : ∃ n : Nat, n = x.word := ⟨_, rfl⟩
    rw [← hn2] at KP2 KR2
    have hTT : (T.toList == T.toList) = true := beq_self_eq_true _
    clear hx hfx hxt hn2 KL KP KR A5 S5 S6
    obtain ⟨W7, hW7⟩ : ∃ W, W = (W5.alloc (.cells zSv.cells 35)).setRow W5.heap.size x.cells := ⟨_, rfl⟩
    rw [← hW7] at X6 S7
    have HW7 := Lib.hid hW7
    clear hW7
    have A7 := X6
    go_upto_region 13 with (first
      | (refine wpList_skip rfl (exec_store (v := x.val) rfl rfl rfl (run_storeSv Z5 x)) (fun K hK => ?_); go_simp; refine hK _ _ ?_; clear hK K))
    refine wp_world fun W7' hW7' => ?_
    obtain rfl : W7' = W7 := hW7'.trans HW7.out.symm
    clear hW7' HW7 X6 Z5
    go_wp2_with (first
      | (refine wpList_val rfl (exec_load (v := x.penA) rfl rfl (run_loadPenSv A7)) (fun K hK => ?_); go_simp; refine hK _ _ ?_; clear hK K))
    refine (KP2.out _).mono ?_
    rintro e W8 ⟨rfl, s8⟩
    have A8 := A7.sees s8
    have S8 := S7.trans s8
    clear A7 S7 s8
    go_wp2_with (first
      | (refine wpList_val rfl (exec_load (v := x.val) rfl rfl (run_loadSv A8)) (fun K hK => ?_); go_simp; refine hK _ _ ?_; clear hK K))
    refine (KL2.out _).mono ?_
    rintro e W9 ⟨rfl, s9⟩
    have A9 := A8.sees s9
    have S9 := S8.trans s9
    clear A8 S8 s9
    go_wp2_with (first
      | (refine wpList_valG (by go_simp) (exec_load (v := x.val) rfl rfl (run_loadSv A9)) (fun K hK => ?_); go_simp; refine hK _ _ ?_; clear hK K))
    refine (KR2.out _).mono ?_
    rintro e W10 ⟨rfl, s10⟩
    have S10 := S9.trans s10
    clear A9 S9 s10
    go_wp2_with fail
    refine (KK.out _ (HW.out.sees S10)).mono ?_
    rintro e W11 ⟨rfl, s11⟩
    have S11 := S10.trans s11
    clear  S10 s11
    go_wp2
    go_ret
    exact ⟨rfl, S11⟩
  · have hne : (T.toList == Y.toList) = false := by
      rw [Lib.toList_data, Lib.toList_data, beq_eq_false_iff_ne, HY.out]
      exact fun e => hbad s HV.out HFt.out e.symm
    have X7 := SvAt.stored Z5 zSv
    have S7 := S6.setRow (p := W5.heap.size) (by have := S5.size; omega) zSv.cells
    clear hbad KL KP KR A5 S5 S6
    obtain ⟨W7, hW7⟩ : ∃ W, W = (W5.alloc (.cells zSv.cells 35)).setRow W5.heap.size zSv.cells := ⟨_, rfl⟩
    rw [← hW7] at X7 S7
    have HW7 := Lib.hid hW7
    clear hW7
    go_upto_region 11 with (first
      | (refine wpList_skip rfl (exec_store (v := zSv.val) rfl rfl rfl (run_storeSv Z5 zSv)) (fun K hK => ?_); go_simp; refine hK _ _ ?_; clear hK K))
    refine wp_world fun W7' hW7' => ?_
    obtain rfl : W7' = W7 := hW7'.trans HW7.out.symm
    clear hW7' HW7 Z5
    have EQ := run_eqSv zSv zSv W7'
    rw [eqSv_self] at EQ
    go_wp2_with (first
      | (refine wpList_valG (by go_simp) (exec_load (v := zSv.val) rfl rfl (run_loadSv X7)) (fun K hK => ?_); go_simp; refine hK _ _ ?_; clear hK K)
      | (refine wpList_valG (by go_simp) (exec_build_zero rfl) (fun K hK => ?_); go_simp; refine hK _ _ ?_; clear hK K)
      | (refine wpList_valG (by go_simp) (exec_bin rfl rfl rfl (guard_eqSv _ _ zSv zSv _) EQ) (fun K hK => ?_); go_simp; refine hK _ _ ?_; clear hK K))
    refine (KK.out _ (HW.out.sees S7)).mono ?_
    rintro e W8 ⟨rfl, s8⟩
    go_wp2
    go_ret
    exact ⟨rfl, S7.trans s8⟩
theorem walk (s : Sv) (b1 b2 : Int) (M : ByteArray) (w : World) (hw : Std w) (hf : s.Fits) (h1 : 0 ≤ b1 ∧ b1 ≤ 255) (h2 : 0 ≤ b2 ∧ b2 ≤ 255) (hm : M.size ≤ Go.maxLen) : Calls Tryd.prog 5 #[s.val, .int .u8 b1, .int .u8 b2, .string M] w fun e w' => e = .returned (.bool true) ∧ Sees w w' := by
  cases hv : s.ok
  · exact reads_bad s b1 b2 M w hw hv
  · by_cases hM : M.size ≤ 30
    · obtain ⟨m1, rfl⟩ : ∃ m : Nat, b1 = m := ⟨b1.toNat, by omega⟩
      obtain ⟨m2, rfl⟩ : ∃ m : Nat, b2 = m := ⟨b2.toNat, by omega⟩
      exact reads_main s m1 m2 M w hw hv hf hM (by omega) (by omega)
    · exact reads_long s b1 b2 M w hw hv (by omega)

set_option maxRecDepth 100000 in
theorem contract (H : Type) (enc : TypeId × Value → H) (W : World) (base : Nat) (args : Array Value) (ds gs : List (DataW H)) (before : List MemPlace)
    (hval : ∀ (j : Nat) t v, Tryd.f5.params[j]? = some t → args[j]? = some v → Value.okWide Tryd.prog W .any base t v)
    (hW : DataW.Whole enc Tryd.prog Tryd.f5.params.toList Rows.savedReadsSpec.vars false W args.toList ds gs before) (hL : laidMetH Tryd.prog Rows.savedReadsRow.laid W) (hsh : W.ShapedOpen Tryd.prog) :
    Calls Tryd.prog 5 args W fun e W' => ∃ v, e = .returned v ∧ Rows.savedReadsSpec.post enc Tryd.prog Tryd.f5 false true false false W args v W' := by
  have hW' := hW
  obtain ⟨p, q, hA0, hV, rfl, hfz, hnd⟩ := hW
  have hA : DataW.TrodAll enc Tryd.prog W 0 (fun _ => true) true Tryd.f5.params.toList args.toList ds p := hA0
  rw [Tryd.params5] at hA hval
  obtain ⟨v0, vs0, d0, ds0, p0, q0, hargs, rfl, rfl, h0, r0⟩ := trodAll_cons hA
  obtain ⟨v1, vs1, d1, ds1, p1, q1, rfl, rfl, rfl, h1, r1⟩ := trodAll_cons r0
  obtain ⟨v2, vs2, d2, ds2, p2, q2, rfl, rfl, rfl, h2, r2⟩ := trodAll_cons r1
  obtain ⟨v3, vs3, d3, ds3, p3, q3, rfl, rfl, rfl, h3, r3⟩ := trodAll_cons r2
  obtain ⟨rfl, rfl, rfl⟩ := trodAll_nil r3
  obtain rfl : args = #[v0, v1, v2, v3] := by cases args; simp_all
  obtain ⟨s, rfl, xs⟩ := open_saved (hval 0 35 v0 rfl rfl) h0
  obtain ⟨b1, rfl, rfl, rfl, wb1⟩ := open_int Tryd.underlying5 (hval 1 5 v1 rfl rfl) h1
  obtain ⟨b2, rfl, rfl, rfl, wb2⟩ := open_int Tryd.underlying5 (hval 2 5 v2 rfl rfl) h2
  obtain ⟨sm, rfl, rfl, rfl, xm⟩ := Go.ChangeMaps.open_string Tryd.underlying9 (hval 3 9 v3 rfl rfl) h3
  have xb1 : 0 ≤ b1 ∧ b1 ≤ 255 := by simpa [Lit.wf, IntKind.min, IntKind.max, IntKind.signed, IntKind.bits] using wb1
  have xb2 : 0 ≤ b2 ∧ b2 ≤ 255 := by simpa [Lit.wf, IntKind.min, IntKind.max, IntKind.signed, IntKind.bits] using wb2
  refine (walk s b1 b2 sm W (std_of_laid hL hsh) xs xb1 xb2 xm).mono fun e W' ⟨he, hs⟩ => ?_
  subst he
  exact ⟨_, rfl, law_post (tb := 4) laidOut (by
    rw [Tryd.params5]; intro t ht
    simp only [List.mem_cons, List.not_mem_nil, or_false] at ht
    rcases ht with rfl | rfl | rfl | rfl <;> exact ⟨by kernel_rfl, of_decide_eq_true (by kernel_rfl)⟩) hW' rfl (fun ds hl => by
    rw [Tryd.params5] at hl
    match ds, hl with
    | [_, _, _, _], _ => rfl) (by kernel_rfl) Tryd.underlying4 hs⟩

abbrev startArgs : Array Value := #[.agg #[.int .i64 0, .int .i64 0, .bool false, .int .i64 0, .int .u8 0, .int .u8 0, .int .u8 0, .int .u8 0, .int .i64 0, .int .u8 0, .int .u8 0, .int .u8 0, .int .u8 0, .int .u8 0, .bool false, .int .i64 0, .int .i64 0, .int .i64 0], .int .u8 0, .int .u8 0, .string ⟨#[]⟩]
noncomputable abbrev start (os : Os) : World := laidWorld os
theorem laid_met (os : Os) : laidMet Tryd.prog Rows.savedReadsRow.laid ((start os).forCall (fun _ _ => 0) ⟨#[], startArgs, []⟩).memory :=
  laidMet_of_run' 8 (by kernel_rfl) (by kernel_rfl)
theorem reads (os : Os) {H : Type} (enc : TypeId × Value → H) : ∃ x, DataW.whole enc Tryd.prog ((start os).forCall (fun _ _ => 0) ⟨#[], startArgs, []⟩).memory Tryd.f5.params.toList Rows.savedReadsSpec.vars false startArgs.toList 8 = some x :=
  ⟨([.agg [.agg [.lit (.int .i64 0), .lit (.int .i64 0), .lit (.bool false)], .agg [.agg [.lit (.int .i64 0), .lit (.int .u8 0), .lit (.int .u8 0), .lit (.int .u8 0), .lit (.int .u8 0)], .agg [.lit (.int .i64 0), .lit (.int .u8 0), .lit (.int .u8 0), .lit (.int .u8 0), .lit (.int .u8 0)], .lit (.int .u8 0)], .lit (.bool false), .agg [.agg [.lit (.int .i64 0), .lit (.int .i64 0)], .lit (.int .i64 0)]], .lit (.int .u8 0), .lit (.int .u8 0), .lit (.string [])], [], []), by kernel_rfl⟩

set_option maxRecDepth 100000 in
theorem lifted (os : Os) (started : os.Started) (H : Type) (enc : TypeId × Value → H) (F : Stop.Interp) :
    ReturnsInHanded {} Tryd.checked os 5 .any ((OpenSpec.ofChange Rows.savedReadsSpec).preRow enc Tryd.prog Tryd.f5 Rows.savedReadsRow.domain false Rows.savedReadsRow.laid) (((OpenSpec.ofChange Rows.savedReadsSpec).at F).post enc Tryd.prog Tryd.f5 false true false false) := by
  obtain ⟨x, hx⟩ := reads os enc
  refine returnsInHanded_of_row (C := Tryd.checked) (s := OpenSpec.ofChange Rows.savedReadsSpec) ownK started (by kernel_rfl) Tryd.func5
    (witness_row_at (enc := enc) (C := Tryd.checked) false (start os) startArgs rfl (by kernel_rfl) (by kernel_rfl) (by kernel_rfl)
      (OpenSpec.preRow_of_cond 8 hx (by kernel_rfl) (fun k hk => by cases hk) (by kernel_rfl) (laid_met os))) ?_
  intro W base args ds gs before hval hW _ _ _ hL hsh _
  exact contract H enc W base args ds gs before hval hW hL hsh

theorem said : Rows.SavedReadsSaid :=
  OpenClaim.holds_of_cond 5 Tryd.f5 rfl rfl rfl rfl rfl rfl rfl ⟨rfl, rfl, rfl, rfl, rfl⟩ rfl rfl rfl rfl rfl (by kernel_rfl) Tryd.func5 (by kernel_rfl)
    (of_decide_eq_true (by kernel_rfl)) (by unfold Func.isWrapper; first | (rw [if_pos (by decide +kernel)]; kernel_rfl) | (rw [if_neg (by decide +kernel)]; exact ⟨rfl, rfl⟩))
    (fun os started H enc _ F => by rw [OpenClaim.pre_eq_preRow]; exact lifted os started H enc F)

theorem plain (f : FuncId) (fn : Func) (hf : Tryd.pinned.checked.prog.funcNamed Rows.savedReadsRow.func = some f) (hfn : Tryd.pinned.checked.prog.funcs[f]? = some fn) :
    true = Tryd.pinned.checked.prog.looks [] ∧ ∀ (j : Nat) t, fn.params[j]? = some t → Tryd.pinned.checked.prog.wantsStandIn t = false := by
  obtain rfl : f = 5 := Option.some.inj ((show Tryd.prog.funcNamed Rows.savedReadsRow.func = some 5 by kernel_rfl).symm.trans hf) |>.symm
  obtain rfl : fn = Tryd.f5 := (Option.some.inj (Tryd.func5.symm.trans hfn)).symm
  refine ⟨by kernel_rfl, fun j t ht => ?_⟩
  rw [Tryd.params5] at ht
  have hm := Array.mem_of_getElem? ht
  simp only [List.mem_toArray, List.mem_cons, List.not_mem_nil, or_false] at hm
  rcases hm with rfl | rfl | rfl | rfl
  · exact (show Tryd.prog.wantsStandIn 35 = false by kernel_rfl)
  · exact (show Tryd.prog.wantsStandIn 5 = false by kernel_rfl)
  · exact (show Tryd.prog.wantsStandIn 5 = false by kernel_rfl)
  · exact (show Tryd.prog.wantsStandIn 9 = false by kernel_rfl)

theorem card : Rows.SavedReadsCardSaid :=
  Claim7.holds_tied_plain_at .later [] _ _ _ _ said (fun _ h => by cases h) (by kernel_rfl) (fun _ h => by cases h) savedReads_row_tie rfl ⟨rfl, rfl⟩ (by kernel_rfl) rfl plain (by kernel_rfl)
end savedReads
end Go.Proofs.YtfgifjdholdohaaDoor
