/- markup.Line (48). The library's variables hold what the program's text lays. The statements' comparison of lines; what they ask of Line (48). The library's variables hold what the program's text lays. No condition. -/
import Derived.Test.YthcndmchlpohpaaGreatDoorMkW
namespace Go.Proofs.YthcndmchlpohpaaGreatDoor
set_option linter.unusedVariables false
set_option linter.unusedSimpArgs false
open Go.RowKit Go.Shelf
attribute [local go_sem] Oper.semAt_some

set_option maxHeartbeats 1000000 in
/-- A line with too many cells. -/
theorem valid_long (a : Option Addr) (n c : Nat) (so : Bool) (h : 1000 < n) (w : World) : Calls Tryz.prog 11 #[.agg #[.slice a n c, .bool so]] w fun e w' => e = .returned (.bool false) ∧ Sees w w' := by
  go_enter Tryz.func11, Tryz.ntmps11
  go_wp2
  go_ret
  exact ⟨rfl, (Sees.refl w).alloc _⟩
set_option maxHeartbeats 1000000 in
theorem runs_long (a : Option Addr) (n c : Nat) (so : Bool) (h : 1000 < n) (w : World) : Calls Tryz.prog 34 #[.agg #[.slice a n c, .bool so]] w fun e w' => e = .returned (.tuple #[.slice none 0 0, .int .i64 2]) ∧ Sees w w' := by
  have KV := Lib.hid (fun W => valid_long a n c so h W)
  clear h
  go_enter Tryz.func34, Tryz.ntmps34
  go_upto_region 1 with fail
  obtain ⟨W1, hW1⟩ : ∃ W1, W1 = w.alloc (.cells #[.slice a n c, .bool so] 27) := ⟨_, rfl⟩
  have L1 : LnAt W1 w.heap.size (.slice a n c) so := by rw [hW1]; exact LnAt.new rfl
  have S1 : Hid (Sees w W1) := by rw [hW1]; exact (Sees.refl w).alloc _
  rw [← hW1]
  have HL1 := Lib.hid L1
  clear hW1 L1
  go_wp2_with (guard_target = wpList _ _ _ ({ dst := _, op := Op.load 27 _, type := _, pos := _, after := _, guard := _ } :: _) _ _; refine wpList_val rfl (exec_load (v := .agg #[.slice a n c, .bool so]) rfl rfl (run_loadLn HL1.out)) (fun K hK => ?_); go_simp; refine hK _ _ ?_; clear hK K)
  refine (KV.out _).mono ?_
  rintro e W2 ⟨rfl, s2⟩
  go_wp2
  go_ret2
  exact ⟨rfl, S1.out.trans s2⟩
set_option maxHeartbeats 1000000 in
theorem markup_long (a : Option Addr) (n c : Nat) (so : Bool) (h : 1000 < n) (w : World) : Calls Tryz.prog 32 #[.agg #[.slice a n c, .bool so]] w fun e w' => e = .returned (.tuple #[.string (strL []), .int .i64 2]) ∧ Sees w w' := by
  have KV := Lib.hid (fun W => runs_long a n c so h W)
  clear h
  go_enter Tryz.func32, Tryz.ntmps32
  go_upto_region 1 with fail
  obtain ⟨W1, hW1⟩ : ∃ W1, W1 = w.alloc (.cells #[.slice a n c, .bool so] 27) := ⟨_, rfl⟩
  have L1 : LnAt W1 w.heap.size (.slice a n c) so := by rw [hW1]; exact LnAt.new rfl
  have S1 : Hid (Sees w W1) := by rw [hW1]; exact (Sees.refl w).alloc _
  rw [← hW1]
  have HL1 := Lib.hid L1
  clear hW1 L1
  go_wp2_with (guard_target = wpList _ _ _ ({ dst := _, op := Op.load 27 _, type := _, pos := _, after := _, guard := _ } :: _) _ _; refine wpList_val rfl (exec_load (v := .agg #[.slice a n c, .bool so]) rfl rfl (run_loadLn HL1.out)) (fun K hK => ?_); go_simp; refine hK _ _ ?_; clear hK K)
  refine (KV.out _).mono ?_
  rintro e W2 ⟨rfl, s2⟩
  go_wp2
  go_ret2
  exact ⟨rfl, S1.out.trans s2⟩
/-- Markup of a line that was read. -/
theorem markup_read (v : Value) (cs : List Cell) (so : Bool) (F : Nat → Prop) (w : World) (ht : Sd w) (h : cellEl.Rd F w v cs) (hbd : ∀ c ∈ cs, c.Bd) :
    Calls Tryz.prog 32 #[.agg #[v, .bool so]] w fun e w' => e = .returned (.tuple #[.string (strL (if lnOk cs then mkL cs so else [])), .int .i64 (if lnOk cs then 0 else 2)]) ∧ Sees w w' := by
  by_cases hn : cs.length ≤ 1000000
  · exact markup_any v cs so F w ht h hn hbd
  · have hk : lnOk cs = false := by unfold lnOk; rw [decide_eq_false (by omega)]; rfl
    rw [hk]
    obtain ⟨a, c, rfl, _⟩ := h.slice'
    exact markup_long a cs.length c so (by omega) w
/-- What Line answers. -/
def LineP (w : World) (R : List Cell × Bool × Int) (e : Ending) (w' : World) : Prop := ∃ v, e = .returned (.tuple #[.agg #[v, .bool R.2.1], .int .i64 R.2.2]) ∧ cellEl.Own (fun b => w.heap.size ≤ b) w' v R.1 ∧ Sees w w'
set_option maxHeartbeats 2000000 in
set_option maxRecDepth 100000 in
theorem line_any (l : List UInt8) (N : Int) (hl : l.length ≤ 1000000000) (w : World) (hw : Sd w) :
    Calls Tryz.prog 18 #[.string (strL l), .int .i64 N] w fun e w' => LineP w (lineB l N) e w' := by
  obtain ⟨R, hR⟩ : ∃ R, R = lineB l N := ⟨_, rfl⟩
  rw [← hR]
  unfold lineB at hR
  have hsz : (strL l).size = l.length := strL_size l
  obtain ⟨n, hn⟩ : ∃ n, n = l.length := ⟨_, rfl⟩
  rw [← hn] at hsz hR hl
  have HN := Lib.hid hn
  have L0 : Hid (LnAt (w.alloc (.cells #[.slice none 0 0, .bool false] 27)) w.heap.size (.slice none 0 0) false) := LnAt.new rfl
  have S0 : Hid (Sees w (w.alloc (.cells #[.slice none 0 0, .bool false] 27))) := (Sees.refl w).alloc _
  obtain ⟨W0, hW0⟩ : ∃ W0, W0 = w.alloc (.cells #[.slice none 0 0, .bool false] 27) := ⟨_, rfl⟩
  rw [← hW0] at L0 S0
  have HW := Lib.hid hw
  have HW0 := Lib.hid hW0
  clear hn hw hW0
  by_cases h1 : N < 0 ∨ 1000 < N
  · rw [if_pos h1] at hR
    subst hR
    rcases (show N < 0 ∨ (¬ N < 0 ∧ 1000 < N) by omega) with h2 | ⟨h2, h3⟩
    · clear h1
      go_enter Tryz.func18, Tryz.ntmps18
      go_upto_region 1 with fail
      rw [← HW0.out]
      go_wp2_with (guard_target = wpList _ _ _ ({ dst := _, op := Op.store 27 _ _, type := _, pos := _, after := _, guard := _ } :: _) _ _; refine wpList_skip rfl (exec_store (v := .agg #[.slice none 0 0, .bool false]) rfl rfl rfl (run_storeLn L0.out (by rfl))) (fun K hK => ?_); go_simp; refine hK _ _ ?_; clear hK K)
      have hzz : LnAt (W0.setRow w.heap.size #[.slice none 0 0, .bool false]) w.heap.size (.slice none 0 0) false := setRow_heap _ _ _ _ _ _ L0.out
      have hss : Sees w (W0.setRow w.heap.size #[.slice none 0 0, .bool false]) := (Keeps.setRow' (F := fun _ => False) (Keeps.of_sees S0.out) (Nat.le_refl _) _).sees_end (fun _ _ h => h)
      exact bodyPost_ret (results_ln rfl rfl rfl hzz) rfl ⟨.slice none 0 0, rfl, El.Own.nil _ _, hss⟩
    · clear h1
      go_enter Tryz.func18, Tryz.ntmps18
      go_upto_region 1 with fail
      rw [← HW0.out]
      go_wp2_with (guard_target = wpList _ _ _ ({ dst := _, op := Op.store 27 _ _, type := _, pos := _, after := _, guard := _ } :: _) _ _; refine wpList_skip rfl (exec_store (v := .agg #[.slice none 0 0, .bool false]) rfl rfl rfl (run_storeLn L0.out (by rfl))) (fun K hK => ?_); go_simp; refine hK _ _ ?_; clear hK K)
      have hzz : LnAt (W0.setRow w.heap.size #[.slice none 0 0, .bool false]) w.heap.size (.slice none 0 0) false := setRow_heap _ _ _ _ _ _ L0.out
      have hss : Sees w (W0.setRow w.heap.size #[.slice none 0 0, .bool false]) := (Keeps.setRow' (F := fun _ => False) (Keeps.of_sees S0.out) (Nat.le_refl _) _).sees_end (fun _ _ h => h)
      exact bodyPost_ret (results_ln rfl rfl rfl hzz) rfl ⟨.slice none 0 0, rfl, El.Own.nil _ _, hss⟩
  · rw [if_neg h1] at hR
    have g1 : ¬ N < 0 := by omega
    have g2 : ¬ N > 1000 := by omega
    by_cases h2 : 1048576 < n
    · rw [if_pos h2] at hR
      subst hR
      have g3 : (n : Int) > 1048576 := by omega
      clear h1
      go_enter Tryz.func18, Tryz.ntmps18
      go_upto_region 1 with fail
      rw [← HW0.out]
      go_wp2_with (guard_target = wpList _ _ _ ({ dst := _, op := Op.store 27 _ _, type := _, pos := _, after := _, guard := _ } :: _) _ _; refine wpList_skip rfl (exec_store (v := .agg #[.slice none 0 0, .bool false]) rfl rfl rfl (run_storeLn L0.out (by rfl))) (fun K hK => ?_); go_simp; refine hK _ _ ?_; clear hK K)
      have hzz : LnAt (W0.setRow w.heap.size #[.slice none 0 0, .bool false]) w.heap.size (.slice none 0 0) false := setRow_heap _ _ _ _ _ _ L0.out
      have hss : Sees w (W0.setRow w.heap.size #[.slice none 0 0, .bool false]) := (Keeps.setRow' (F := fun _ => False) (Keeps.of_sees S0.out) (Nat.le_refl _) _).sees_end (fun _ _ h => h)
      exact bodyPost_ret (results_ln rfl rfl rfl hzz) rfl ⟨.slice none 0 0, rfl, El.Own.nil _ _, hss⟩
    · rw [if_neg h2] at hR
      have g3 : ¬ (n : Int) > 1048576 := by omega
      have KR : Hid (∀ W, Sees w W → Calls Tryz.prog 31 #[.string (strL l)] W fun e w' => RdP W (readB l) e w') := fun W hs => read_any l (by rw [← HN.out]; omega) W (HW.out.sees hs)
      have HBD := Lib.hid (readB_bd l)
      have HRL : Hid ((readB l).1.length ≤ 2097152) := by have := readB_len l; unfold RowKit.Hid; rw [← HN.out] at this; omega
      obtain ⟨X, hX⟩ : ∃ X, X = readB l := ⟨_, rfl⟩
      rw [← hX] at hR KR HBD HRL
      obtain ⟨cs, so, ok⟩ := X
      simp only at hR HBD HRL
      have HR := Lib.hid hR
      clear hX hR h1 h2
      go_enter Tryz.func18, Tryz.ntmps18
      go_upto_region 1 with fail
      rw [← HW0.out]
      go_wp2_with fail
      refine (KR.out _ S0.out).mono ?_
      rintro e W2 ⟨a2, m, c2, so', rfl, s2, hO⟩
      have HO := Lib.hid hO
      have HS2 := Lib.hid (S0.out.trans s2)
      have HL2 := Lib.hid (L0.out.sees s2)
      have L3 : Hid (LnAt (W2.alloc (.cells #[.slice a2 m c2, .bool so'] 27)) W2.heap.size (.slice a2 m c2) so') := LnAt.new rfl
      have S3 : Hid (Sees W2 (W2.alloc (.cells #[.slice a2 m c2, .bool so'] 27))) := (Sees.refl W2).alloc _
      clear hO s2 KR S0 L0
      simp only at HO
      go_upto_region 6 with fail
      refine wp_world fun W3 hW3 => ?_
      rw [← hW3] at L3 S3
      have HS3 := Lib.hid (HS2.out.trans S3.out)
      have HL3 := Lib.hid (HL2.out.sees S3.out)
      clear hW3
      cases ok with
      | false =>
        have hR2 : R = ([], false, 6) := by rw [HR.out, if_pos rfl]
        subst hR2
        clear HR HO
        go_wp2_with (guard_target = wpList _ _ _ ({ dst := _, op := Op.store 27 _ _, type := _, pos := _, after := _, guard := _ } :: _) _ _; refine wpList_skip rfl (exec_store (v := .agg #[.slice none 0 0, .bool false]) rfl rfl rfl (run_storeLn HL3.out (by rfl))) (fun K hK => ?_); go_simp; refine hK _ _ ?_; clear hK K)
        have hzz : LnAt (W3.setRow w.heap.size #[.slice none 0 0, .bool false]) w.heap.size (.slice none 0 0) false := setRow_heap _ _ _ _ _ _ HL3.out
        have hss : Sees w (W3.setRow w.heap.size #[.slice none 0 0, .bool false]) := (Keeps.setRow' (F := fun _ => False) (Keeps.of_sees HS3.out) (Nat.le_refl _) _).sees_end (fun _ _ h => h)
        exact bodyPost_ret (results_ln rfl rfl rfl hzz) rfl ⟨.slice none 0 0, rfl, El.Own.nil _ _, hss⟩
      | true =>
        obtain ⟨rfl, ho⟩ := HO.out rfl
        have HOW := Lib.hid (ho.sees S3.out)
        have hm : m = cs.length := by obtain ⟨_, _, e, _⟩ := ho.slice; injection e
        have HM := Lib.hid hm
        clear ho hm HO
        have KM : Hid (∀ W, Sees W3 W → Calls Tryz.prog 32 #[.agg #[.slice a2 m c2, .bool so']] W fun e w' => e = .returned (.tuple #[.string (strL (if lnOk cs then mkL cs so' else [])), .int .i64 (if lnOk cs then 0 else 2)]) ∧ Sees W w') := fun W hs => markup_read _ cs so' _ W (HW.out.sees (HS3.out.trans hs)) (HOW.out.sees hs).rd HBD.out
        obtain ⟨lk, hlk⟩ : ∃ lk, lk = lnOk cs := ⟨_, rfl⟩
        rw [← hlk] at KM HR
        have HLK := Lib.hid hlk
        clear hlk
        cases lk with
        | false =>
          have hR2 : R = ([], false, 6) := by rw [HR.out, if_neg (by simp), if_pos (by simp)]
          subst hR2
          clear HR
          simp only [Bool.false_eq_true, if_false] at KM
          go_wp2_with (guard_target = wpList _ _ _ ({ dst := _, op := Op.load 27 _, type := _, pos := _, after := _, guard := _ } :: _) _ _; refine wpList_val rfl (exec_load (v := .agg #[.slice a2 m c2, .bool so']) rfl rfl (run_loadLn L3.out)) (fun K hK => ?_); go_simp; refine hK _ _ ?_; clear hK K)
          refine (KM.out _ (Sees.refl _)).mono ?_
          rintro e W4 ⟨rfl, s4⟩
          have HS4 := Lib.hid (HS3.out.trans s4)
          have HL4 := Lib.hid (HL3.out.sees s4)
          clear s4 KM
          go_wp2_with (guard_target = wpList _ _ _ ({ dst := _, op := Op.store 27 _ _, type := _, pos := _, after := _, guard := _ } :: _) _ _; refine wpList_skip rfl (exec_store (v := .agg #[.slice none 0 0, .bool false]) rfl rfl rfl (run_storeLn HL4.out (by rfl))) (fun K hK => ?_); go_simp; refine hK _ _ ?_; clear hK K)
          have hzz : LnAt (W4.setRow w.heap.size #[.slice none 0 0, .bool false]) w.heap.size (.slice none 0 0) false := setRow_heap _ _ _ _ _ _ HL4.out
          have hss : Sees w (W4.setRow w.heap.size #[.slice none 0 0, .bool false]) := (Keeps.setRow' (F := fun _ => False) (Keeps.of_sees HS4.out) (Nat.le_refl _) _).sees_end (fun _ _ h => h)
          exact bodyPost_ret (results_ln rfl rfl rfl hzz) rfl ⟨.slice none 0 0, rfl, El.Own.nil _ _, hss⟩
        | true =>
          simp only [if_true] at KM
          obtain ⟨M, hM⟩ : ∃ M, M = mkL cs so' := ⟨_, rfl⟩
          rw [← hM] at KM HR
          have HMM := Lib.hid hM
          clear hM
          by_cases hMl : M = l
          · subst hMl
            have hR2 : R = (if N < cs.length then ([], false, 3) else (cs ++ List.replicate (N.toNat - cs.length) blankC, so', 0)) := by rw [HR.out, if_neg (by simp), if_neg (by simp)]
            rw [← HM.out] at hR2
            have heq : ((strL M).toList != (strL M).toList) = false := by simp
            have HR2 := Lib.hid hR2
            clear HR hR2
            go_wp2_with (guard_target = wpList _ _ _ ({ dst := _, op := Op.load 27 _, type := _, pos := _, after := _, guard := _ } :: _) _ _; refine wpList_val rfl (exec_load (v := .agg #[.slice a2 m c2, .bool so']) rfl rfl (run_loadLn L3.out)) (fun K hK => ?_); go_simp; refine hK _ _ ?_; clear hK K)
            refine (KM.out _ (Sees.refl _)).mono ?_
            rintro e W4 ⟨rfl, s4⟩
            have HS4 := Lib.hid (HS3.out.trans s4)
            have HL4 := Lib.hid (HL3.out.sees s4)
            have L4 := Lib.hid (L3.out.sees s4)
            have HO4 := Lib.hid (HOW.out.sees s4)
            obtain ⟨x0, x1⟩ := L4.out.c
            clear s4 KM HL3 L3 HOW
            by_cases hlt : N < (m : Int)
            · have hR3 : R = ([], false, 3) := by rw [HR2.out, if_pos hlt]
              subst hR3
              have hlt2 : (m : Int) > N := hlt
              clear HR2
              go_wp2_with (guard_target = wpList _ _ _ ({ dst := _, op := Op.store 27 _ _, type := _, pos := _, after := _, guard := _ } :: _) _ _; refine wpList_skip rfl (exec_store (v := .agg #[.slice none 0 0, .bool false]) rfl rfl rfl (run_storeLn HL4.out (by rfl))) (fun K hK => ?_); go_simp; refine hK _ _ ?_; clear hK K)
              have hzz : LnAt (W4.setRow w.heap.size #[.slice none 0 0, .bool false]) w.heap.size (.slice none 0 0) false := setRow_heap _ _ _ _ _ _ HL4.out
              have hss : Sees w (W4.setRow w.heap.size #[.slice none 0 0, .bool false]) := (Keeps.setRow' (F := fun _ => False) (Keeps.of_sees HS4.out) (Nat.le_refl _) _).sees_end (fun _ _ h => h)
              exact bodyPost_ret (results_ln rfl rfl rfl hzz) rfl ⟨.slice none 0 0, rfl, El.Own.nil _ _, hss⟩
            · have hR3 : R = (cs ++ List.replicate (N.toNat - m) blankC, so', 0) := by rw [HR2.out, if_neg hlt]
              have HR3 := Lib.hid hR3
              have hlt2 : ¬ (m : Int) > N := hlt
              obtain ⟨N', hN'⟩ : ∃ N' : Nat, N = N' := ⟨N.toNat, by omega⟩
              subst hN'
              have KF : Hid (∀ W, Sees W4 W → Calls Tryz.prog 33 #[.agg #[.slice a2 m c2, .bool so'], .int .i64 (N' : Int)] W fun e w' => ∃ v', e = .returned (.tuple #[.agg #[v', .bool so'], .int .i64 0]) ∧ cellEl.Own (fun b => W.heap.size ≤ b) w' v' (cs ++ List.replicate (N' - m) blankC) ∧ Sees W w') := fun W hs => by
                have := fit_row (.slice a2 m c2) cs so' _ W (HW.out.sees (HS4.out.trans hs)).t (HO4.out.sees hs).rd HLK.out.symm N' (by rw [← HM.out]; omega) (by omega)
                rwa [← HM.out] at this
              clear HR2 hlt hR3
              go_wp2_with (guard_target = wpList _ _ _ ({ dst := _, op := Op.load 27 _, type := _, pos := _, after := _, guard := _ } :: _) _ _; refine wpList_val rfl (exec_load (v := .agg #[.slice a2 m c2, .bool so']) rfl rfl (run_loadLn L4.out)) (fun K hK => ?_); go_simp; refine hK _ _ ?_; clear hK K)
              refine (KF.out _ (Sees.refl _)).mono ?_
              rintro e W5 ⟨v5, rfl, o5, s5⟩
              obtain ⟨a5, c5, hv5, _⟩ := o5.slice
              obtain ⟨n5, hn5⟩ : ∃ n5, n5 = (cs ++ List.replicate (N' - m) blankC).length := ⟨_, rfl⟩
              rw [← hn5] at hv5
              subst hv5
              have HO5 := Lib.hid o5
              have HS5 := Lib.hid (HS4.out.trans s5)
              have HL5 := Lib.hid (HL4.out.sees s5)
              have HZ4 := Lib.hid HS4.out.size
              have HL4z := Lib.hid (Array.getElem?_eq_some_iff.1 HL4.out).1
              clear o5 s5 KF hn5 x0 x1
              go_wp2_with (guard_target = wpList _ _ _ ({ dst := _, op := Op.store 27 _ _, type := _, pos := _, after := _, guard := _ } :: _) _ _; refine wpList_skip rfl (exec_store (v := .agg #[.slice a5 n5 c5, .bool so']) rfl rfl rfl (run_storeLn HL5.out (by rfl))) (fun K hK => ?_); go_simp; refine hK _ _ ?_; clear hK K)
              have hzz : LnAt (W5.setRow w.heap.size #[.slice a5 n5 c5, .bool so']) w.heap.size (.slice a5 n5 c5) so' := setRow_heap _ _ _ _ _ _ HL5.out
              have hss : Sees w (W5.setRow w.heap.size #[.slice a5 n5 c5, .bool so']) := (Keeps.setRow' (F := fun _ => False) (Keeps.of_sees HS5.out) (Nat.le_refl _) _).sees_end (fun _ _ h => h)
              have hoo : cellEl.Own (fun b => w.heap.size ≤ b) (W5.setRow w.heap.size #[.slice a5 n5 c5, .bool so']) (.slice a5 n5 c5) (cs ++ List.replicate (N' - m) blankC) :=
                (HO5.out.keeps (Keeps.setRowF (F := fun b => b = w.heap.size) (Keeps.refl _ W5) rfl _) (fun b hb e => by have := HL4z.out; omega)).mono fun b _ hb => Nat.le_trans HZ4.out hb
              exact bodyPost_ret (results_ln rfl rfl rfl hzz) rfl ⟨.slice a5 n5 c5, by rw [HR3.out]; rfl, by rw [HR3.out]; exact hoo, hss⟩
          · have hR2 : R = ([], false, 6) := by rw [HR.out, if_neg (by simp), if_pos (by simp [hMl])]
            subst hR2
            have hne : ((strL M).toList == (strL l).toList) = false := by rw [ByteArray.toList_eq, ByteArray.toList_eq, strL_list, strL_list]; simpa using hMl
            clear HR hMl
            go_wp2_with (guard_target = wpList _ _ _ ({ dst := _, op := Op.load 27 _, type := _, pos := _, after := _, guard := _ } :: _) _ _; refine wpList_val rfl (exec_load (v := .agg #[.slice a2 m c2, .bool so']) rfl rfl (run_loadLn L3.out)) (fun K hK => ?_); go_simp; refine hK _ _ ?_; clear hK K)
            refine (KM.out _ (Sees.refl _)).mono ?_
            rintro e W4 ⟨rfl, s4⟩
            have HS4 := Lib.hid (HS3.out.trans s4)
            have HL4 := Lib.hid (HL3.out.sees s4)
            clear s4 KM
            go_wp2_with (guard_target = wpList _ _ _ ({ dst := _, op := Op.store 27 _ _, type := _, pos := _, after := _, guard := _ } :: _) _ _; refine wpList_skip rfl (exec_store (v := .agg #[.slice none 0 0, .bool false]) rfl rfl rfl (run_storeLn HL4.out (by rfl))) (fun K hK => ?_); go_simp; refine hK _ _ ?_; clear hK K)
            have hzz : LnAt (W4.setRow w.heap.size #[.slice none 0 0, .bool false]) w.heap.size (.slice none 0 0) false := setRow_heap _ _ _ _ _ _ HL4.out
            have hss : Sees w (W4.setRow w.heap.size #[.slice none 0 0, .bool false]) := (Keeps.setRow' (F := fun _ => False) (Keeps.of_sees HS4.out) (Nat.le_refl _) _).sees_end (fun _ _ h => h)
            exact bodyPost_ret (results_ln rfl rfl rfl hzz) rfl ⟨.slice none 0 0, rfl, El.Own.nil _ _, hss⟩
end Go.Proofs.YthcndmchlpohpaaGreatDoor

namespace Go.Proofs.YthcndmchlpohpaaGreatDoor
set_option linter.unusedVariables false
set_option linter.unusedSimpArgs false
open Go.RowKit Go.Shelf
attribute [local go_sem] Oper.semAt_some

theorem eq_of_takes {α : Type} {n : Nat} {xs ys : List α} (h1 : n = xs.length) (h2 : n = ys.length) (h : xs.take n = ys.take n) : xs = ys := by
  rwa [List.take_of_length_le (by omega), List.take_of_length_le (by omega)] at h
theorem ne_of_at {α : Type} {k : Nat} {xs ys : List α} {x y : α} (h1 : xs[k]? = some x) (h2 : ys[k]? = some y) (h : x ≠ y) : xs ≠ ys := by
  rintro rfl; exact h (Option.some.inj (h1.symm.trans h2))
/-- Two boxes. -/
structure LbS (w : World) (v u : Value) (p q : Bool) (W : World) : Prop where
  s : Sees w W
  x : LnAt W w.heap.size v p
  y : LnAt W (w.heap.size + 1) u q
theorem LbS.sees {w W W' : World} {v u : Value} {p q : Bool} (h : LbS w v u p q W) (hs : Sees W W') : LbS w v u p q W' := ⟨h.s.trans hs, h.x.sees hs, h.y.sees hs⟩
set_option maxHeartbeats 1000000 in
theorem lines48_any (F G : Nat → Prop) (v u : Value) (x y : Ln) (w : World) (ha : cellEl.Rd F w v x.cells) (hb : cellEl.Rd G w u y.cells) (hn : x.cells.length ≤ 1000000) :
    Calls Tryz.prog 19 #[.agg #[v, .bool x.soft], .agg #[u, .bool y.soft]] w fun e w' => e = .returned (.bool (decide (x = y))) ∧ Sees w w' := by
  obtain ⟨xs, s⟩ := x
  obtain ⟨ys, t⟩ := y
  simp only at ha hb hn ⊢
  have hde : ∀ b : Bool, (xs = ys ∧ s = t ↔ b = true) → decide ((⟨xs, s⟩ : Ln) = ⟨ys, t⟩) = b := fun b h => by
    cases b with
    | true => exact decide_eq_true (by obtain ⟨rfl, rfl⟩ := h.2 rfl; rfl)
    | false => exact decide_eq_false (fun e => by
        have e1 : xs = ys := congrArg Ln.cells e
        have e2 : s = t := congrArg Ln.soft e
        exact absurd (h.1 ⟨e1, e2⟩) (by decide))
  have HD := Lib.hid hde
  clear hde
  obtain ⟨ao, ca, rfl, hca⟩ := ha.slice'
  obtain ⟨bo, cb, rfl, hcb⟩ := hb.slice'
  have H0 : Hid (∀ n m X, X = w.alloc (.cells #[.slice ao n ca, .bool s] 27) → ∀ Y, Y = X.alloc (.cells #[.slice bo m cb, .bool t] 27) → LbS w (.slice ao n ca) (.slice bo m cb) s t Y) := by
    rintro n m X rfl Y rfl
    have e1 : (w.alloc (.cells #[.slice ao n ca, .bool s] 27)).heap.size = w.heap.size + 1 := World.size_alloc _ _
    exact ⟨((Sees.refl w).alloc _).alloc _, (LnAt.new rfl : LnAt (w.alloc _) _ _ _).sees ((Sees.refl _).alloc _), LnAt.new e1.symm⟩
  rcases boolWays (s == t) with hst | hst
  · by_cases hlen : xs.length = ys.length
    · obtain ⟨n, hna⟩ : ∃ n, n = xs.length := ⟨_, rfl⟩; have hnb : n = ys.length := (by omega); rw [← hna] at ha hn; rw [← hnb] at hb; rw [← hna, ← hnb]; have Hna := Lib.hid hna; have Hnb := Lib.hid hnb; have Ha := Lib.hid ha; have Hb := Lib.hid hb; clear hna hnb ha hb hlen hca hcb
      go_enter Tryz.func19, Tryz.ntmps19
      go_upto_region 1 with fail
      refine wp_world fun W1 hW1 => ?_
      have T1 := Lib.hid (H0.out _ _ _ rfl W1 hW1)
      obtain ⟨x0, x1⟩ := T1.out.x.c
      obtain ⟨y0, y1⟩ := T1.out.y.c
      clear hW1 H0
      go_wp2
      clear x0 x1 y0 y1
      go_loopw [5] (fun i wr => ∃ k : Nat, k ≤ n ∧ i = .int .i64 k ∧ xs.take k = ys.take k ∧ LbS w (.slice ao n ca) (.slice bo n cb) s t wr) (fun i _ => n - (intOf i).toNat)
      case atStart => exact ⟨0, by omega, rfl, by simp, T1.out⟩
      case round =>
        obtain ⟨k, hk, rfl, hm, hT⟩ := hrel
        have Hm := Lib.hid hm; clear hm
        have HT := Lib.hid hT
        obtain ⟨x0, x1⟩ := hT.x.c
        obtain ⟨y0, y1⟩ := hT.y.c
        clear hT T1
        by_cases hlt : k < n
        · obtain ⟨b1, o1, c, rfl, _, hc, hca⟩ := Ha.out.cell hlt
          obtain ⟨b2, o2, d, rfl, _, hd, hdb⟩ := Hb.out.cell hlt
          have F1 := Lib.hid (hca.sees HT.out.s)
          have F2 := Lib.hid (hdb.sees HT.out.s)
          have Hc := Lib.hid hc
          have Hd := Lib.hid hd
          have g0 := fun d os => (sees_grow wr d os).cell x0
          have g2 := fun d os => (sees_grow wr d os).cell y0
          have hw := Sees.refl wr
          clear hc hd hca hdb Ha Hb x1 y1
          obtain ⟨z, hz⟩ : ∃ z, z = decide (c = d) := ⟨_, rfl⟩
          have HZ := Lib.hid hz
          clear hz
          cases z
          · go_wp2
            refine wp_region_quiet_below (by kernel_rfl) (by kernel_rfl) ?_
            repeat (first | go_big_quiet_skip | (go_big_quiet_want; go_big_quiet_op; go_big_quiet_on))
            go_big_quiet_want; refine quiet_run (c).val (fun W hW => exec_load rfl rfl (run_loadCell (F1.out.sees (regrown_sees hW)))) ?_; simp only [Act.put, List.setIfInBounds_toArray, List.set_cons_zero, List.set_cons_succ]; go_big_quiet_on
            repeat (first | go_big_quiet_skip | (go_big_quiet_want; go_big_quiet_op; go_big_quiet_on))
            go_big_quiet_want; refine quiet_run (d).val (fun W hW => exec_load rfl rfl (run_loadCell (F2.out.sees (regrown_sees hW)))) ?_; simp only [Act.put, List.setIfInBounds_toArray, List.set_cons_zero, List.set_cons_succ]; go_big_quiet_on
            go_big_quiet_want; refine quiet_run (.bool true) (fun W hW => exec_bin rfl rfl rfl (guard_neqCell _ _ c d W) (by have := run_neqCell c d W; rw [← HZ.out] at this; exact this)) ?_; simp only [Act.put, List.setIfInBounds_toArray, List.set_cons_zero, List.set_cons_succ]; go_big_quiet_on
            repeat (first | go_big_quiet_skip | (go_big_quiet_want; go_big_quiet_op; go_big_quiet_on))
            refine wpQuiet_nil ?_; intro w2 hw2'; have hw2 := regrown_sees hw2'; clear hw2'
            have Hf := Lib.hid (ne_of_at Hc.out Hd.out (of_decide_eq_false HZ.out.symm))
            go_wp2
            go_ret
            exact ⟨ret_bool (HD.out false ⟨fun h => absurd h.1 Hf.out, fun h => by cases h⟩).symm, HT.out.s.trans hw2⟩
          · go_wp2
            refine wp_region_quiet_below (by kernel_rfl) (by kernel_rfl) ?_
            repeat (first | go_big_quiet_skip | (go_big_quiet_want; go_big_quiet_op; go_big_quiet_on))
            go_big_quiet_want; refine quiet_run (c).val (fun W hW => exec_load rfl rfl (run_loadCell (F1.out.sees (regrown_sees hW)))) ?_; simp only [Act.put, List.setIfInBounds_toArray, List.set_cons_zero, List.set_cons_succ]; go_big_quiet_on
            repeat (first | go_big_quiet_skip | (go_big_quiet_want; go_big_quiet_op; go_big_quiet_on))
            go_big_quiet_want; refine quiet_run (d).val (fun W hW => exec_load rfl rfl (run_loadCell (F2.out.sees (regrown_sees hW)))) ?_; simp only [Act.put, List.setIfInBounds_toArray, List.set_cons_zero, List.set_cons_succ]; go_big_quiet_on
            go_big_quiet_want; refine quiet_run (.bool false) (fun W hW => exec_bin rfl rfl rfl (guard_neqCell _ _ c d W) (by have := run_neqCell c d W; rw [← HZ.out] at this; exact this)) ?_; simp only [Act.put, List.setIfInBounds_toArray, List.set_cons_zero, List.set_cons_succ]; go_big_quiet_on
            repeat (first | go_big_quiet_skip | (go_big_quiet_want; go_big_quiet_op; go_big_quiet_on))
            refine wpQuiet_nil ?_; intro w2 hw2'; have hw2 := regrown_sees hw2'; clear hw2'
            go_wp2
            go_roundw
            case rel => exact ⟨k + 1, by omega, by go_num, take_more Hm.out Hc.out (by rw [of_decide_eq_true HZ.out.symm]; exact Hd.out), HT.out.sees hw2⟩
            case measure => simp [intOf]; omega
        · obtain rfl : k = n := by omega
          have Hf := Lib.hid (eq_of_takes Hna.out Hnb.out Hm.out)
          have hst2 := eq_of_beq hst
          go_wp2
          go_ret
          exact ⟨ret_bool (HD.out true ⟨fun _ => rfl, fun _ => ⟨Hf.out, hst2⟩⟩).symm, HT.out.s⟩
    · have Hf := Lib.hid (fun h => hlen (congrArg List.length h) : xs ≠ ys); obtain ⟨n, hna⟩ : ∃ n, n = xs.length := ⟨_, rfl⟩; obtain ⟨m, hnb⟩ : ∃ m, m = ys.length := ⟨_, rfl⟩; have hnm : ((n : Int) != (m : Int)) = true := (by rw [bne_iff_ne]; omega); rw [← hna, ← hnb]; clear hna hnb hlen ha hb hca hcb
      go_enter Tryz.func19, Tryz.ntmps19
      go_upto_region 1 with fail
      refine wp_world fun W1 hW1 => ?_
      have T1 := Lib.hid (H0.out _ _ _ rfl W1 hW1)
      obtain ⟨x0, x1⟩ := T1.out.x.c
      obtain ⟨y0, y1⟩ := T1.out.y.c
      clear hW1 H0
      go_wp2
      go_ret
      exact ⟨ret_bool (HD.out false ⟨fun h => absurd h.1 Hf.out, fun h => by cases h⟩).symm, T1.out.s⟩
  · have hne : s ≠ t := fun e => by rw [e] at hst; simp at hst
    have HNE := Lib.hid hne
    generalize xs.length = n1 at *
    generalize ys.length = n2 at *
    clear hne
    go_enter Tryz.func19, Tryz.ntmps19
    go_upto_region 1 with fail
    refine wp_world fun W1 hW1 => ?_
    have T1 := Lib.hid (H0.out _ _ _ rfl W1 hW1)
    obtain ⟨x0, x1⟩ := T1.out.x.c
    obtain ⟨y0, y1⟩ := T1.out.y.c
    clear hW1 H0
    go_wp2
    go_ret
    exact ⟨ret_bool (HD.out false ⟨fun h => absurd h.2 HNE.out, fun h => by cases h⟩).symm, T1.out.s⟩
theorem lineB_len (l : List UInt8) (N : Int) : (lineB l N).1.length ≤ 1000 := by
  unfold lineB
  split
  · simp
  · split
    · simp
    · split
      · simp
      · split
        · simp
        · split
          · simp
          · simp only [List.length_append, List.length_replicate]; omega
set_option maxHeartbeats 1000000 in
theorem reads_any (l : List UInt8) (N : Int) (hl : l.length ≤ 1000000000) (u : Value) (y : Ln) (G : Nat → Prop) (no : Int) (w : World) (hw : Sd w) (hb : cellEl.Rd G w u y.cells) :
    Calls Tryz.prog 9 #[.string (strL l), .int .i64 N, .agg #[u, .bool y.soft], .int .i64 no] w fun e w' => e = .returned (.bool (decide (lineB l N = (y.cells, y.soft, no)))) ∧ Sees w w' := by
  have KL : Hid (∀ W, Sees w W → Calls Tryz.prog 18 #[.string (strL l), .int .i64 N] W fun e w' => LineP W (lineB l N) e w') := fun W hs => line_any l N hl W (hw.sees hs)
  have HLN := Lib.hid (lineB_len l N)
  obtain ⟨R, hR⟩ : ∃ R, R = lineB l N := ⟨_, rfl⟩
  rw [← hR] at KL HLN ⊢
  obtain ⟨cs, so, er⟩ := R
  clear hR
  obtain ⟨bo, cb, rfl, hcb⟩ := hb.slice'
  obtain ⟨m, hm⟩ : ∃ m, m = y.cells.length := ⟨_, rfl⟩
  rw [← hm] at hb hcb ⊢
  have KC : Hid (∀ v W, Sees w W → cellEl.Rd (fun _ => True) W v cs → Calls Tryz.prog 19 #[.agg #[v, .bool so], .agg #[.slice bo m cb, .bool y.soft]] W fun e w' => e = .returned (.bool (decide ((⟨cs, so⟩ : Ln) = y))) ∧ Sees W w') := fun v W hs h => lines48_any _ G v _ ⟨cs, so⟩ y W h (hb.sees hs) (by have := HLN.out; simp only at this ⊢; omega)
  obtain ⟨q, hq⟩ : ∃ q, q = decide ((⟨cs, so⟩ : Ln) = y) := ⟨_, rfl⟩
  rw [← hq] at KC
  have hfin : decide ((cs, so, er) = (y.cells, y.soft, no)) = (q && (er == no)) := by
    rw [hq]
    obtain ⟨yc, ys⟩ := y
    rw [Bool.eq_iff_iff]
    simp [and_assoc]
  rw [hfin]
  have S1 : Hid (Sees w (w.alloc (.cells #[.slice bo m cb, .bool y.soft] 27))) := (Sees.refl w).alloc _
  have L1 : Hid (LnAt (w.alloc (.cells #[.slice bo m cb, .bool y.soft] 27)) w.heap.size (.slice bo m cb) y.soft) := LnAt.new rfl
  obtain ⟨W1, hW1⟩ : ∃ W1, W1 = w.alloc (.cells #[.slice bo m cb, .bool y.soft] 27) := ⟨_, rfl⟩
  rw [← hW1] at S1 L1
  have HW1 := Lib.hid hW1
  clear hW1 hm hb hw hq hfin
  go_enter Tryz.func9, Tryz.ntmps9
  go_upto_region 1 with fail
  rw [← HW1.out]
  go_wp2_with fail
  refine (KL.out _ S1.out).mono ?_
  rintro e W2 ⟨v, rfl, ho, s2⟩
  obtain ⟨a2, c2, rfl, hc2⟩ := ho.slice
  have HO := Lib.hid ho
  have HS2 := Lib.hid s2
  have HL2 := Lib.hid (L1.out.sees s2)
  have LX : Hid (LnAt (W2.alloc (.cells #[.slice a2 cs.length c2, .bool so] 27)) W2.heap.size (.slice a2 cs.length c2) so) := LnAt.new rfl
  have SX : Hid (Sees W2 (W2.alloc (.cells #[.slice a2 cs.length c2, .bool so] 27))) := (Sees.refl W2).alloc _
  obtain ⟨q0, hq0⟩ : ∃ q0, q0 = cs.length := ⟨_, rfl⟩
  rw [← hq0] at HO LX SX ⊢
  clear ho s2 KL hq0 HLN hc2
  go_upto_region 2 with fail
  refine wp_world fun W3 hW3 => ?_
  rw [← hW3] at LX SX
  have HL3 := Lib.hid (HL2.out.sees SX.out)
  have HS3 := Lib.hid (HS2.out.trans SX.out)
  have HO3 := Lib.hid (HO.out.sees SX.out).rd.all
  have HS13 := Lib.hid (S1.out.trans HS3.out)
  clear hW3
  go_wp2_with (first
    | (guard_target = wpList _ _ _ ({ dst := _, op := Op.load 27 (Operand.tmp 9), type := _, pos := _, after := _, guard := _ } :: _) _ _; refine wpList_val rfl (exec_load (v := .agg #[.slice a2 q0 c2, .bool so]) rfl rfl (run_loadLn LX.out)) (fun K hK => ?_); go_simp; refine hK _ _ ?_; clear hK K)
    | (guard_target = wpList _ _ _ ({ dst := _, op := Op.load 27 (Operand.tmp 6), type := _, pos := _, after := _, guard := _ } :: _) _ _; refine wpList_val rfl (exec_load (v := .agg #[.slice bo m cb, .bool y.soft]) rfl rfl (run_loadLn HL3.out)) (fun K hK => ?_); go_simp; refine hK _ _ ?_; clear hK K))
  refine (KC.out _ _ HS13.out HO3.out).mono ?_
  rintro e W4 ⟨rfl, s4⟩
  have HS4 := Lib.hid (HS13.out.trans s4)
  clear s4 KC
  cases q with
  | false =>
    go_wp2
    go_ret
    exact ⟨rfl, HS4.out⟩
  | true =>
    go_wp2
    go_ret
    exact ⟨rfl, HS4.out⟩
end Go.Proofs.YthcndmchlpohpaaGreatDoor
