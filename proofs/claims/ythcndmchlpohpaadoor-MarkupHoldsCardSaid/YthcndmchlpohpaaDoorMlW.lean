/- MarkupHolds (48): the theorem of stage 48. The library's variables hold what the program's text lays. -/
import Derived.Test.YthcndmchlpohpaaDoorMlU
import Derived.Test.YthcndmchlpohpaaDoorMlE
import Derived.Test.YthcndmchlpohpaaDoorTtB
namespace Go.Proofs.YthcndmchlpohpaaDoor
set_option linter.unusedVariables false
set_option linter.unusedSimpArgs false
open Go.RowKit Go.Shelf
attribute [local go_sem] Oper.semAt_some

theorem widS_app : ∀ (a b : List Rn), widS (a ++ b) = widS a + widS b
  | [], _ => by simp [widS]
  | x :: a, b => by rw [List.cons_append, widS, widS, widS_app a b]; omega
theorem widS_le (rs : List Rn) (k : Nat) : widS (rs.take k) ≤ widS rs := by
  have := widS_app (rs.take k) (rs.drop k)
  rw [List.take_append_drop] at this
  omega
theorem RnAt.c3 {w : World} {b o : Nat} {r : Rn} (h : RnAt w b o r) : w.cell? ⟨b, o, none⟩ = some (.int .i64 (r.col : Int)) ∧ w.cell? ⟨b, o + 1, none⟩ = some (.int .i64 (r.wid : Int)) ∧ w.cell? ⟨b, o + 2, none⟩ = some (.string (strL r.txt)) := ⟨h 0 _ rfl, h 1 _ rfl, h 2 _ rfl⟩
set_option maxHeartbeats 4000000 in
set_option maxRecDepth 100000 in
theorem markupHolds_true (v u : Value) (xs ys : List Cell) (p q : Bool) (F G : Nat → Prop) (w : World) (hw : Sd w) (ha : cellEl.Rd F w v xs) (hb : cellEl.Rd G w u ys) (bx : ∀ c ∈ xs, c.Bd) (by' : ∀ c ∈ ys, c.Bd) :
    Calls Tryd.prog 3 #[.agg #[v, .bool p], .agg #[u, .bool q]] w fun e w' => e = .returned (.bool true) ∧ Sees w w' := by
  have KN : Hid (∀ W, Sees w W → Calls Tryd.prog 4 #[] W fun e w' => e = .returned (.bool true) ∧ Sees W w') := fun W hs => known48_any W (hw.sees hs)
  obtain ⟨ao, ca, rfl, hca⟩ := ha.slice'
  obtain ⟨bo, cb, rfl, hcb⟩ := hb.slice'
  obtain ⟨n, hnn⟩ : ∃ n, n = xs.length := ⟨_, rfl⟩
  obtain ⟨m, hmm⟩ : ∃ m, m = ys.length := ⟨_, rfl⟩
  rw [← hnn] at ha hca ⊢
  rw [← hmm] at hb hcb ⊢
  have HA := Lib.hid ha
  have HB := Lib.hid hb
  have HN := Lib.hid hnn
  have HM := Lib.hid hmm
  have HW := Lib.hid hw
  have BX := Lib.hid bx
  have BY := Lib.hid by'
  have H0 : Hid (∀ X, X = w.alloc (.cells #[.slice ao n ca, .bool p] 24) → ∀ Y, Y = X.alloc (.cells #[.slice bo m cb, .bool q] 24) → LbS w (.slice ao n ca) (.slice bo m cb) p q Y) := by
    rintro X rfl Y rfl
    have e1 : (w.alloc (.cells #[.slice ao n ca, .bool p] 24)).heap.size = w.heap.size + 1 := World.size_alloc _ _
    exact ⟨((Sees.refl w).alloc _).alloc _, (LnAt.new rfl : LnAt (w.alloc _) _ _ _).sees ((Sees.refl _).alloc _), LnAt.new e1.symm⟩
  clear ha hb hnn hmm hw bx by'
  rcases (show 40 < n ∨ (n ≤ 40 ∧ 40 < m) ∨ (n ≤ 40 ∧ m ≤ 40) by omega) with h1 | ⟨h1, h2⟩ | ⟨h1, h2⟩
  · have g1 : (n : Int) > 40 := by omega
    go_enter Tryd.func3, Tryd.ntmps3
    go_upto_region 1 with fail
    refine wp_world fun W1 hW1 => ?_
    have T1 := Lib.hid (H0.out _ rfl W1 hW1)
    obtain ⟨x0, x1⟩ := T1.out.x.c
    obtain ⟨y0, y1⟩ := T1.out.y.c
    have S1 := Lib.hid T1.out.s
    clear hW1 H0
    go_wp2_with fail
    refine (KN.out _ S1.out).mono ?_
    rintro e Wk ⟨rfl, sk⟩
    have Sk := Lib.hid (S1.out.trans sk)
    go_wp2
    go_ret
    exact ⟨rfl, Sk.out⟩
  · have g1 : ¬ (n : Int) > 40 := by omega
    have g2 : (m : Int) > 40 := by omega
    go_enter Tryd.func3, Tryd.ntmps3
    go_upto_region 1 with fail
    refine wp_world fun W1 hW1 => ?_
    have T1 := Lib.hid (H0.out _ rfl W1 hW1)
    obtain ⟨x0, x1⟩ := T1.out.x.c
    obtain ⟨y0, y1⟩ := T1.out.y.c
    have S1 := Lib.hid T1.out.s
    clear hW1 H0
    go_wp2_with fail
    refine (KN.out _ S1.out).mono ?_
    rintro e Wk ⟨rfl, sk⟩
    have Sk := Lib.hid (S1.out.trans sk)
    go_wp2
    go_ret
    exact ⟨rfl, Sk.out⟩
  · have g1 : ¬ (n : Int) > 40 := by omega
    have g2 : ¬ (m : Int) > 40 := by omega
    have KA : Hid (∀ W, Sees w W → Calls Tryd.prog 5 #[.agg #[.slice ao n ca, .bool p]] W fun e w' => e = .returned (.tuple #[.string (strL (if lnOk xs then mkL xs p else [])), .int .i64 (if lnOk xs then 0 else 2)]) ∧ Sees W w') := fun W hs => markup_any _ xs p _ W (HW.out.sees hs) (HA.out.sees hs) (by rw [← HN.out]; omega) BX.out
    obtain ⟨ok, hok⟩ : ∃ ok, ok = lnOk xs := ⟨_, rfl⟩
    rw [← hok] at KA
    have HOK := Lib.hid hok
    clear hok
    cases ok with
    | false =>
      simp only [Bool.false_eq_true, if_false] at KA
      have hem : strL [] = ⟨#[]⟩ := rfl
      rw [hem] at KA
      go_enter Tryd.func3, Tryd.ntmps3
      go_upto_region 1 with fail
      refine wp_world fun W1 hW1 => ?_
      have T1 := Lib.hid (H0.out _ rfl W1 hW1)
      obtain ⟨x0, x1⟩ := T1.out.x.c
      obtain ⟨y0, y1⟩ := T1.out.y.c
      have S1 := Lib.hid T1.out.s
      clear hW1 H0
      go_wp2_with (guard_target = wpList _ _ _ ({ dst := some 24, op := _, type := _, pos := _, after := _, guard := _ } :: _) _ _; refine wpList_val rfl (exec_load (v := .agg #[.slice ao n ca, .bool p]) rfl rfl (run_loadLn T1.out.x)) (fun K hK => ?_); go_simp; refine hK _ _ ?_; clear hK K)
      refine (KA.out _ S1.out).mono ?_
      rintro e W2 ⟨rfl, s2⟩
      have S2 := Lib.hid (S1.out.trans s2)
      clear s2 KA x0 x1 y0 y1 hem
      go_wp2_with fail
      refine (KN.out _ S2.out).mono ?_
      rintro e Wk ⟨rfl, sk⟩
      have Sk := Lib.hid (S2.out.trans sk)
      go_wp2
      go_ret
      exact ⟨rfl, Sk.out⟩
    | true =>
      simp only [if_true] at KA
      have KR : Hid (∀ W, Sees w W → Calls Tryd.prog 6 #[.string (strL (mkL xs p)), .int .i64 (n : Int), .agg #[.slice ao n ca, .bool p], .int .i64 0] W fun e w' => e = .returned (.bool true) ∧ Sees W w') := fun W hs => by
        have hl := mkL_len xs p
        have h := reads_any (mkL xs p) (n : Int) (by rw [← HN.out] at hl; omega) (.slice ao n ca) ⟨xs, p⟩ _ 0 W (HW.out.sees hs) (HA.out.sees hs)
        have e1 := line_same HOK.out.symm BX.out p
        rw [← HN.out] at e1
        rw [e1, decide_eq_true rfl] at h
        exact h
      have KU : Hid (∀ W, Sees w W → Calls Tryd.prog 7 #[.agg #[.slice ao n ca, .bool p]] W fun e w' => ∃ u, e = .returned (.tuple #[u, .int .i64 0]) ∧ rnEl.Own (fun b => W.heap.size ≤ b) w' u (runsL xs) ∧ Sees W w') := fun W hs => by
        have h := runs_any (.slice ao n ca) ⟨xs, p⟩ _ W (HW.out.sees hs).t (HA.out.sees hs) (by show xs.length ≤ _; rw [← HN.out]; omega)
        simp only [← HOK.out, if_true] at h
        exact h
      have KT : Hid (∀ W, Sees w W → Calls Tryd.prog 8 #[.agg #[.slice ao n ca, .bool p]] W fun e w' => e = .returned (.string (strL ((runsL xs).flatMap Rn.txt))) ∧ Sees W w') := fun W hs => by
        rw [(runsL_sum xs).2.1]
        exact lineText_any (.slice ao n ca) ⟨xs, p⟩ _ W (HA.out.sees hs) (by show xs.length ≤ _; rw [← HN.out]; omega)
      have KD : Hid (∀ W, Sees w W → Calls Tryd.prog 9 #[.agg #[.slice ao n ca, .bool p]] W fun e w' => e = .returned (.int .i64 (widS (runsL xs))) ∧ Sees W w') := fun W hs => by
        rw [(runsL_sum xs).1]
        exact used_any (.slice ao n ca) ⟨xs, p⟩ _ W (HA.out.sees hs) (by show xs.length ≤ _; rw [← HN.out]; omega)
      have HRS := Lib.hid (runsL_sum xs).2.2
      have hn40 : (runsL xs).length ≤ 40 := by
        have h3 := widS_pos (runsL xs) (fun r hr => by
          obtain ⟨k, hk⟩ := List.mem_iff_getElem?.1 hr
          exact ((runsL_sum xs).2.2 k r hk).2)
        rw [(runsL_sum xs).1] at h3
        have := usedN_le xs
        rw [← HN.out] at this
        omega
      have hwl : widS (runsL xs) ≤ 40 := by rw [(runsL_sum xs).1]; have := usedN_le xs; rw [← HN.out] at this; omega
      have htl : ((runsL xs).flatMap Rn.txt).length ≤ 640 := by
        rw [(runsL_sum xs).2.1]
        have h3 := txts_len (xs.take (usedN xs))
        have h4 : (xs.take (usedN xs)).length ≤ 40 := by rw [List.length_take, ← HN.out]; omega
        omega
      have KB : Hid (∀ W, Sees w W → Calls Tryd.prog 5 #[.agg #[.slice bo m cb, .bool q]] W fun e w' => e = .returned (.tuple #[.string (strL (if lnOk ys then mkL ys q else [])), .int .i64 (if lnOk ys then 0 else 2)]) ∧ Sees W w') := fun W hs => markup_any _ ys q _ W (HW.out.sees hs) (HB.out.sees hs) (by rw [← HM.out]; omega) BY.out
      have KL : Hid (∀ W, Sees w W → Calls Tryd.prog 10 #[.agg #[.slice ao n ca, .bool p], .agg #[.slice bo m cb, .bool q]] W fun e w' => e = .returned (.bool (decide ((⟨xs, p⟩ : Ln) = ⟨ys, q⟩))) ∧ Sees W w') := fun W hs => lines48_any _ _ _ _ ⟨xs, p⟩ ⟨ys, q⟩ W (HA.out.sees hs) (HB.out.sees hs) (by show xs.length ≤ _; rw [← HN.out]; omega)
      obtain ⟨S, hS⟩ : ∃ S, S = mkL xs p := ⟨_, rfl⟩
      rw [← hS] at KA KR
      have HS := Lib.hid hS
      obtain ⟨rs, hrs⟩ : ∃ rs, rs = runsL xs := ⟨_, rfl⟩
      rw [← hrs] at KU KT KD HRS hwl htl hn40
      have HWL := Lib.hid (fun k => Nat.le_trans (widS_le rs k) hwl)
      have HTL := Lib.hid (fun k => Nat.le_trans (flat_take_len Rn.txt rs k) htl)
      obtain ⟨N, hN⟩ : ∃ N, N = rs.length := ⟨_, rfl⟩
      have HNN := Lib.hid hN
      rw [← hN] at hn40
      clear hS hrs hwl htl hN
      go_enter Tryd.func3, Tryd.ntmps3
      go_upto_region 1 with fail
      refine wp_world fun W1 hW1 => ?_
      have T1 := Lib.hid (H0.out _ rfl W1 hW1)
      obtain ⟨x0, x1⟩ := T1.out.x.c
      obtain ⟨y0, y1⟩ := T1.out.y.c
      have S1 := Lib.hid T1.out.s
      clear hW1 H0
      go_wp2_with (guard_target = wpList _ _ _ ({ dst := some 24, op := _, type := _, pos := _, after := _, guard := _ } :: _) _ _; refine wpList_val rfl (exec_load (v := .agg #[.slice ao n ca, .bool p]) rfl rfl (run_loadLn T1.out.x)) (fun K hK => ?_); go_simp; refine hK _ _ ?_; clear hK K)
      refine (KA.out _ S1.out).mono ?_
      rintro e W2 ⟨rfl, s2⟩
      have T2 := Lib.hid (T1.out.sees s2)
      obtain ⟨x0, x1⟩ := T2.out.x.c
      have S2 := Lib.hid T2.out.s
      clear s2 KA y0 y1 T1 S1
      go_wp2_with (guard_target = wpList _ _ _ ({ dst := some 39, op := _, type := _, pos := _, after := _, guard := _ } :: _) _ _; refine wpList_val rfl (exec_load (v := .agg #[.slice ao n ca, .bool p]) rfl rfl (run_loadLn T2.out.x)) (fun K hK => ?_); go_simp; refine hK _ _ ?_; clear hK K)
      refine (KR.out _ S2.out).mono ?_
      rintro e W3 ⟨rfl, s3⟩
      have T3 := Lib.hid (T2.out.sees s3)
      have S3 := Lib.hid T3.out.s
      clear s3 KR x0 x1 T2 S2
      go_wp2_with (guard_target = wpList _ _ _ ({ dst := some 43, op := _, type := _, pos := _, after := _, guard := _ } :: _) _ _; refine wpList_val rfl (exec_load (v := .agg #[.slice ao n ca, .bool p]) rfl rfl (run_loadLn T3.out.x)) (fun K hK => ?_); go_simp; refine hK _ _ ?_; clear hK K)
      refine (KU.out _ S3.out).mono ?_
      rintro e W4 ⟨uu, rfl, ou, s4⟩
      obtain ⟨a4, c4, hv4, _⟩ := ou.slice
      rw [← HNN.out] at hv4
      subst hv4
      have T4 := Lib.hid (T3.out.sees s4)
      have HR4 := Lib.hid ou.rd
      clear s4 KU T3 S3 ou
      go_wp2
      go_loopw [8, 9, 10] (fun t s i W => ∃ k : Nat, k ≤ N ∧ i = .int .i64 k ∧ t = .string (strL ((rs.take k).flatMap Rn.txt)) ∧ s = .int .i64 (widS (rs.take k) : Nat) ∧ Sees W4 W) (fun _ _ i _ => N - (intOf i).toNat)
      case atStart => exact ⟨0, Nat.zero_le _, rfl, rfl, rfl, Sees.refl _⟩
      case round =>
        obtain ⟨k, hk, rfl, rfl, rfl, hs⟩ := hrel
        have HSW := Lib.hid hs
        by_cases hlt : k < N
        · obtain ⟨b1, o1, r, rfl, hr, hra⟩ := rn_at (HR4.out.sees hs) hlt
          obtain ⟨c0, c1, c2⟩ := hra.c3
          obtain ⟨hcol, hwid⟩ := HRS.out k r hr
          have hw1 := HWL.out (k + 1)
          have ht1 := HTL.out (k + 1)
          rw [widS_take hr] at hw1
          rw [txt_take hr, List.length_append] at ht1
          have EW := Lib.hid (widS_take hr)
          have ET := Lib.hid (txt_take hr)
          obtain ⟨X, hX⟩ : ∃ X, X = (rs.take k).flatMap Rn.txt := ⟨_, rfl⟩
          obtain ⟨Y, hY⟩ : ∃ Y, Y = widS (rs.take k) := ⟨_, rfl⟩
          rw [hcol] at c0
          rw [← hX] at ht1 ET ⊢
          rw [← hY] at hw1 EW c0 ⊢
          have z1 : (strL X).size ≤ 640 := by rw [strL_size]; omega
          have z2 : (strL r.txt).size ≤ 640 := by rw [strL_size]; omega
          have z3 : (strL X).size + (strL r.txt).size ≤ 9223372036854775807 := by omega
          have z4 : IntKind.i64.wrap ((Y : Int) + r.wid) = ((Y + r.wid : Nat) : Int) := by rw [IntWalk.i64_in _ (by omega)]; omega
          have z5 : ¬ (r.wid : Int) < 1 := by omega
          have g3 := fun d os => (sees_grow wr d os).cell c1
          have g4 := fun d os => (sees_grow wr d os).cell c2
          clear hr hra hcol hwid hX hY HR4 hs
          go_upto_region 15 with fail
          clear c0 c1 c2
          refine wp_region_quiet_below (by kernel_rfl) (by kernel_rfl) ?_
          repeat (first | go_big_quiet_skip | (go_big_quiet_want; go_big_quiet_op; go_big_quiet_on))
          refine wpQuiet_nil ?_; intro w2 hw2'; have hw2 := regrown_sees hw2'; clear hw2'
          have S5 := Lib.hid (HSW.out.trans hw2)
          clear hw2 g3 g4
          go_wp2
          go_roundw
          case rel => exact ⟨k + 1, by omega, by go_num, by rw [ET.out, ← strL_app], by rw [EW.out, Int.natCast_add], S5.out⟩
          case measure => simp [intOf]; omega
        · obtain rfl : k = N := by omega
          have hall : rs.take k = rs := List.take_of_length_le (by rw [← HNN.out]; exact Nat.le_refl _)
          rw [hall]
          have T5 := Lib.hid (T4.out.sees hs)
          have S5 := Lib.hid T5.out.s
          obtain ⟨X, hX⟩ : ∃ X, X = rs.flatMap Rn.txt := ⟨_, rfl⟩
          obtain ⟨Y, hY⟩ : ∃ Y, Y = widS rs := ⟨_, rfl⟩
          rw [← hX] at KT ⊢
          rw [← hY] at KD ⊢
          have heq : ((strL X).toList == (strL X).toList) = true := by simp
          clear hall hlt hX hY hs T4 HR4
          go_wp2_with (guard_target = wpList _ _ _ ({ dst := some 86, op := _, type := _, pos := _, after := _, guard := _ } :: _) _ _; refine wpList_valG (by go_simp) (exec_load (v := .agg #[.slice ao n ca, .bool p]) rfl rfl (run_loadLn T5.out.x)) (fun K hK => ?_); go_simp; refine hK _ _ ?_; clear hK K)
          refine (KT.out _ S5.out).mono ?_
          rintro e W6 ⟨rfl, s6⟩
          have T6 := Lib.hid (T5.out.sees s6)
          have S6 := Lib.hid T6.out.s
          clear s6 KT T5 S5
          go_wp2_with (guard_target = wpList _ _ _ ({ dst := some 92, op := _, type := _, pos := _, after := _, guard := _ } :: _) _ _; refine wpList_valG (by go_simp) (exec_load (v := .agg #[.slice ao n ca, .bool p]) rfl rfl (run_loadLn T6.out.x)) (fun K hK => ?_); go_simp; refine hK _ _ ?_; clear hK K)
          refine (KD.out _ S6.out).mono ?_
          rintro e W7 ⟨rfl, s7⟩
          have T7 := Lib.hid (T6.out.sees s7)
          have S7 := Lib.hid T7.out.s
          clear s7 KD T6 S6
          go_wp2_with (guard_target = wpList _ _ _ ({ dst := some 97, op := _, type := _, pos := _, after := _, guard := _ } :: _) _ _; refine wpList_val rfl (exec_load (v := .agg #[.slice bo m cb, .bool q]) rfl rfl (run_loadLn T7.out.y)) (fun K hK => ?_); go_simp; refine hK _ _ ?_; clear hK K)
          refine (KB.out _ S7.out).mono ?_
          rintro e W8 ⟨rfl, s8⟩
          have T8 := Lib.hid (T7.out.sees s8)
          have S8 := Lib.hid T8.out.s
          obtain ⟨x0, x1⟩ := T8.out.x.c
          obtain ⟨y0, y1⟩ := T8.out.y.c
          clear s8 KB T7 S7 heq
          obtain ⟨okb, hokb⟩ : ∃ okb, okb = lnOk ys := ⟨_, rfl⟩
          rw [← hokb]
          have HOKB := Lib.hid hokb
          clear hokb
          cases okb with
          | false =>
            simp only [Bool.false_eq_true, if_false]
            go_wp2_with fail
            refine (KN.out _ S8.out).mono ?_
            rintro e Wk ⟨rfl, sk⟩
            have Sk := Lib.hid (S8.out.trans sk)
            go_wp2
            go_ret
            exact ⟨rfl, Sk.out⟩
          | true =>
            simp only [if_true]
            by_cases hnm : n = m
            · subst hnm
              obtain ⟨T, hT⟩ : ∃ T, T = mkL ys q := ⟨_, rfl⟩
              obtain ⟨z, hz⟩ : ∃ z, z = decide (S = T) := ⟨_, rfl⟩
              have heq : ((strL S).toList == (strL T).toList) = z := by
                rw [ByteArray.toList_eq, ByteArray.toList_eq, strL_list, strL_list, hz]
                rw [Bool.eq_iff_iff]; simp
              have hzz : decide ((⟨xs, p⟩ : Ln) = ⟨ys, q⟩) = z := by
                rw [hz, HS.out, hT]
                have h := mkL_inj HOK.out.symm HOKB.out.symm BX.out BY.out p q (by rw [← HN.out, ← HM.out])
                rw [Bool.eq_iff_iff]
                simp [h]
              rw [hzz] at KL
              rw [← hT]
              clear hT hz hzz
              cases z with
              | false =>
                go_wp2_with (first
                  | (guard_target = wpList _ _ _ ({ dst := some 116, op := _, type := _, pos := _, after := _, guard := _ } :: _) _ _; refine wpList_val rfl (exec_load (v := .agg #[.slice ao n ca, .bool p]) rfl rfl (run_loadLn T8.out.x)) (fun K hK => ?_); go_simp; refine hK _ _ ?_; clear hK K)
                  | (guard_target = wpList _ _ _ ({ dst := some 117, op := _, type := _, pos := _, after := _, guard := _ } :: _) _ _; refine wpList_val rfl (exec_load (v := .agg #[.slice bo n cb, .bool q]) rfl rfl (run_loadLn T8.out.y)) (fun K hK => ?_); go_simp; refine hK _ _ ?_; clear hK K))
                refine (KL.out _ S8.out).mono ?_
                rintro e W9 ⟨rfl, s9⟩
                have S9 := Lib.hid (S8.out.trans s9)
                clear s9 KL T8 S8
                go_wp2_with fail
                refine (KN.out _ S9.out).mono ?_
                rintro e Wk ⟨rfl, sk⟩
                have Sk := Lib.hid (S9.out.trans sk)
                go_wp2
                go_ret
                exact ⟨rfl, Sk.out⟩
              | true =>
                go_wp2_with (first
                  | (guard_target = wpList _ _ _ ({ dst := some 116, op := _, type := _, pos := _, after := _, guard := _ } :: _) _ _; refine wpList_val rfl (exec_load (v := .agg #[.slice ao n ca, .bool p]) rfl rfl (run_loadLn T8.out.x)) (fun K hK => ?_); go_simp; refine hK _ _ ?_; clear hK K)
                  | (guard_target = wpList _ _ _ ({ dst := some 117, op := _, type := _, pos := _, after := _, guard := _ } :: _) _ _; refine wpList_val rfl (exec_load (v := .agg #[.slice bo n cb, .bool q]) rfl rfl (run_loadLn T8.out.y)) (fun K hK => ?_); go_simp; refine hK _ _ ?_; clear hK K))
                refine (KL.out _ S8.out).mono ?_
                rintro e W9 ⟨rfl, s9⟩
                have S9 := Lib.hid (S8.out.trans s9)
                clear s9 KL T8 S8
                go_wp2_with fail
                refine (KN.out _ S9.out).mono ?_
                rintro e Wk ⟨rfl, sk⟩
                have Sk := Lib.hid (S9.out.trans sk)
                go_wp2
                go_ret
                exact ⟨rfl, Sk.out⟩
            · have hne : ((n : Int) != (m : Int)) = true := by rw [bne_iff_ne]; omega
              clear hnm
              go_wp2_with fail
              refine (KN.out _ S8.out).mono ?_
              rintro e Wk ⟨rfl, sk⟩
              have Sk := Lib.hid (S8.out.trans sk)
              go_wp2
              go_ret
              exact ⟨rfl, Sk.out⟩
end Go.Proofs.YthcndmchlpohpaaDoor
