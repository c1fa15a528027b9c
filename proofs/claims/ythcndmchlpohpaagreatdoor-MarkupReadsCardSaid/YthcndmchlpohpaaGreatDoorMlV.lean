/- MarkupReads (48): markups with other bytes. The library's variables hold what the program's text lays. -/
import Derived.Test.YthcndmchlpohpaaGreatDoorMlT
import Derived.Test.YthcndmchlpohpaaGreatDoorMlG
namespace Go.Proofs.YthcndmchlpohpaaGreatDoor
set_option linter.unusedVariables false
set_option linter.unusedSimpArgs false
open Go.RowKit Go.Shelf
attribute [local go_sem] Oper.semAt_some

set_option maxHeartbeats 4000000 in
set_option maxRecDepth 100000 in
theorem markupReads_true (v : Value) (cs : List Cell) (so : Bool) (F : Nat → Prop) (at' less : Int) (ml : List UInt8) (w : World) (hw : Sd w) (h : cellEl.Rd F w v cs) (hbd : ∀ c ∈ cs, c.Bd) (ha : 0 ≤ at' ∧ at' ≤ 255) (hle : 0 ≤ less ∧ less ≤ 255) (hml : ml.length ≤ 9223372036854775807) :
    Calls Tryz.prog 6 #[.agg #[v, .bool so], .int .u8 at', .int .u8 less, .string (strL ml)] w fun e w' => e = .returned (.bool true) ∧ Sees w w' := by
  have KN : Hid (∀ W, Sees w W → Calls Tryz.prog 8 #[] W fun e w' => e = .returned (.bool true) ∧ Sees W w') := fun W hs => known48_any W (hw.sees hs)
  obtain ⟨a, cp, rfl, hcp⟩ := h.slice'
  obtain ⟨n, hnn⟩ : ∃ n, n = cs.length := ⟨_, rfl⟩
  rw [← hnn] at h hcp ⊢
  have L0 : Hid (LnAt (w.alloc (.cells #[.slice a n cp, .bool so] 27)) w.heap.size (.slice a n cp) so) := LnAt.new rfl
  have S0 : Hid (Sees w (w.alloc (.cells #[.slice a n cp, .bool so] 27))) := (Sees.refl w).alloc _
  obtain ⟨W1, hW1⟩ : ∃ W1, W1 = w.alloc (.cells #[.slice a n cp, .bool so] 27) := ⟨_, rfl⟩
  rw [← hW1] at L0 S0
  have HW1 := Lib.hid hW1
  have HW := Lib.hid hw
  have H := Lib.hid h
  have HN := Lib.hid hnn
  have HB := Lib.hid hbd
  have hmz : (strL ml).size = ml.length := strL_size ml
  obtain ⟨mm, hmm⟩ : ∃ mm, mm = ml.length := ⟨_, rfl⟩
  rw [← hmm] at hmz hml
  have HMM := Lib.hid hmm
  clear hW1 hw h hnn hbd hmm
  by_cases h40 : 40 < n
  · have g1 : (n : Int) > 40 := by omega
    obtain ⟨l0, l1⟩ := L0.out.c
    go_enter Tryz.func6, Tryz.ntmps6
    go_upto_region 1 with fail
    rw [← HW1.out]
    go_wp2_with fail
    refine (KN.out _ S0.out).mono ?_
    rintro e Wk ⟨rfl, sk⟩
    have Sk := Lib.hid (S0.out.trans sk)
    go_wp2
    go_ret
    exact ⟨rfl, Sk.out⟩
  · have g1 : ¬ (n : Int) > 40 := by omega
    have KV : Hid (∀ W, Sees w W → Calls Tryz.prog 11 #[.agg #[.slice a n cp, .bool so]] W fun e w' => e = .returned (.bool (lnOk cs)) ∧ Sees W w') := fun W hs => lineValid_any _ cs so W (HW.out.sees hs).t ((H.out.sees hs).rdc.rd) (by rw [← HN.out]; omega)
    obtain ⟨ok, hok⟩ : ∃ ok, ok = lnOk cs := ⟨_, rfl⟩
    rw [← hok] at KV
    have HOK := Lib.hid hok
    obtain ⟨l0, l1⟩ := L0.out.c
    clear hok
    cases ok with
    | false =>
      go_enter Tryz.func6, Tryz.ntmps6
      go_upto_region 1 with fail
      rw [← HW1.out]
      go_wp2_with (guard_target = wpList _ _ _ ({ dst := some 20, op := _, type := _, pos := _, after := _, guard := _ } :: _) _ _; refine wpList_valG (by go_simp) (exec_load (v := .agg #[.slice a n cp, .bool so]) rfl rfl (run_loadLn L0.out)) (fun K hK => ?_); go_simp; refine hK _ _ ?_; clear hK K)
      refine (KV.out _ S0.out).mono ?_
      rintro e W2 ⟨rfl, s2⟩
      have S2 := Lib.hid (S0.out.trans s2)
      clear s2 KV l0 l1
      go_wp2_with fail
      refine (KN.out _ S2.out).mono ?_
      rintro e Wk ⟨rfl, sk⟩
      have Sk := Lib.hid (S2.out.trans sk)
      go_wp2
      go_ret
      exact ⟨rfl, Sk.out⟩
    | true =>
      by_cases h20 : 20 < mm
      · have g2 : (mm : Int) > 20 := by omega
        go_enter Tryz.func6, Tryz.ntmps6
        go_upto_region 1 with fail
        rw [← HW1.out]
        go_wp2_with (guard_target = wpList _ _ _ ({ dst := some 20, op := _, type := _, pos := _, after := _, guard := _ } :: _) _ _; refine wpList_valG (by go_simp) (exec_load (v := .agg #[.slice a n cp, .bool so]) rfl rfl (run_loadLn L0.out)) (fun K hK => ?_); go_simp; refine hK _ _ ?_; clear hK K)
        refine (KV.out _ S0.out).mono ?_
        rintro e W2 ⟨rfl, s2⟩
        have S2 := Lib.hid (S0.out.trans s2)
        clear s2 KV l0 l1
        go_wp2_with fail
        refine (KN.out _ S2.out).mono ?_
        rintro e Wk ⟨rfl, sk⟩
        have Sk := Lib.hid (S2.out.trans sk)
        go_wp2
        go_ret
        exact ⟨rfl, Sk.out⟩
      · have g2 : ¬ (mm : Int) > 20 := by omega
        have KM : Hid (∀ W, Sees w W → Calls Tryz.prog 13 #[.agg #[.slice a n cp, .bool so]] W fun e w' => e = .returned (.string (strL (mkL cs so))) ∧ Sees W w') := fun W hs => marked_any _ cs so F W (H.out.sees hs) HOK.out.symm HB.out
        obtain ⟨S, hS⟩ : ∃ S, S = mkL cs so := ⟨_, rfl⟩
        have hSl : S.length ≤ 2000 := by have := mkL_len cs so; rw [hS, ← HN.out] at *; omega
        rw [← hS] at KM
        have HS := Lib.hid hS
        obtain ⟨L, hL⟩ : ∃ L, L = S.length := ⟨_, rfl⟩
        have hsz : (strL S).size = L := by rw [strL_size, hL]
        rw [← hL] at hSl
        obtain ⟨i, hi⟩ : ∃ i : Nat, (i : Int) = at'.tmod ((L : Int) + 1) := ⟨(at'.tmod ((L : Int) + 1)).toNat, by rw [Int.toNat_of_nonneg (Int.tmod_nonneg _ ha.1)]⟩
        have hiL : i ≤ L := by
          have h1 : at'.tmod ((L : Int) + 1) < (L : Int) + 1 := Int.tmod_lt_of_pos _ (by omega)
          omega
        obtain ⟨k, hk⟩ : ∃ k : Nat, (k : Int) = min (L : Int) ((i : Int) + less) := ⟨(min (L : Int) ((i : Int) + less)).toNat, by rw [Int.toNat_of_nonneg]; omega⟩
        have hkL : k ≤ L := by omega
        have hik : i ≤ k := by omega
        have hd := hi.symm
        have hmin := hk.symm
        have hx1 : (strL S).extract 0 i = strL (S.take i) := by rw [strL_extract]; rfl
        have hx2 : (strL S).extract k L = strL (S.drop k) := by rw [strL_extract, List.take_of_length_le (by omega)]
        have hw1 : IntKind.i64.wrap ((L : Int) + 1) = (L : Int) + 1 := IntWalk.i64_in _ (by omega)
        have hwb : IntKind.i64.wrap ((i : Int) + less) = (i : Int) + less := IntWalk.i64_in _ (by omega)
        have hw3 : IntKind.i64.wrap at' = at' := IntWalk.i64_in _ (by omega)
        have hw4 : IntKind.i64.wrap less = less := IntWalk.i64_in _ (by omega)
        have hw5 : IntKind.i64.wrap (i : Int) = (i : Int) := IntWalk.i64_in _ (by omega)
        have hne : ¬ ((L : Int) + 1 = 0) := by omega
        have hsplit : S = S.take i ++ ((S.drop i).take (k - i) ++ S.drop k) := by
          have e1 : (S.drop i).drop (k - i) = S.drop k := by rw [List.drop_drop, show i + (k - i) = k by omega]
          rw [← e1, List.take_append_drop, List.take_append_drop]
        obtain ⟨A, hA⟩ : ∃ A, A = S.take i := ⟨_, rfl⟩
        obtain ⟨C, hC⟩ : ∃ C, C = S.drop k := ⟨_, rfl⟩
        rw [← hA] at hx1 hsplit
        rw [← hC] at hx2 hsplit
        have hAz : (strL A).size = i := by rw [strL_size, hA, List.length_take]; omega
        have hCz : (strL C).size = L - k := by rw [strL_size, hC, List.length_drop, hL]
        have HT : Hid (strL A ++ strL ml ++ strL C = strL (A ++ (ml ++ C))) := by unfold RowKit.Hid; rw [strL_app, strL_app, List.append_assoc]
        have hTl : (A ++ (ml ++ C)).length ≤ 5000 := by rw [← strL_size, ← HT.out, ByteArray.size_append, ByteArray.size_append, hAz, hmz, hCz]; omega
        obtain ⟨T, hT⟩ : ∃ T, T = A ++ (ml ++ C) := ⟨_, rfl⟩
        rw [← hT] at HT hTl
        have HTR : Hid ((lineB T 200).2.2 ≠ 0 → lineB T 200 = ([], false, 6) ∧ T ≠ S) := fun he => by
          rw [hT] at he ⊢
          rw [hS]
          exact line_turned HOK.out.symm HB.out (by rw [← HN.out]; omega) so A _ ml C (by rw [← hS]; exact hsplit) (by rw [← HMM.out]; omega) he
        have HGD := Lib.hid (line_good (l := T) (N := 200))
        have KL : Hid (∀ W, Sees w W → Calls Tryz.prog 18 #[.string (strL T), .int .i64 200] W fun e w' => LineP W (lineB T 200) e w') := fun W hs => line_any T 200 (by omega) W (HW.out.sees hs)
        obtain ⟨R, hR⟩ : ∃ R, R = lineB T 200 := ⟨_, rfl⟩
        rw [← hR] at KL HTR HGD
        have HTL := Lib.hid hTl
        have ha0 := ha.1
        have ha1 := ha.2
        clear hA hC hsplit hS hL hR hT hi hk ha hle hTl
        go_enter Tryz.func6, Tryz.ntmps6
        go_upto_region 1 with fail
        rw [← HW1.out]
        go_wp2_with (guard_target = wpList _ _ _ ({ dst := some 20, op := _, type := _, pos := _, after := _, guard := _ } :: _) _ _; refine wpList_valG (by go_simp) (exec_load (v := .agg #[.slice a n cp, .bool so]) rfl rfl (run_loadLn L0.out)) (fun K hK => ?_); go_simp; refine hK _ _ ?_; clear hK K)
        refine (KV.out _ S0.out).mono ?_
        rintro e W2 ⟨rfl, s2⟩
        have S2 := Lib.hid (S0.out.trans s2)
        have L2 := Lib.hid (L0.out.sees s2)
        clear s2 KV l0 l1 L0 S0
        go_wp2_with (guard_target = wpList _ _ _ ({ dst := some 30, op := _, type := _, pos := _, after := _, guard := _ } :: _) _ _; refine wpList_val rfl (exec_load (v := .agg #[.slice a n cp, .bool so]) rfl rfl (run_loadLn L2.out)) (fun K hK => ?_); go_simp; refine hK _ _ ?_; clear hK K)
        refine (KM.out _ S2.out).mono ?_
        rintro e W3 ⟨rfl, s3⟩
        have S3 := Lib.hid (S2.out.trans s3)
        clear s3 L2 S2 KM
        go_upto_region 6 with fail
        have q1 : (strL A).size + (strL ml).size ≤ 9223372036854775807 := by omega
        have q2 : (strL A).size + (strL ml).size + (strL C).size ≤ 9223372036854775807 := by omega
        refine wp_region_quiet_below (by kernel_rfl) (by kernel_rfl) ?_
        repeat (first | go_big_quiet_skip | (go_big_quiet_want; go_big_quiet_op; go_big_quiet_on))
        refine wpQuiet_nil ?_; intro w2 hw2'; have hw2 := regrown_sees hw2'; clear hw2'
        rw [HT.out]
        have S4 := Lib.hid (S3.out.trans hw2)
        clear hw2 S3 q1 q2 hx1 hx2 hAz hCz HT hd hmin
        go_wp2_with fail
        refine (KL.out _ S4.out).mono ?_
        rintro e W5 ⟨v5, rfl, o5, s5⟩
        obtain ⟨xs, sx, er⟩ := R
        obtain ⟨a2, c2, hv5, _⟩ := o5.slice
        obtain ⟨q0, hq0⟩ : ∃ q0, q0 = xs.length := ⟨_, rfl⟩
        simp only at hv5 o5
        rw [← hq0] at hv5
        subst hv5
        have HQ0 := Lib.hid hq0
        have HO5 := Lib.hid o5
        have S5 := Lib.hid (S4.out.trans s5)
        have LX : Hid (LnAt (W5.alloc (.cells #[.slice a2 q0 c2, .bool sx] 27)) W5.heap.size (.slice a2 q0 c2) sx) := LnAt.new rfl
        have SX : Hid (Sees W5 (W5.alloc (.cells #[.slice a2 q0 c2, .bool sx] 27))) := (Sees.refl W5).alloc _
        clear o5 s5 KL hq0 S4
        go_upto_region 8 with fail
        refine wp_world fun W6 hW6 => ?_
        rw [← hW6] at LX SX
        have S6 := Lib.hid (S5.out.trans SX.out)
        have O6 := Lib.hid (HO5.out.sees SX.out).rd.all
        obtain ⟨x0, x1⟩ := LX.out.c
        clear hW6 S5 HO5 SX
        have HTR2 : er ≠ 0 → ((xs, sx, er) : List Cell × Bool × Int) = ([], false, 6) ∧ T ≠ S := HTR.out
        have HGD2 : er = 0 → lnOk xs = true ∧ mkL xs sx = T ∧ xs.length = (200 : Int).toNat ∧ ∀ c ∈ xs, c.Bd := HGD.out
        clear HTR HGD
        by_cases her : er = 0
        · obtain ⟨k1, k2, k3, k4⟩ := HGD2 her
          have hq2 : q0 = 200 := by rw [HQ0.out, k3]; rfl
          subst hq2
          subst her
          have KV2 : Hid (∀ W, Sees W6 W → Calls Tryz.prog 11 #[.agg #[.slice a2 200 c2, .bool sx]] W fun e w' => e = .returned (.bool true) ∧ Sees W w') := fun W hs => by
            rw [← k1]
            exact lineValid_any _ xs sx W (HW.out.sees (S6.out.trans hs)).t ((O6.out.sees hs).rdc.rd) (by rw [← HQ0.out]; omega)
          have KM2 : Hid (∀ W, Sees W6 W → Calls Tryz.prog 13 #[.agg #[.slice a2 200 c2, .bool sx]] W fun e w' => e = .returned (.string (strL T)) ∧ Sees W w') := fun W hs => by
            rw [← k2]
            exact marked_any _ xs sx _ W (O6.out.sees hs) k1 k4
          clear k1 k2 k3 k4 HGD2 HTR2
          go_wp2_with (guard_target = wpList _ _ _ ({ dst := some 81, op := _, type := _, pos := _, after := _, guard := _ } :: _) _ _; refine wpList_valG (by go_simp) (exec_load (v := .agg #[.slice a2 200 c2, .bool sx]) rfl rfl (run_loadLn LX.out)) (fun K hK => ?_); go_simp; refine hK _ _ ?_; clear hK K)
          refine (KV2.out _ (Sees.refl _)).mono ?_
          rintro e W7 ⟨rfl, s7⟩
          have S7 := Lib.hid (S6.out.trans s7)
          have L7 := Lib.hid (LX.out.sees s7)
          have S67 := Lib.hid s7
          clear s7 KV2 x0 x1 S6 LX O6
          go_wp2_with (guard_target = wpList _ _ _ ({ dst := some 85, op := _, type := _, pos := _, after := _, guard := _ } :: _) _ _; refine wpList_valG (by go_simp) (exec_load (v := .agg #[.slice a2 200 c2, .bool sx]) rfl rfl (run_loadLn L7.out)) (fun K hK => ?_); go_simp; refine hK _ _ ?_; clear hK K)
          refine (KM2.out _ S67.out).mono ?_
          rintro e W8 ⟨rfl, s8⟩
          have S8 := Lib.hid (S7.out.trans s8)
          clear s8 KM2 L7 S67 S7
          have heq : ((strL T).toList == (strL T).toList) = true := by simp
          go_wp2_with fail
          refine (KN.out _ S8.out).mono ?_
          rintro e Wk ⟨rfl, sk⟩
          have Sk := Lib.hid (S8.out.trans sk)
          go_wp2
          go_ret
          exact ⟨rfl, Sk.out⟩
        · obtain ⟨hRR, hTS⟩ := HTR2 her
          simp only [Prod.mk.injEq] at hRR
          obtain ⟨rfl, rfl, rfl⟩ := hRR
          obtain rfl : q0 = 0 := HQ0.out
          have hne2 : ((strL T).toList == (strL S).toList) = false := by rw [ByteArray.toList_eq, ByteArray.toList_eq, strL_list, strL_list]; simpa using hTS
          have KC : Hid (∀ W, Sees W6 W → Calls Tryz.prog 19 #[.agg #[.slice a2 0 c2, .bool false], .agg #[.slice none 0 0, .bool false]] W fun e w' => e = .returned (.bool true) ∧ Sees W w') := fun W hs => by
            have := lines48_any _ (fun _ => True) (.slice a2 0 c2) (.slice none 0 0) ⟨[], false⟩ ⟨[], false⟩ W (O6.out.sees hs) (El.Rd.nil _ _) (by simp)
            rwa [decide_eq_true rfl] at this
          clear HGD2 HTR2 hTS her
          go_wp2_with (guard_target = wpList _ _ _ ({ dst := some 64, op := _, type := _, pos := _, after := _, guard := _ } :: _) _ _; refine wpList_valG (by go_simp) (exec_load (v := .agg #[.slice a2 0 c2, .bool false]) rfl rfl (run_loadLn LX.out)) (fun K hK => ?_); go_simp; refine hK _ _ ?_; clear hK K)
          refine (KC.out _ (Sees.refl _)).mono ?_
          rintro e W8 ⟨rfl, s8⟩
          have S8 := Lib.hid (S6.out.trans s8)
          clear s8 KC LX S6 O6 x0 x1
          go_wp2_with fail
          refine (KN.out _ S8.out).mono ?_
          rintro e Wk ⟨rfl, sk⟩
          have Sk := Lib.hid (S8.out.trans sk)
          go_wp2
          go_ret
          exact ⟨rfl, Sk.out⟩
end Go.Proofs.YthcndmchlpohpaaGreatDoor
