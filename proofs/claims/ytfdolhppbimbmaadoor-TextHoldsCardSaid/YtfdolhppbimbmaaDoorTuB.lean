/- scrollbacklaw40.TextHolds (40): its walk. The tables hold what the program's text lays. -/
import Derived.Test.YtfdolhppbimbmaaDoorTuA
namespace Go.Proofs.YtfdolhppbimbmaaDoor
set_option linter.unusedVariables false
set_option linter.unusedSimpArgs false
open Go.RowKit
attribute [local go_sem] Oper.semAt_some

set_option maxHeartbeats 16000000 in
set_option maxRecDepth 100000 in
theorem textHolds_any (v : Value) (ls : List Ln) (s : ByteArray) (m : Int) (w : World) (ht : Tabs w) (ha : lnEl.Rd (fun x => x < w.heap.size) w v ls) :
    Calls Tryd.prog 14 #[v, .string s, .int .i64 m] w fun e w' => e = .returned (.bool true) ∧ Sees w w' := by
  obtain ⟨ao, n, cp, rfl⟩ : ∃ a n cp, v = .slice a n cp := by obtain ⟨a, c, rfl⟩ := ha.slice; exact ⟨_, _, _, rfl⟩
  have HT := Lib.hid ht
  have HA := Lib.hid ha
  have KN := Lib.hid (fun W (hs : Sees w W) => known_any W (ht.sees hs))
  have KS := Lib.hid (tsmall_any _ _ ls w ha)
  obtain ⟨B, hB⟩ : ∃ B, B = smB ls := ⟨_, rfl⟩
  rw [← hB] at KS
  have HB := Lib.hid hB
  clear ht ha hB
  go_enter Tryd.func14, Tryd.ntmps14
  go_wp2_with fail
  refine KS.out.mono ?_
  rintro e W1 ⟨rfl, hs⟩
  have HS1 := Lib.hid hs
  clear hs KS
  cases B
  case false =>
    go_wp2_with fail
    refine (KN.out _ HS1.out).mono ?_
    rintro e W2 ⟨rfl, hs⟩
    have HS2 := Lib.hid (HS1.out.trans hs)
    clear hs
    go_wp2
    go_ret
    exact ⟨rfl, HS2.out⟩
  rcases Bool.eq_false_or_eq_true (decide ((s.size : Int) > 100)) with g1 | g1
  · have g1' : 100 < s.size := by have := of_decide_eq_true g1; omega
    go_wp2_with fail
    refine (KN.out _ HS1.out).mono ?_
    rintro e W2 ⟨rfl, hs⟩
    have HS2 := Lib.hid (HS1.out.trans hs)
    clear hs
    go_wp2
    go_ret
    exact ⟨rfl, HS2.out⟩
  have g1' : ¬ (100 < s.size) := by have := of_decide_eq_false g1; omega
  rcases Bool.eq_false_or_eq_true (decide (m < 0)) with g2 | g2
  · go_wp2_with fail
    refine (KN.out _ HS1.out).mono ?_
    rintro e W2 ⟨rfl, hs⟩
    have HS2 := Lib.hid (HS1.out.trans hs)
    clear hs
    go_wp2
    go_ret
    exact ⟨rfl, HS2.out⟩
  rcases Bool.eq_false_or_eq_true (decide (m > 1000)) with g3 | g3
  · go_wp2_with fail
    refine (KN.out _ HS1.out).mono ?_
    rintro e W2 ⟨rfl, hs⟩
    have HS2 := Lib.hid (HS1.out.trans hs)
    clear hs
    go_wp2
    go_ret
    exact ⟨rfl, HS2.out⟩
  obtain ⟨hl1, hcell⟩ := smB_ok HB.out.symm
  have HCE := Lib.hid hcell
  have HC : Hid (∀ x ∈ ls, x.cells.length ≤ 1000000) := fun x hx => by have := hcell x hx; omega
  have hna : n = ls.length := HA.out.len
  have HN := Lib.hid hna
  have hn12 : n ≤ 12 := by omega
  have hm0 : 0 ≤ m := by have := of_decide_eq_false g2; omega
  have hm1 : m ≤ 1000 := by have := of_decide_eq_false g3; omega
  obtain ⟨T, hT⟩ : ∃ T, T = strL (fitS s m) := ⟨_, rfl⟩
  have hTs : T.size ≤ 1000000 := by rw [hT, strL_size]; have := fitS_len s m (by omega) hm0 hm1; omega
  have KF : Hid (∀ W, Sees w W → Calls Tryd.prog 61 #[.string s, .int .i64 m] W fun e w' => e = .returned (.tuple #[.string T, .int .i64 0]) ∧ Sees W w') := fun W hs => by
    rw [hT]; exact fit_ok s (by omega) m W (HT.out.sees hs) hm0 hm1
  have KW : Hid (∀ W, Sees w W → Calls Tryd.prog 62 #[.string T] W fun e w' => e = .returned (.int .i64 m) ∧ Sees W w') := fun W hs => by
    have q := twidth_any T hTs W (HT.out.sees hs)
    rw [hT, fit_width s m hm0, ← hT] at q
    exact q
  have KFT : Hid (∀ W, Sees w W → Calls Tryd.prog 63 #[.string T, .int .i64 m, .string T, .int .i64 0] W fun e w' => e = .returned (.bool true) ∧ Sees W w') := fun W hs => by
    refine fits_true T m T 0 W ?_
    have q := fit_ok T hTs m W (HT.out.sees hs) hm0 hm1
    rw [hT, fit_again s m hm0, ← hT] at q
    exact q
  have hmm : (m != m) = false := by simp
  clear hcell hna hl1 hT
  go_wp2_with fail
  refine (KF.out _ HS1.out).mono ?_
  rintro e W2 ⟨rfl, hs⟩
  have HS2 := Lib.hid (HS1.out.trans hs)
  clear hs KF
  go_wp2_with fail
  refine (KW.out _ HS2.out).mono ?_
  rintro e W3 ⟨rfl, hs⟩
  have HS3 := Lib.hid (HS2.out.trans hs)
  clear hs KW
  go_wp2_with fail
  refine (KFT.out _ HS3.out).mono ?_
  rintro e W4 ⟨rfl, hs⟩
  have HS4 := Lib.hid (HS3.out.trans hs)
  clear hs KFT HS1 HS2 HS3
  rcases Bool.eq_false_or_eq_true (vldL ls) with hok | hok
  case inr =>
    have KR := Lib.hid (trows_err _ _ ls W4 (HT.out.sees HS4.out) (HA.out.sees HS4.out) HC.out (by have := HN.out; omega) hok)
    go_wp2_with fail
    refine KR.out.mono ?_
    rintro e W5 ⟨rfl, hs⟩
    have HS5 := Lib.hid (HS4.out.trans hs)
    clear hs KR
    go_wp2_with fail
    refine (KN.out _ HS5.out).mono ?_
    rintro e W6 ⟨rfl, hs⟩
    have HS6 := Lib.hid (HS5.out.trans hs)
    clear hs
    go_wp2
    go_ret
    exact ⟨rfl, HS6.out⟩
  have HOK := Lib.hid hok
  have KR := Lib.hid (trows_any _ _ ls W4 (HT.out.sees HS4.out) (HA.out.sees HS4.out) HC.out (by have := HN.out; omega) hok)
  clear hok
  go_wp2_with fail
  refine KR.out.mono ?_
  rintro e W5 ⟨vt, rfl, hO, hs⟩
  obtain ⟨at_, ct, rfl, _⟩ := hO.slice
  have hlen : (ls.map rowTxt).length = n := by rw [List.length_map]; exact HN.out.symm
  rw [hlen] at hO ⊢
  have HO := Lib.hid hO.rd
  have HS5 := Lib.hid (HS4.out.trans hs)
  have hnn : ((n : Int) != (n : Int)) = false := by simp
  clear hs hO KR HS4 hlen g1 g2 g3
  go_wp2_with fail
  go_loopw [10, 11] (fun u i W => ∃ k : Nat, k ≤ n ∧ i = .int .i64 k ∧ u = .string (strL (Lib.join ((ls.take k).map (blkRow 0 999)) [10])) ∧ Sees W5 W) (fun _ i _ => n - (intOf i).toNat)
  case atStart => exact ⟨0, Nat.zero_le _, rfl, rfl, Sees.refl _⟩
  case round =>
    obtain ⟨k, hk, rfl, rfl, hS⟩ := hrel
    have HS := Lib.hid (HS5.out.trans hS)
    have HS' := Lib.hid hS
    clear hS
    have hjl := join_len ((ls.take k).map (blkRow 0 999)) 20000 (fun z hz => by
      obtain ⟨x, hx, rfl⟩ := List.mem_map.1 hz
      exact blkRow_len 0 999 x (HC.out x (List.mem_of_mem_take hx)) (by omega))
    rw [List.length_map, List.length_take] at hjl
    obtain ⟨X, hX⟩ : ∃ X, X = strL (Lib.join ((ls.take k).map (blkRow 0 999)) [10]) := ⟨_, rfl⟩
    rw [← hX]
    have hm : min k ls.length * (20000 + 1) ≤ 12 * 20001 := Nat.mul_le_mul_right _ (by omega)
    have hxs : X.size ≤ 300000 := by rw [hX, strL_size]; omega
    have HX := Lib.hid hX
    clear hX hjl hm
    by_cases hlt : k < n
    · obtain ⟨b1, o1, x, a1, m1, rfl, _, hl, _, y0, y1, y2⟩ := HA.out.line (k := k) hlt
      obtain ⟨b2, o2, t, rfl, ht2, z0⟩ := str_cell HO.out hlt
      have Hll := HC.out x (List.mem_iff_getElem?.2 ⟨k, hl⟩)
      have h40 := HCE.out x (List.mem_iff_getElem?.2 ⟨k, hl⟩)
      have hokx : lnOk x.cells = true := by
        have q := HOK.out
        unfold vldL at q
        rw [List.all_eq_true] at q
        exact q x (List.mem_iff_getElem?.2 ⟨k, hl⟩)
      have hte : t = rowTxt x := by rw [List.getElem?_map, hl] at ht2; exact (Option.some.inj ht2).symm
      obtain ⟨Y, hY⟩ : ∃ Y, Y = strL (blkRow 0 999 x) := ⟨_, rfl⟩
      have hts : t.size ≤ 100000000 := by
        rw [hte, rowTxt, strL_size]
        have q1 := txts_len (x.part true)
        have q2 := x.part_len true
        have q3 := Nat.mul_le_mul_right 16 q2
        omega
      have KT : Hid (∀ W, Calls Tryd.prog 65 #[.string t] W fun e w' => e = .returned (.string Y) ∧ Sees W w') := fun W => by
        rw [hY, blk_all hokx (by omega), ← hte]
        exact trimmed_any t hts W
      have hys : Y.size ≤ 20000 := by rw [hY, strL_size]; exact blkRow_len 0 999 x Hll (by omega)
      have HTK : Hid ((ls.take (k + 1)).map (blkRow 0 999) = (ls.take k).map (blkRow 0 999) ++ [blkRow 0 999 x]) := by unfold RowKit.Hid; rw [List.take_add_one, hl, List.map_append]; rfl
      have hjn : 0 < k → (ls.take k).map (blkRow 0 999) ≠ [] := fun h e => by
        have e2 := congrArg List.length e
        have e3 := (List.getElem?_eq_some_iff.1 hl).1
        rw [List.length_map, List.length_take, List.length_nil] at e2
        omega
      have z0' := HS'.out.cell z0
      have HNX : Hid (∃ Z : ByteArray, Z.size ≤ 300001 ∧ (if k = 0 then X else X ++ (⟨#[10]⟩ : ByteArray)) = Z ∧ Z ++ Y = strL (Lib.join ((ls.take (k + 1)).map (blkRow 0 999)) [10])) := by
        have hp1 : (⟨#[10]⟩ : ByteArray).size = 1 := rfl
        unfold RowKit.Hid
        rw [HTK.out]
        by_cases h0 : k = 0
        · subst h0
          refine ⟨X, by omega, by rw [if_pos rfl], ?_⟩
          rw [HX.out, hY, strL_app]
          simp [Lib.join]
        · refine ⟨X ++ (⟨#[10]⟩ : ByteArray), by rw [ByteArray.size_append]; omega, by rw [if_neg h0], ?_⟩
          rw [join_snoc _ _ (hjn (by omega)), HX.out, hY, show (⟨#[10]⟩ : ByteArray) = strL [10] from rfl, strL_app, strL_app, List.append_assoc]
      obtain ⟨Z, hzs, hZ, hZY⟩ := HNX.out
      have HZY := Lib.hid hZY
      have x0 := HS.out.cell y0
      have x1 := HS.out.cell y1
      have HY0 := Lib.hid y0
      have HY1 := Lib.hid y1
      have Y2 := Lib.hid y2
      have HOX := Lib.hid hokx
      obtain ⟨n1, hn1⟩ : ∃ n1, n1 = x.cells.length := ⟨_, rfl⟩
      have HN1 := Lib.hid hn1
      rw [← hn1] at x0 HY0 Y2
      have hn40 : n1 ≤ 40 := by omega
      obtain ⟨U, hU⟩ : ∃ U, U = usedN x.cells := ⟨_, rfl⟩
      have HU := Lib.hid hU
      have KU : Hid (∀ W, Sees w W → Calls Tryd.prog 20 #[.agg #[.slice a1 n1 m1, .bool x.soft]] W fun e w' => e = .returned (.int .i64 U) ∧ Sees W w') := fun W hs => by
        rw [hU]; exact used_any _ x _ W (Y2.out.sees hs) Hll
      have KO : Hid (∀ W (q : Nat), Sees w W → q ≤ n1 → Calls Tryd.prog 66 #[.agg #[.slice a1 n1 m1, .bool x.soft], .int .i64 q] W fun e w' => e = .returned (.tuple #[.int .i64 ((txts ((x.part true).take q)).length : Nat), .int .i64 0]) ∧ Sees W w') := fun W q hs hq => by
        have h := toffset_any _ x _ W (HT.out.sees hs) (Y2.out.sees hs) Hll q
        unfold offP at h
        rw [if_neg (by rw [HOX.out]; decide), if_neg (by have := HN1.out; omega)] at h
        exact h
      have KC : Hid (∀ W (q : Nat) c, Sees w W → x.cells[q]? = some c → q < U → c.txt ≠ [] → Calls Tryd.prog 68 #[.agg #[.slice a1 n1 m1, .bool x.soft], .int .i64 ((txts ((x.part true).take q)).length : Nat), .int .i64 q, .int .i64 0] W fun e w' => e = .returned (.bool true) ∧ Sees W w') := fun W q c hs hc hq ht => by
        have hc2 : (x.part true)[q]? = some c := by
          unfold Ln.part
          rw [if_pos rfl, List.getElem?_take, if_pos (by rw [← HU.out]; exact hq)]
          exact hc
        have e1 := colL_off (x.part true) q c hc2 ht
        have hlq := off_mono (x.part true) (i := q) (j := (x.part true).length) (by have := (List.getElem?_eq_some_iff.1 hc2).1; omega)
        rw [List.take_length] at hlq
        have hbig := txts_len (x.part true)
        have hpl := x.part_len true
        have hb16 := Nat.mul_le_mul_right 16 hpl
        refine columns_true _ x.soft _ (q : Int) 0 W (fun W' hs' => ?_) rfl
        have h := tcolumn_any _ x _ W' (HT.out.sees (hs.trans hs')) (Y2.out.sees (hs.trans hs')) Hll ((txts ((x.part true).take q)).length : Nat) (by omega) (by omega)
        unfold colP at h
        rw [if_neg (by rw [HOX.out]; decide), if_neg (by omega), e1] at h
        exact h
      have HLX := Lib.hid hl
      clear hl y0 y1 y2 hte hY hts hjn hZY HNX hokx ht2 h40 hn1 hU
      go_upto_if 74 with fail
      go_cut [10] from 74 to 76 (fun u10 wx => u10 = .string Z ∧ wx = wr)
      case first =>
        by_cases h0 : k = 0
        · rw [if_pos h0] at hZ
          have u1 : ¬ ((0 : Int) < (k : Int)) := by omega
          have u2 : decide ((k : Int) > 0) = false := decide_eq_false u1
          have u3 : ¬ (0 < k) := by omega
          clear h0
          go_wp2_with fail
          go_meet
          exact ⟨by first | rfl | rw [hZ], rfl⟩
        · rw [if_neg h0] at hZ
          have u1 : (0 : Int) < (k : Int) := by omega
          have u2 : decide ((k : Int) > 0) = true := decide_eq_true u1
          have u3 : 0 < k := by omega
          clear h0
          go_wp2_with fail
          go_meet
          exact ⟨rfl, rfl⟩
      case rest =>
        obtain ⟨rfl, rfl⟩ := hcut
        clear hZ
        go_wp2_with fail
        refine (KT.out _).mono ?_
        rintro e W6 ⟨rfl, hs⟩
        have HS6 := Lib.hid (HS.out.trans hs)
        have HS6' := Lib.hid (HS'.out.trans hs)
        clear hs x0 x1 z0 z0' KT HS HS'
        go_wp2_with fail
        go_loopw [12, 13] (fun lv qq W => ∃ (q : Nat) (L : Nat), q ≤ n1 ∧ qq = .int .i64 q ∧ lv = .int .i64 L ∧ Hid (∀ j, q ≤ j → L ≤ (txts ((x.part true).take j)).length) ∧ Sees W6 W) (fun _ qq _ => n1 - (intOf qq).toNat)
        case atStart => exact ⟨0, 0, Nat.zero_le _, rfl, rfl, (fun j _ => Nat.zero_le _), Sees.refl _⟩
        case round =>
          obtain ⟨q, L, hq, rfl, rfl, hL, hS⟩ := hrel
          have HS7 := Lib.hid (HS6.out.trans hS)
          have HS7' := Lib.hid hS
          clear hS
          have x0 := HS7.out.cell HY0.out
          have x1 := HS7.out.cell HY1.out
          by_cases hqn : q < n1
          · obtain ⟨b5, o5, c, rfl, _, hc, hat⟩ := Y2.out.cell hqn
            obtain ⟨A, hA⟩ : ∃ A, A = (txts ((x.part true).take q)).length := ⟨_, rfl⟩
            have HAE := Lib.hid hA
            have KOq := Lib.hid (fun W hs => KO.out W q hs (Nat.le_of_lt hqn))
            have KCq := Lib.hid (fun W hs => KC.out W q c hs hc)
            rw [← hA] at KOq KCq
            have hLA : L ≤ A := by rw [hA]; exact hL.out q (Nat.le_refl _)
            have hL2 : Hid (∀ j, q + 1 ≤ j → A ≤ (txts ((x.part true).take j)).length) := fun j hj => by rw [hA]; exact off_mono _ (by omega)
            have v1 : decide ((A : Int) < (L : Int)) = false := decide_eq_false (by omega)
            have v2 : ¬ ((A : Int) < (L : Int)) := by omega
            have v3 : ¬ (A < L) := by omega
            have HCC := Lib.hid hc
            have HAT := Lib.hid hat
            clear hA hc hat hL
            go_wp2_with fail
            refine (KOq.out _ HS7.out).mono ?_
            rintro e W8 ⟨rfl, hs⟩
            have HS8 := Lib.hid (HS7.out.trans hs)
            have HS8' := Lib.hid (HS7'.out.trans hs)
            clear hs x0 x1 KOq
            have x0 := HS8.out.cell HY0.out
            have x1 := HS8.out.cell HY1.out
            go_wp2_with fail
            refine (KU.out _ HS8.out).mono ?_
            rintro e W9 ⟨rfl, hs⟩
            have HS9 := Lib.hid (HS8.out.trans hs)
            have HS9' := Lib.hid (HS8'.out.trans hs)
            clear hs x0 x1 v1 v2 v3 HS7 HS7'
            rcases Nat.lt_or_ge q U with hqu | hqu
            · have u1 : decide ((q : Int) ≥ (U : Int)) = false := decide_eq_false (by omega)
              have u2 : ¬ ((U : Int) ≤ (q : Int)) := by omega
              have u3 : ¬ (U ≤ q) := by omega
              have x0 := HS9.out.cell HY0.out
              have x1 := HS9.out.cell HY1.out
              obtain ⟨f0, f1, f2, f3, f4, f5, f6, f7, f8, f9, f10, f11, f12, f13, f14, f15⟩ := (HAT.out.sees HS9.out).all
              obtain ⟨V, hV⟩ : ∃ V : ByteArray, V = ⟨c.txt.toArray⟩ := ⟨_, rfl⟩
              have KX : Hid (∀ W, Calls Tryd.prog 67 #[.agg #[.int .i32 c.rune, .int .i32 c.m0, .int .i32 c.m1, .int .i32 c.m2, .int .i64 c.width, .int .i64 c.f0, .int .u8 c.f1, .int .u8 c.f2, .int .u8 c.f3, .int .u8 c.f4, .int .i64 c.b0, .int .u8 c.b1, .int .u8 c.b2, .int .u8 c.b3, .int .u8 c.b4, .int .u8 c.flags]] W fun e w' => e = .returned (.string V) ∧ Sees W w') := fun W => by rw [hV]; exact ctext_any c W
              have HV := Lib.hid hV
              have HQU := Lib.hid hqu
              clear hV hqu
              go_wp2_with fail
              refine (KX.out _).mono ?_
              rintro e W10 ⟨rfl, hs⟩
              have HS10 := Lib.hid (HS9.out.trans hs)
              have HS10' := Lib.hid (HS9'.out.trans hs)
              clear hs x0 x1 f0 f1 f2 f3 f4 f5 f6 f7 f8 f9 f10 f11 f12 f13 f14 f15 KX
              have x0 := HS10.out.cell HY0.out
              have x1 := HS10.out.cell HY1.out
              rcases Bool.eq_false_or_eq_true V.toList.isEmpty with e1 | e1
              · go_wp2_with fail
                exact ⟨⟨q + 1, A, by omega, by go_num, rfl, hL2, HS10'.out⟩, by simp [intOf]; omega⟩
              · have hne : c.txt ≠ [] := fun e => by
                  rw [HV.out, Lib.toList_data, e] at e1
                  cases e1
                have KY := Lib.hid (fun W hs => KCq.out W hs HQU.out hne)
                clear hne
                go_wp2_with fail
                refine (KY.out _ HS10.out).mono ?_
                rintro e W11 ⟨rfl, hs⟩
                have HS11' := Lib.hid (HS10'.out.trans hs)
                clear hs x0 x1
                go_wp2_with fail
                exact ⟨⟨q + 1, A, by omega, by go_num, rfl, hL2, HS11'.out⟩, by simp [intOf]; omega⟩
            · have u1 : decide ((q : Int) ≥ (U : Int)) = true := decide_eq_true (by omega)
              have u2 : (U : Int) ≤ (q : Int) := by omega
              have u3 : U ≤ q := by omega
              clear hqu
              go_wp2_with fail
              exact ⟨⟨q + 1, A, by omega, by go_num, rfl, hL2, HS9'.out⟩, by simp [intOf]; omega⟩
          · obtain rfl : q = n1 := by omega
            go_wp2_with fail
            exact ⟨⟨k + 1, by omega, by go_num, by rw [← HZY.out], HS6'.out.trans HS7'.out⟩, by simp [intOf]; omega⟩
    · obtain rfl : n = k := by omega
      have HSa := Lib.hid HS.out
      clear hk hlt HS HS'
      rcases Nat.eq_zero_or_pos n with h0 | h0
      · have u1 : ((n : Int) == 0) = true := by rw [beq_iff_eq]; omega
        clear h0
        go_wp2_with fail
        refine (KN.out _ HSa.out).mono ?_
        rintro e Z ⟨rfl, hs⟩
        have HSq := Lib.hid (HSa.out.trans hs)
        clear hs
        go_wp2
        go_ret
        exact ⟨rfl, HSq.out⟩
      · have u1 : ((n : Int) == 0) = false := by rw [beq_eq_false_iff_ne]; omega
        have hw1 : IntKind.i64.wrap ((n : Int) - 1) = ((n - 1 : Nat) : Int) := by rw [show (n : Int) - 1 = ((n - 1 : Nat) : Int) by omega]; exact IntWalk.i64_in _ (by omega)
        have KB : Hid (∀ W, Sees w W → Calls Tryd.prog 69 #[.slice ao n cp, .int .i64 0, .int .i64 0, .int .i64 ((n - 1 : Nat) : Int), .int .i64 999, .string X, .int .i64 0] W fun e w' => e = .returned (.bool true) ∧ Sees W w') := fun W hs => by
          have hX : X = strL (blkL ls 0 0 (n - 1) 999) := by
            rw [HX.out]
            unfold blkL
            rw [List.drop_zero, show n - 1 + 1 - 0 = n by omega]
          rw [hX]
          exact blocks_true _ 0 0 ((n - 1 : Nat) : Int) 999 _ 0 W (tblock_ok _ _ ls W (HT.out.sees hs) (HA.out.sees hs) HC.out (by have := HN.out; omega) 0 0 (n - 1) 999 HOK.out (Nat.zero_le _) (by have := HN.out; omega) (by omega) (by omega))
        obtain ⟨n2, hn2⟩ : ∃ n2, n2 = n - 1 := ⟨_, rfl⟩
        rw [← hn2] at hw1 KB
        have hw2 : (n : Int) - 1 = (n2 : Int) := by omega
        clear h0 hn2
        go_wp2_with fail
        refine (KB.out _ HSa.out).mono ?_
        rintro e Z1 ⟨rfl, hs⟩
        have HSb := Lib.hid (HSa.out.trans hs)
        clear hs
        go_wp2_with fail
        refine (KN.out _ HSb.out).mono ?_
        rintro e Z ⟨rfl, hs⟩
        have HSq := Lib.hid (HSb.out.trans hs)
        clear hs
        go_wp2
        go_ret
        exact ⟨rfl, HSq.out⟩
end Go.Proofs.YtfdolhppbimbmaaDoor
