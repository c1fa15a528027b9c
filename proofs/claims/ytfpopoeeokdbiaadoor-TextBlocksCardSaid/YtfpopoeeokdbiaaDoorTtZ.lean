/- scrollbacklaw40.TextBlocks (40): its walk. The tables hold what the program's text lays. -/
import Derived.Test.YtfpopoeeokdbiaaDoorTtY
namespace Go.Proofs.YtfpopoeeokdbiaaDoor
set_option linter.unusedVariables false
set_option linter.unusedSimpArgs false
open Go.RowKit
attribute [local go_sem] Oper.semAt_some

theorem join_snoc : ∀ (xs : List (List UInt8)) (y : List UInt8), xs ≠ [] → Lib.join (xs ++ [y]) [10] = Lib.join xs [10] ++ ([10] ++ y)
  | [], _, h => absurd rfl h
  | [x], y, _ => by simp [Lib.join, List.intercalate]
  | x :: z :: r, y, _ => by
    have h := join_snoc (z :: r) y (by simp)
    have e : ∀ (a b : List UInt8) (q : List (List UInt8)), Lib.join (a :: b :: q) [10] = a ++ [10] ++ Lib.join (b :: q) [10] := fun a b q => by simp [Lib.join, List.intercalate]
    rw [List.cons_append, List.cons_append, e, e, ← List.cons_append, h]
    simp [List.append_assoc]
set_option maxHeartbeats 8000000 in
set_option maxRecDepth 100000 in
theorem textBlocks_any (v : Value) (ls : List Ln) (t l b r : Int) (w : World) (ht : Tabs w) (ha : lnEl.Rd (fun x => x < w.heap.size) w v ls) :
    Calls Tryd.prog 3 #[v, .int .i64 t, .int .i64 l, .int .i64 b, .int .i64 r] w fun e w' => e = .returned (.bool true) ∧ Sees w w' := by
  obtain ⟨ao, n, cp, rfl⟩ : ∃ a n cp, v = .slice a n cp := by obtain ⟨a, c, rfl⟩ := ha.slice; exact ⟨_, _, _, rfl⟩
  have HT := Lib.hid ht
  have HA := Lib.hid ha
  have KN := Lib.hid (fun W (hs : Sees w W) => known_any W (ht.sees hs))
  have KS := Lib.hid (tsmall_any _ _ ls w ha)
  obtain ⟨B, hB⟩ : ∃ B, B = smB ls := ⟨_, rfl⟩
  rw [← hB] at KS
  have HB := Lib.hid hB
  clear ht ha hB
  go_enter Tryd.func3, Tryd.ntmps3
  go_wp2_with fail
  refine KS.out.mono ?_
  rintro e W1 ⟨rfl, s⟩
  have HS1 := Lib.hid s
  clear s KS
  cases B
  case false =>
    go_wp2_with fail
    refine (KN.out _ HS1.out).mono ?_
    rintro e W2 ⟨rfl, s⟩
    have HS2 := Lib.hid (HS1.out.trans s)
    clear s
    go_wp2
    go_ret
    exact ⟨rfl, HS2.out⟩
  obtain ⟨hl1, hcell⟩ := smB_ok HB.out.symm
  have HC : Hid (∀ x ∈ ls, x.cells.length ≤ 1000000) := fun x hx => by have := hcell x hx; omega
  have hna : n = ls.length := HA.out.len
  have HN := Lib.hid hna
  have hn12 : n ≤ 12 := by omega
  clear hcell hna hl1
  go_wp2_with fail
  go_loopw [11, 12] (fun u i W => ∃ k : Nat, k ≤ n ∧ i = .int .i64 k ∧ Hid (∀ (j : Nat) x, j < k → ls[j]? = some x → lnOk x.cells = true) ∧ sEl.Own (fun b => w.heap.size ≤ b) W u ((ls.take k).map rowTxt) ∧ Sees w W) (fun _ i _ => n - (intOf i).toNat)
  case atStart => exact ⟨0, Nat.zero_le _, rfl, (fun j x h => by omega), El.Own.nil _ _, HS1.out⟩
  case round =>
    obtain ⟨k, hk, rfl, hV, hO, hS⟩ := hrel
    have HS := Lib.hid hS
    have HO := Lib.hid hO
    clear hS hO HS1
    by_cases hlt : k < n
    · obtain ⟨b1, o1, x, a1, m1, rfl, _, hl, _, y0, y1, y2⟩ := HA.out.line (k := k) hlt
      have x0 := HS.out.cell y0
      have x1 := HS.out.cell y1
      have Hll := HC.out x (List.mem_iff_getElem?.2 ⟨k, hl⟩)
      have Hlk := Lib.hid hl
      have KV : Hid (∀ W, Sees w W → Calls Tryd.prog 9 #[.agg #[.slice a1 x.cells.length m1, .bool x.soft]] W fun e w' => e = .returned (.bool (lnOk x.cells)) ∧ Sees W w') := fun W hs => lineValid_any _ x.cells x.soft W (HT.out.sees hs) (RdCells.sees y2.rdCells hs) Hll
      have KT : Hid (∀ W, Sees w W → Calls Tryd.prog 12 #[.agg #[.slice a1 x.cells.length m1, .bool x.soft]] W fun e w' => e = .returned (.string (rowTxt x)) ∧ Sees W w') := fun W hs => lineText_any _ x _ W (y2.sees hs) Hll
      have HTK : Hid ((ls.take (k + 1)).map rowTxt = (ls.take k).map rowTxt ++ [rowTxt x]) := by unfold RowKit.Hid; rw [List.take_add_one, hl, List.map_append]; rfl
      have HLL : Hid (((ls.take k).map rowTxt).length + [rowTxt x].length ≤ 100000000) := by unfold RowKit.Hid; rw [List.length_map, List.length_take, List.length_singleton]; omega
      obtain ⟨n1, hn1⟩ : ∃ n1, n1 = x.cells.length := ⟨_, rfl⟩
      rw [← hn1] at x0 KT KV
      obtain ⟨X, hX⟩ : ∃ X, X = rowTxt x := ⟨_, rfl⟩
      rw [← hX] at KT HTK HLL
      obtain ⟨ok, hok⟩ : ∃ ok, ok = lnOk x.cells := ⟨_, rfl⟩
      rw [← hok] at KV
      have HOK := Lib.hid hok
      clear hl y0 y1 y2 hn1 hX hok
      go_wp2_with fail
      refine (KV.out _ HS.out).mono ?_
      rintro e W2 ⟨rfl, hs⟩
      have HSB := Lib.hid hs
      have HS2 := Lib.hid (HS.out.trans hs)
      clear hs
      cases ok
      case false =>
        have HF : Hid (vldL ls = false) := by
          unfold RowKit.Hid vldL
          rw [List.all_eq_false]
          exact ⟨x, List.mem_iff_getElem?.2 ⟨k, Hlk.out⟩, by rw [← HOK.out]; decide⟩
        have hvls : lnEl.Rd (fun x => x < w.heap.size) w (.slice (some ⟨b1, o1, none⟩) n cp) ls := HA.out
        have HVL := Lib.hid hvls
        clear hvls x0 x1
        go_wp2_with fail
        refine (rows_true _ (.slice none 0 0) [] 2 (fun _ => True) W2 (El.Rd.empty _ _ _ _) (by decide) ((trows_err _ _ ls W2 (HT.out.sees HS2.out) (HVL.out.sees HS2.out) HC.out (by have := HN.out; omega) HF.out).mono (by
          rintro e w' ⟨rfl, h⟩
          exact ⟨_, rfl, El.Rd.empty _ _ _ _, h⟩))).mono ?_
        rintro e W3 ⟨rfl, hs⟩
        have HS3 := Lib.hid (HS2.out.trans hs)
        clear hs
        go_wp2_with fail
        refine (blocks_true _ t l b r _ 2 W3 (tblock_err _ _ ls W3 (HT.out.sees HS3.out) (HVL.out.sees HS3.out) HC.out (by have := HN.out; omega) t l b r HF.out)).mono ?_
        rintro e W4 ⟨rfl, hs⟩
        have HS4 := Lib.hid (HS3.out.trans hs)
        clear hs
        go_wp2_with fail
        refine (KN.out _ HS4.out).mono ?_
        rintro e W5 ⟨rfl, hs⟩
        have HS5 := Lib.hid (HS4.out.trans hs)
        clear hs
        go_wp2
        go_ret
        exact ⟨rfl, HS5.out⟩
      case true =>
        have x0 := HSB.out.cell x0
        have x1 := HSB.out.cell x1
        have HO1 := Lib.hid (HO.out.sees HSB.out)
        go_wp2_with fail
        refine (KT.out _ HS2.out).mono ?_
        rintro e W3 ⟨rfl, hs⟩
        have sB : Sees W2 (W3.alloc (.cells #[.string X] 9)) := hs.alloc _
        have HS3 := Lib.hid (HS2.out.trans sB)
        have HO2 := Lib.hid (HO1.out.sees sB).cut
        have HR := Lib.hid (heap_alloc_new W3 (.cells #[.string X] 9))
        have HWB := Lib.hid (HS2.out.trans sB).size
        clear hs x0 x1 sB KT KV HO HO1
        go_wp2_with (at_builtin; refine El.wpList_append_own (v := u11) typedS rfl (.tmp 45) (.tmp 51) rfl (by go_simp) HO2.out ⟨W3.heap.size, 0, none⟩ 1 1 (by go_simp) [.string X] [X] (fun _ => False) (El.ownIn_one (E := sEl) rfl) rfl (fun j u hu => El.row_cells HR.out j u hu) (fun b hb => hb.2) (fun b hb => hb.elim) HLL.out ?_; intro v7 w7 ho7 hk7; have HO7 := Lib.hid ho7; have HK7 := Lib.hid hk7; clear ho7 hk7)
        refine ⟨⟨k + 1, by omega, by go_num, ?_, ?_, El.keep_new HS3.out HK7.out (fun g hg => (HO2.out.base hg).1.1)⟩, by simp [intOf]; omega⟩
        · intro j y hj hy
          rcases Nat.lt_or_ge j k with h | h
          · exact hV.out j y h hy
          · obtain rfl : j = k := by omega
            rw [Hlk.out] at hy; cases hy; exact HOK.out.symm
        · rw [HTK.out]
          refine HO7.out.mono fun b _ hb => ?_
          have := HWB.out
          rcases hb with hb | hb | hb
          · exact hb.1
          · exact hb.elim
          · omega
    · obtain rfl : n = k := by omega
      have HVT : Hid (vldL ls = true) := by
        unfold RowKit.Hid vldL
        rw [List.all_eq_true]
        intro x hx
        obtain ⟨j, hj⟩ := List.mem_iff_getElem?.1 hx
        exact hV.out j x (by have := HN.out; have := (List.getElem?_eq_some_iff.1 hj).1; omega) hj
      have hfin := HO.out
      rw [HN.out, List.take_length] at hfin
      have KRW := Lib.hid (rows_true _ _ (ls.map rowTxt) 0 _ wr hfin.rd (by rw [List.length_map]; have := HN.out; omega) ((trows_any _ _ ls wr (HT.out.sees HS.out) (HA.out.sees HS.out) HC.out (by have := HN.out; omega) HVT.out).mono (by
          rintro e w' ⟨v', rfl, h1, h2⟩
          exact ⟨v', rfl, h1.rd.mono (fun _ _ _ => trivial), h2⟩)))
      clear hfin HO hV
      go_wp2_with fail
      refine KRW.out.mono ?_
      rintro e W2 ⟨rfl, hs⟩
      have HS2 := Lib.hid (HS.out.trans hs)
      clear hs KRW
      have KB3 : Hid (∀ W, Sees w W → (t < 0 ∨ (n : Int) ≤ t ∨ b < 0 ∨ (n : Int) ≤ b ∨ l < 0 ∨ 1000 ≤ l ∨ r < 0 ∨ 1000 ≤ r) → Calls Tryd.prog 11 #[.slice ao n cp, .int .i64 t, .int .i64 l, .int .i64 b, .int .i64 r, .string ⟨#[]⟩, .int .i64 3] W fun e w' => e = .returned (.bool true) ∧ Sees W w') := fun W hs h =>
        blocks_true _ t l b r _ 3 W (tblock_range _ _ ls W (HT.out.sees hs) (HA.out.sees hs) HC.out (by have := HN.out; omega) t l b r HVT.out (by rw [← HN.out]; exact h))
      rcases Bool.eq_false_or_eq_true (decide (t < 0)) with g1 | g1
      · go_wp2_with fail
        refine (KB3.out _ HS2.out (.inl (of_decide_eq_true g1))).mono ?_
        rintro e W3 ⟨rfl, hs⟩
        have HS3 := Lib.hid (HS2.out.trans hs)
        clear hs
        go_wp2_with fail
        refine (KN.out _ HS3.out).mono ?_
        rintro e Z ⟨rfl, hs⟩
        have HSq := Lib.hid (HS3.out.trans hs)
        clear hs
        go_wp2
        go_ret
        exact ⟨rfl, HSq.out⟩
      rcases Bool.eq_false_or_eq_true (decide (t ≥ (n : Int))) with g2 | g2
      · go_wp2_with fail
        refine (KB3.out _ HS2.out (.inr (.inl (of_decide_eq_true g2)))).mono ?_
        rintro e W3 ⟨rfl, hs⟩
        have HS3 := Lib.hid (HS2.out.trans hs)
        clear hs
        go_wp2_with fail
        refine (KN.out _ HS3.out).mono ?_
        rintro e Z ⟨rfl, hs⟩
        have HSq := Lib.hid (HS3.out.trans hs)
        clear hs
        go_wp2
        go_ret
        exact ⟨rfl, HSq.out⟩
      rcases Bool.eq_false_or_eq_true (decide (b < 0)) with g3 | g3
      · go_wp2_with fail
        refine (KB3.out _ HS2.out (.inr (.inr (.inl (of_decide_eq_true g3))))).mono ?_
        rintro e W3 ⟨rfl, hs⟩
        have HS3 := Lib.hid (HS2.out.trans hs)
        clear hs
        go_wp2_with fail
        refine (KN.out _ HS3.out).mono ?_
        rintro e Z ⟨rfl, hs⟩
        have HSq := Lib.hid (HS3.out.trans hs)
        clear hs
        go_wp2
        go_ret
        exact ⟨rfl, HSq.out⟩
      rcases Bool.eq_false_or_eq_true (decide (b ≥ (n : Int))) with g4 | g4
      · go_wp2_with fail
        refine (KB3.out _ HS2.out (.inr (.inr (.inr (.inl (of_decide_eq_true g4)))))).mono ?_
        rintro e W3 ⟨rfl, hs⟩
        have HS3 := Lib.hid (HS2.out.trans hs)
        clear hs
        go_wp2_with fail
        refine (KN.out _ HS3.out).mono ?_
        rintro e Z ⟨rfl, hs⟩
        have HSq := Lib.hid (HS3.out.trans hs)
        clear hs
        go_wp2
        go_ret
        exact ⟨rfl, HSq.out⟩
      rcases Bool.eq_false_or_eq_true (decide (l < 0)) with g5 | g5
      · go_wp2_with fail
        refine (KB3.out _ HS2.out (.inr (.inr (.inr (.inr (.inl (of_decide_eq_true g5))))))).mono ?_
        rintro e W3 ⟨rfl, hs⟩
        have HS3 := Lib.hid (HS2.out.trans hs)
        clear hs
        go_wp2_with fail
        refine (KN.out _ HS3.out).mono ?_
        rintro e Z ⟨rfl, hs⟩
        have HSq := Lib.hid (HS3.out.trans hs)
        clear hs
        go_wp2
        go_ret
        exact ⟨rfl, HSq.out⟩
      rcases Bool.eq_false_or_eq_true (decide (l > 999)) with g6 | g6
      · go_wp2_with fail
        refine (KB3.out _ HS2.out (by have := of_decide_eq_true g6; omega)).mono ?_
        rintro e W3 ⟨rfl, hs⟩
        have HS3 := Lib.hid (HS2.out.trans hs)
        clear hs
        go_wp2_with fail
        refine (KN.out _ HS3.out).mono ?_
        rintro e Z ⟨rfl, hs⟩
        have HSq := Lib.hid (HS3.out.trans hs)
        clear hs
        go_wp2
        go_ret
        exact ⟨rfl, HSq.out⟩
      rcases Bool.eq_false_or_eq_true (decide (r < 0)) with g7 | g7
      · go_wp2_with fail
        refine (KB3.out _ HS2.out (by have := of_decide_eq_true g7; omega)).mono ?_
        rintro e W3 ⟨rfl, hs⟩
        have HS3 := Lib.hid (HS2.out.trans hs)
        clear hs
        go_wp2_with fail
        refine (KN.out _ HS3.out).mono ?_
        rintro e Z ⟨rfl, hs⟩
        have HSq := Lib.hid (HS3.out.trans hs)
        clear hs
        go_wp2
        go_ret
        exact ⟨rfl, HSq.out⟩
      rcases Bool.eq_false_or_eq_true (decide (r > 999)) with g8 | g8
      · go_wp2_with fail
        refine (KB3.out _ HS2.out (by have := of_decide_eq_true g8; omega)).mono ?_
        rintro e W3 ⟨rfl, hs⟩
        have HS3 := Lib.hid (HS2.out.trans hs)
        clear hs
        go_wp2_with fail
        refine (KN.out _ HS3.out).mono ?_
        rintro e Z ⟨rfl, hs⟩
        have HSq := Lib.hid (HS3.out.trans hs)
        clear hs
        go_wp2
        go_ret
        exact ⟨rfl, HSq.out⟩
      have k1 := of_decide_eq_false g1
      have k2 := of_decide_eq_false g2
      have k3 := of_decide_eq_false g3
      have k4 := of_decide_eq_false g4
      have k5 := of_decide_eq_false g5
      have k6 := of_decide_eq_false g6
      have k7 := of_decide_eq_false g7
      have k8 := of_decide_eq_false g8
      obtain ⟨t, rfl⟩ : ∃ q : Nat, t = q := ⟨t.toNat, by omega⟩
      obtain ⟨l, rfl⟩ : ∃ q : Nat, l = q := ⟨l.toNat, by omega⟩
      obtain ⟨b, rfl⟩ : ∃ q : Nat, b = q := ⟨b.toNat, by omega⟩
      obtain ⟨r, rfl⟩ : ∃ q : Nat, r = q := ⟨r.toNat, by omega⟩
      have m2 : ¬ ((n : Int) ≤ (t : Int)) := by omega
      have m3 : ¬ (n ≤ t) := by omega
      have m4 : ¬ ((n : Int) ≤ (b : Int)) := by omega
      have m5 : ¬ (n ≤ b) := by omega
      have HBD : Hid (t < n ∧ b < n ∧ l < 1000 ∧ r < 1000) := by unfold RowKit.Hid; omega
      have KB13 : Hid (∀ W, Sees w W → (b < t ∨ r < l) → Calls Tryd.prog 11 #[.slice ao n cp, .int .i64 t, .int .i64 l, .int .i64 b, .int .i64 r, .string ⟨#[]⟩, .int .i64 13] W fun e w' => e = .returned (.bool true) ∧ Sees W w') := fun W hs h =>
        blocks_true _ t l b r _ 13 W (tblock_order _ _ ls W (HT.out.sees hs) (HA.out.sees hs) HC.out (by have := HN.out; omega) t l b r HVT.out (by have := HN.out; have := HBD.out; omega) (by have := HN.out; have := HBD.out; omega) HBD.out.2.2.1 HBD.out.2.2.2 h)
      clear KB3
      rcases Bool.eq_false_or_eq_true (decide ((t : Int) > (b : Int))) with c1 | c1
      · have c2 : (b : Int) < (t : Int) := of_decide_eq_true c1
        have c3 : b < t := by omega
        go_wp2_with fail
        refine (KB13.out _ HS2.out (.inl (by omega))).mono ?_
        rintro e W3 ⟨rfl, hs⟩
        have HS3 := Lib.hid (HS2.out.trans hs)
        clear hs
        go_wp2_with fail
        refine (KN.out _ HS3.out).mono ?_
        rintro e Z ⟨rfl, hs⟩
        have HSq := Lib.hid (HS3.out.trans hs)
        clear hs
        go_wp2
        go_ret
        exact ⟨rfl, HSq.out⟩
      have c2 : ¬ ((b : Int) < (t : Int)) := of_decide_eq_false c1
      have c3 : ¬ (b < t) := by omega
      rcases Bool.eq_false_or_eq_true (decide ((l : Int) > (r : Int))) with d1 | d1
      · have d2 : (r : Int) < (l : Int) := of_decide_eq_true d1
        have d3 : r < l := by omega
        go_wp2_with fail
        refine (KB13.out _ HS2.out (.inr (by omega))).mono ?_
        rintro e W3 ⟨rfl, hs⟩
        have HS3 := Lib.hid (HS2.out.trans hs)
        clear hs
        go_wp2_with fail
        refine (KN.out _ HS3.out).mono ?_
        rintro e Z ⟨rfl, hs⟩
        have HSq := Lib.hid (HS3.out.trans hs)
        clear hs
        go_wp2
        go_ret
        exact ⟨rfl, HSq.out⟩
      have d2 : ¬ ((r : Int) < (l : Int)) := of_decide_eq_false d1
      have d3 : ¬ (r < l) := by omega
      have HTB : Hid (t ≤ b ∧ l ≤ r) := by unfold RowKit.Hid; omega
      have KB0 : Hid (∀ W, Sees w W → Calls Tryd.prog 11 #[.slice ao n cp, .int .i64 t, .int .i64 l, .int .i64 b, .int .i64 r, .string (strL (blkL ls t l b r)), .int .i64 0] W fun e w' => e = .returned (.bool true) ∧ Sees W w') := fun W hs =>
        blocks_true _ t l b r _ 0 W (tblock_ok _ _ ls W (HT.out.sees hs) (HA.out.sees hs) HC.out (by have := HN.out; omega) t l b r HVT.out HTB.out.1 (by have := HN.out; have := HBD.out; omega) HTB.out.2 HBD.out.2.2.2)
      clear KB13
      go_wp2_with fail
      clear g1 g2 g3 g4 g5 g6 g7 g8 k1 k2 k3 k4 k5 k6 k7 k8 m2 m3 m4 m5 c1 c2 c3 d1 d2 d3
      go_loopw [14, 15] (fun ou i W => ∃ j : Nat, j ≤ b + 1 - t ∧ i = .int .i64 ((t + j : Nat) : Int) ∧ ou = .string (strL (Lib.join (((ls.drop t).take j).map (blkRow l r)) [10])) ∧ Sees w W) (fun _ i _ => b + 1 - (intOf i).toNat)
      case atStart => exact ⟨0, Nat.zero_le _, rfl, rfl, HS2.out⟩
      case round =>
        obtain ⟨j, hj, rfl, rfl, hS⟩ := hrel
        have HS3 := Lib.hid hS
        clear hS
        have htb := HTB.out
        have hbd := HBD.out
        have hjl := join_len (((ls.drop t).take j).map (blkRow l r)) 20000 (fun z hz => by
          obtain ⟨x, hx, rfl⟩ := List.mem_map.1 hz
          exact blkRow_len l r x (HC.out x (List.mem_of_mem_drop (List.mem_of_mem_take hx))) (by omega))
        rw [List.length_map, List.length_take] at hjl
        obtain ⟨X, hX⟩ : ∃ X, X = strL (Lib.join (((ls.drop t).take j).map (blkRow l r)) [10]) := ⟨_, rfl⟩
        rw [← hX]
        have hm : min j (ls.drop t).length * (20000 + 1) ≤ 12 * 20001 := Nat.mul_le_mul_right _ (by omega)
        have hxs : X.size ≤ 300000 := by rw [hX, strL_size]; omega
        have HX := Lib.hid hX
        obtain ⟨i, hi⟩ : ∃ i, i = t + j := ⟨_, rfl⟩
        rw [← hi]
        have HI := Lib.hid hi
        have hib : i ≤ b ∨ j = b + 1 - t := by omega
        have hin : i ≤ b → i < n := fun h => by omega
        have hti : t ≤ i := by omega
        clear hX hjl hm hi htb hbd hj
        by_cases hlt : i ≤ b
        · obtain ⟨b1, o1, x, a1, m1, rfl, _, hl, _, y0, y1, y2⟩ := HA.out.line (k := i) (hin hlt)
          have x0 := HS3.out.cell y0
          have x1 := HS3.out.cell y1
          have Hll := HC.out x (List.mem_iff_getElem?.2 ⟨i, hl⟩)
          have hokx : lnOk x.cells = true := by
            have q := HVT.out
            unfold vldL at q
            rw [List.all_eq_true] at q
            exact q x (List.mem_iff_getElem?.2 ⟨i, hl⟩)
          obtain ⟨Y, hY⟩ : ∃ Y, Y = strL (blkRow l r x) := ⟨_, rfl⟩
          have KP : Hid (∀ W, Sees w W → Calls Tryd.prog 13 #[.agg #[.slice a1 x.cells.length m1, .bool x.soft], .int .i64 l, .int .i64 r] W fun e w' => e = .returned (.string Y) ∧ Sees W w') := fun W hs => by
            rw [hY, blkRow_part l r x hokx HTB.out.2]
            exact tpart_any _ x _ W (y2.sees hs) Hll l r HTB.out.2 (by have := HBD.out; omega)
          have hys : Y.size ≤ 20000 := by rw [hY, strL_size]; exact blkRow_len l r x Hll (by have := HBD.out; omega)
          have hxj : (ls.drop t)[j]? = some x := by rw [List.getElem?_drop, ← HI.out]; exact hl
          have HTK : Hid (((ls.drop t).take (j + 1)).map (blkRow l r) = ((ls.drop t).take j).map (blkRow l r) ++ [blkRow l r x]) := by unfold RowKit.Hid; rw [List.take_add_one, hxj, List.map_append]; rfl
          have HYE := Lib.hid hY
          have hjn : 0 < j → ((ls.drop t).take j).map (blkRow l r) ≠ [] := fun h e => by
            have e2 := congrArg List.length e
            have e3 := (List.getElem?_eq_some_iff.1 hxj).1
            rw [List.length_map, List.length_take, List.length_nil] at e2
            omega
          have HJN := Lib.hid hjn
          obtain ⟨n1, hn1⟩ : ∃ n1, n1 = x.cells.length := ⟨_, rfl⟩
          rw [← hn1] at x0 KP
          have hinn := hin hlt
          have v1 : (i : Int) ≤ (b : Int) := by omega
          clear hl y0 y1 y2 hn1 hY hxj hjn hin hib hokx
          by_cases hj0 : 0 < j
          · have u1 : (t : Int) < (i : Int) := by have := HI.out; omega
            have u2 : decide ((i : Int) > (t : Int)) = true := decide_eq_true u1
            have HXY : Hid ((X ++ ⟨#[10]⟩) ++ Y = strL (Lib.join (((ls.drop t).take (j + 1)).map (blkRow l r)) [10])) := by
              unfold RowKit.Hid
              rw [HTK.out, join_snoc _ _ (HJN.out hj0), HX.out, HYE.out, show (⟨#[10]⟩ : ByteArray) = strL [10] from rfl, strL_app, strL_app, List.append_assoc]
            have hp1 : (⟨#[10]⟩ : ByteArray).size = 1 := rfl
            obtain ⟨Z, hZ⟩ : ∃ Z, Z = X ++ (⟨#[10]⟩ : ByteArray) := ⟨_, rfl⟩
            have hzs : Z.size ≤ 300001 := by rw [hZ, ByteArray.size_append]; omega
            have hZ2 : X ++ (⟨#[10]⟩ : ByteArray) = Z := hZ.symm
            rw [← hZ] at HXY
            clear hZ
            go_wp2_with fail
            refine (KP.out _ HS3.out).mono ?_
            rintro e W4 ⟨rfl, hs⟩
            have HS4 := Lib.hid (HS3.out.trans hs)
            clear hs x0 x1
            go_wp2
            exact ⟨⟨j + 1, by have := HI.out; omega, by rw [HI.out]; go_num, by rw [← HXY.out], HS4.out⟩, by simp [intOf]; omega⟩
          · have u1 : ¬ ((t : Int) < (i : Int)) := by have := HI.out; omega
            have u2 : decide ((i : Int) > (t : Int)) = false := decide_eq_false u1
            have HXY : Hid (X ++ Y = strL (Lib.join (((ls.drop t).take (j + 1)).map (blkRow l r)) [10])) := by
              unfold RowKit.Hid
              obtain rfl : j = 0 := by omega
              rw [HTK.out, HX.out, HYE.out, strL_app]
              simp [Lib.join]
            go_wp2_with fail
            refine (KP.out _ HS3.out).mono ?_
            rintro e W4 ⟨rfl, hs⟩
            have HS4 := Lib.hid (HS3.out.trans hs)
            clear hs x0 x1
            go_wp2
            exact ⟨⟨j + 1, by have := HI.out; omega, by rw [HI.out]; go_num, by rw [← HXY.out], HS4.out⟩, by simp [intOf]; omega⟩
        · have hje : j = b + 1 - t := by omega
          have HXB : Hid (X = strL (blkL ls t l b r)) := by unfold RowKit.Hid blkL; rw [HX.out, hje]
          have v1 : ¬ ((i : Int) ≤ (b : Int)) := by omega
          have KB1 := Lib.hid (fun W (hs : Sees w W) => KB0.out W hs)
          rw [← HXB.out] at KB1
          clear hje hib hin
          go_wp2_with fail
          refine (KB1.out _ HS3.out).mono ?_
          rintro e W4 ⟨rfl, hs⟩
          have HS4 := Lib.hid (HS3.out.trans hs)
          clear hs
          go_wp2_with fail
          refine (KN.out _ HS4.out).mono ?_
          rintro e Z ⟨rfl, hs⟩
          have HSq := Lib.hid (HS4.out.trans hs)
          clear hs
          go_wp2
          go_ret
          exact ⟨rfl, HSq.out⟩
end Go.Proofs.YtfpopoeeokdbiaaDoor
