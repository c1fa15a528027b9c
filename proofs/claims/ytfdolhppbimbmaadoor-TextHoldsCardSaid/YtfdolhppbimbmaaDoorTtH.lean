/- text.Offset (40). The tables hold what the program's text lays. -/
import Derived.Test.YtfdolhppbimbmaaDoorTtG
namespace Go.Proofs.YtfdolhppbimbmaaDoor
set_option linter.unusedVariables false
set_option linter.unusedSimpArgs false
open Go.RowKit

/-- How many bytes are before a column, or an error. -/
def offP (x : Ln) (i : Int) : Int × Int := if lnOk x.cells = false then (0, 2) else if i < 0 ∨ (x.cells.length : Int) < i then (0, 3) else (((txts ((x.part true).take i.toNat)).length : Int), 0)
set_option maxHeartbeats 4000000 in
set_option maxRecDepth 100000 in
theorem toffset_any (v : Value) (x : Ln) (F : Nat → Prop) (w : World) (ht : Tabs w) (h : cellEl.Rd F w v x.cells) (hn : x.cells.length ≤ 1000000) (i : Int) :
    Calls Tryd.prog 66 #[.agg #[v, .bool x.soft], .int .i64 i] w fun e w' => e = .returned (.tuple #[.int .i64 (offP x i).1, .int .i64 (offP x i).2]) ∧ Sees w w' := by
  obtain ⟨a, cp, rfl, hcp⟩ := h.slice'
  obtain ⟨n, hnn⟩ : ∃ n, n = x.cells.length := ⟨_, rfl⟩
  rw [← hnn] at h hn hcp ⊢
  have H := Lib.hid h
  have HN := Lib.hid hnn
  have HT := Lib.hid ht
  have S0 : Sees w (w.alloc (.cells #[.slice a n cp, .bool x.soft] 37)) := (Sees.refl w).alloc _
  have L0 : LnAt (w.alloc (.cells #[.slice a n cp, .bool x.soft] 37)) w.heap.size (.slice a n cp) x.soft := LnAt.new rfl
  obtain ⟨w1, hw1⟩ : ∃ w1, w1 = w.alloc (.cells #[.slice a n cp, .bool x.soft] 37) := ⟨_, rfl⟩
  rw [← hw1] at S0 L0
  have HW1 := Lib.hid hw1
  have HS0 := Lib.hid S0
  have HL0 := Lib.hid L0
  obtain ⟨U, hU⟩ : ∃ U, U = usedN x.cells := ⟨_, rfl⟩
  have hUn : U ≤ n := by rw [hU, hnn]; exact usedN_le _
  have HPE : Hid (x.part true = x.cells.take U) := by rw [hU]; rfl
  have KU : Hid (∀ W, Sees w W → Calls Tryd.prog 20 #[.agg #[.slice a n cp, .bool x.soft]] W fun e w' => e = .returned (.int .i64 U) ∧ Sees W w') := fun W hs => by
    rw [hU]
    exact used_any _ x F W (h.sees hs) (by rw [← hnn]; exact hn)
  have KV : Hid (∀ W, Sees w W → Calls Tryd.prog 56 #[.agg #[.slice a n cp, .bool x.soft]] W fun e w' => e = .returned (.bool (lnOk x.cells)) ∧ Sees W w') := fun W hs => lineValid_any _ x.cells x.soft W (HT.out.sees hs) (RdCells.sees h.rdCells hs) (by rw [← hnn]; exact hn)
  have hUcp : U ≤ cp := by omega
  obtain ⟨P, hP⟩ : ∃ P, P = offP x i := ⟨_, rfl⟩
  have HP := Lib.hid hP
  rw [← hP]
  clear h hnn hw1 S0 L0 hU ht hP
  go_enter Tryd.func66, Tryd.ntmps66
  go_upto_region 1 with fail
  rw [← HW1.out]
  obtain ⟨l0, l1⟩ := HL0.out.c
  go_wp2_with fail
  refine (KV.out _ HS0.out).mono ?_
  rintro e W2 ⟨rfl, s⟩
  have HS2 := Lib.hid (HS0.out.trans s)
  have HL2 := Lib.hid (HL0.out.sees s)
  clear s l0 l1 HS0 HL0
  obtain ⟨l0, l1⟩ := HL2.out.c
  by_cases hok : lnOk x.cells = true
  case neg =>
    have hok : lnOk x.cells = false := by simpa using hok
    have HPV : Hid (P = (0, 2)) := by unfold RowKit.Hid; rw [HP.out, offP, if_pos hok]
    go_wp2
    go_ret2
    exact ⟨by rw [HPV.out]; rfl, HS2.out⟩
  have HOK := Lib.hid hok
  by_cases hr : i < 0 ∨ (n : Int) < i
  · have HPV : Hid (P = (0, 3)) := by unfold RowKit.Hid; rw [HP.out, offP, if_neg (by rw [HOK.out]; decide), if_pos (by rw [← HN.out]; exact hr)]
    rcases Bool.eq_false_or_eq_true (decide (i < 0)) with g1 | g1
    · go_wp2
      go_ret2
      exact ⟨by rw [HPV.out]; rfl, HS2.out⟩
    · have g2 : decide (i > (n : Int)) = true := decide_eq_true (by have := of_decide_eq_false g1; omega)
      clear hr
      go_wp2
      go_ret2
      exact ⟨by rw [HPV.out]; rfl, HS2.out⟩
  · obtain ⟨k, rfl⟩ : ∃ k : Nat, i = k := ⟨i.toNat, by omega⟩
    have HPV : Hid (P = (((txts ((x.part true).take k)).length : Int), 0)) := by unfold RowKit.Hid; rw [HP.out, offP, if_neg (by rw [HOK.out]; decide), if_neg (by rw [← HN.out]; exact hr)]; rfl
    have g1 : decide ((k : Int) < 0) = false := decide_eq_false (by omega)
    have g2 : decide ((k : Int) > (n : Int)) = false := decide_eq_false (by omega)
    have g3 : ¬ ((k : Int) < 0) := by omega
    have g4 : ¬ ((n : Int) < (k : Int)) := by omega
    have g5 : ¬ (n < k) := by omega
    obtain ⟨M, hM⟩ : ∃ M, M = min k U := ⟨_, rfl⟩
    have hmin : min (k : Int) (U : Int) = M := by omega
    have hMn : M ≤ n := by omega
    have hMcp : M ≤ cp := by omega
    have e0 : (x.part true).take k = x.cells.take M := by rw [HPE.out, List.take_take, hM]
    have HX : Hid (cellEl.Rd F w (.slice a M cp) (x.cells.take M)) := H.out.take M (by rw [← HN.out]; exact hMn) cp (by omega)
    obtain ⟨T, hT⟩ : ∃ T, T = strL (txts ((x.part true).take k)) := ⟨_, rfl⟩
    have hTs : T.size ≤ 16000000 := by rw [hT, strL_size]; have := txts_len ((x.part true).take k); rw [e0] at this ⊢; rw [List.length_take] at this; omega
    have HPT : Hid (P = ((T.size : Int), 0)) := by unfold RowKit.Hid; rw [HPV.out, hT, strL_size]
    have KT : Hid (∀ W, Sees w W → Calls Tryd.prog 93 #[.slice a M cp] W fun e w' => e = .returned (.string T) ∧ Sees W w') := fun W hs => by
      rw [hT, e0]
      exact texts_any _ _ F W (HX.out.sees hs) (by rw [List.length_take]; omega)
    clear hr hT hM e0 HX HPV
    go_upto_region 5 with fail
    refine wp_world fun W3 hW3 => ?_
    have HS3 : Hid (Sees w W3) := by subst hW3; exact HS2.out
    have HL3 : Hid (LnAt W3 w.heap.size (.slice a n cp) x.soft) := by subst hW3; exact HL2.out
    clear hW3 l0 l1
    obtain ⟨l0, l1⟩ := HL3.out.c
    have q3 := fun d os => (sees_grow W3 d os).cell l0
    have q4 := fun d os => (sees_grow W3 d os).cell l1
    refine wp_region_quiet_below (by kernel_rfl) (by kernel_rfl) ?_
    repeat (first | go_big_quiet_skip | (go_big_quiet_want; go_big_quiet_op; go_big_quiet_on))
    (go_big_quiet_want; go_big_quiet_op; apply Exists.intro; refine ⟨fun p => Calls.regrown_of (KU.out _ (HS3.out.trans (sees_grow W3 _ _))), ?_⟩; go_big_quiet_on)
    repeat (first | go_big_quiet_skip | (go_big_quiet_want; go_big_quiet_op; go_big_quiet_on))
    (go_big_quiet_want; go_big_quiet_op; apply Exists.intro; refine ⟨fun p => Calls.regrown_of (KT.out _ (HS3.out.trans (sees_grow W3 _ _))), ?_⟩; go_big_quiet_on)
    repeat (first | go_big_quiet_skip | (go_big_quiet_want; go_big_quiet_op; go_big_quiet_on))
    refine wpQuiet_nil ?_; intro w2 hw2'; have hw2 := regrown_sees hw2'; clear hw2'
    have HS4 := Lib.hid (HS3.out.trans hw2)
    clear hw2 q3 q4 l0 l1
    go_wp2
    go_ret2
    exact ⟨by rw [HPT.out]; rfl, HS4.out⟩
/-- The column of an offset. -/
def colL : List Cell → Int → Int
  | [], _ => 0
  | c :: cs, o => if o < (c.txt.length : Int) then 0 else 1 + colL cs (o - c.txt.length)
def colP (x : Ln) (o : Int) : Int × Int := if lnOk x.cells = false then (0, 2) else if o < 0 ∨ ((txts (x.part true)).length : Int) < o then (0, 3) else (colL (x.part true) o, 0)
set_option maxHeartbeats 4000000 in
set_option maxRecDepth 100000 in
theorem tcolumn_any (v : Value) (x : Ln) (F : Nat → Prop) (w : World) (ht : Tabs w) (h : cellEl.Rd F w v x.cells) (hn : x.cells.length ≤ 1000000) (i : Int) (hi0 : -9223372036854775808 ≤ i) (hi1 : i ≤ 9223372036854775807) :
    Calls Tryd.prog 110 #[.agg #[v, .bool x.soft], .int .i64 i] w fun e w' => e = .returned (.tuple #[.int .i64 (colP x i).1, .int .i64 (colP x i).2]) ∧ Sees w w' := by
  obtain ⟨a, cp, rfl, hcp⟩ := h.slice'
  obtain ⟨n, hnn⟩ : ∃ n, n = x.cells.length := ⟨_, rfl⟩
  rw [← hnn] at h hn hcp ⊢
  have H := Lib.hid h
  have HN := Lib.hid hnn
  have HT := Lib.hid ht
  have S0 : Sees w (w.alloc (.cells #[.slice a n cp, .bool x.soft] 37)) := (Sees.refl w).alloc _
  have L0 : LnAt (w.alloc (.cells #[.slice a n cp, .bool x.soft] 37)) w.heap.size (.slice a n cp) x.soft := LnAt.new rfl
  obtain ⟨w1, hw1⟩ : ∃ w1, w1 = w.alloc (.cells #[.slice a n cp, .bool x.soft] 37) := ⟨_, rfl⟩
  rw [← hw1] at S0 L0
  have HW1 := Lib.hid hw1
  have HS0 := Lib.hid S0
  have HL0 := Lib.hid L0
  obtain ⟨U, hU⟩ : ∃ U, U = usedN x.cells := ⟨_, rfl⟩
  have hUn : U ≤ n := by rw [hU, hnn]; exact usedN_le _
  obtain ⟨cs, hcs⟩ : ∃ cs, cs = x.part true := ⟨_, rfl⟩
  have hPE : cs = x.cells.take U := by rw [hcs, hU]; rfl
  have KU : Hid (∀ W, Sees w W → Calls Tryd.prog 20 #[.agg #[.slice a n cp, .bool x.soft]] W fun e w' => e = .returned (.int .i64 U) ∧ Sees W w') := fun W hs => by
    rw [hU]
    exact used_any _ x F W (h.sees hs) (by rw [← hnn]; exact hn)
  have KV : Hid (∀ W, Sees w W → Calls Tryd.prog 56 #[.agg #[.slice a n cp, .bool x.soft]] W fun e w' => e = .returned (.bool (lnOk x.cells)) ∧ Sees W w') := fun W hs => lineValid_any _ x.cells x.soft W (HT.out.sees hs) (RdCells.sees h.rdCells hs) (by rw [← hnn]; exact hn)
  have hUcp : U ≤ cp := by omega
  have hcl : cs.length = U := by rw [hPE, List.length_take]; omega
  have HCL := Lib.hid hcl
  have HPR : Hid (cellEl.Rd F w (.slice a U cp) cs) := by
    unfold Hid
    rw [hPE]
    exact h.take U (by rw [← hnn]; exact hUn) cp (by omega)
  obtain ⟨T, hT⟩ : ∃ T, T = strL (txts cs) := ⟨_, rfl⟩
  have hTl : T.size = (txts cs).length := by rw [hT, strL_size]
  have hTs : T.size ≤ 16000000 := by rw [hTl]; have := txts_len cs; omega
  have KT : Hid (∀ W, Sees w W → Calls Tryd.prog 93 #[.slice a U cp] W fun e w' => e = .returned (.string T) ∧ Sees W w') := fun W hs => by
    rw [hT]
    exact texts_any _ _ F W (HPR.out.sees hs) (by omega)
  obtain ⟨P, hP⟩ : ∃ P, P = colP x i := ⟨_, rfl⟩
  have HP : Hid (P = if lnOk x.cells = false then (0, 2) else if i < 0 ∨ (T.size : Int) < i then (0, 3) else (colL cs i, 0)) := by unfold RowKit.Hid; rw [hP, colP, ← hcs, hTl]
  rw [← hP]
  clear h hnn hw1 S0 L0 hU ht hP hPE hT hcs hTl hcl
  go_enter Tryd.func110, Tryd.ntmps110
  go_upto_region 1 with fail
  rw [← HW1.out]
  obtain ⟨l0, l1⟩ := HL0.out.c
  go_wp2_with fail
  refine (KV.out _ HS0.out).mono ?_
  rintro e W2 ⟨rfl, s⟩
  have HS2 := Lib.hid (HS0.out.trans s)
  have HL2 := Lib.hid (HL0.out.sees s)
  clear s l0 l1 HS0 HL0
  by_cases hok : lnOk x.cells = true
  case neg =>
    have hok : lnOk x.cells = false := by simpa using hok
    have HPV : Hid (P = (0, 2)) := by unfold RowKit.Hid; rw [HP.out, if_pos hok]
    go_wp2
    go_ret2
    exact ⟨by rw [HPV.out]; rfl, HS2.out⟩
  have HP2 : Hid (P = if i < 0 ∨ (T.size : Int) < i then (0, 3) else (colL cs i, 0)) := by unfold RowKit.Hid; rw [HP.out, if_neg (by rw [hok]; decide)]
  obtain ⟨l0, l1⟩ := HL2.out.c
  go_upto_region 3 with fail
  refine wp_world fun W3 hW3 => ?_
  have HS3 : Hid (Sees w W3) := by subst hW3; exact HS2.out
  have HL3 : Hid (LnAt W3 w.heap.size (.slice a n cp) x.soft) := by subst hW3; exact HL2.out
  clear hW3 l0 l1 HP
  obtain ⟨l0, l1⟩ := HL3.out.c
  have q3 := fun d os => (sees_grow W3 d os).cell l0
  have q4 := fun d os => (sees_grow W3 d os).cell l1
  refine wp_region_quiet_below (by kernel_rfl) (by kernel_rfl) ?_
  repeat (first | go_big_quiet_skip | (go_big_quiet_want; go_big_quiet_op; go_big_quiet_on))
  (go_big_quiet_want; go_big_quiet_op; apply Exists.intro; refine ⟨fun p => Calls.regrown_of (KU.out _ (HS3.out.trans (sees_grow W3 _ _))), ?_⟩; go_big_quiet_on)
  repeat (first | go_big_quiet_skip | (go_big_quiet_want; go_big_quiet_op; go_big_quiet_on))
  refine wpQuiet_nil ?_; intro w2 hw2'; have hw2 := regrown_sees hw2'; clear hw2'
  have HS4 := Lib.hid (HS3.out.trans hw2)
  clear hw2 q3 q4 l0 l1 hok HL3 HL2 HS2 KU KV
  rcases Bool.eq_false_or_eq_true (decide (i < 0)) with g1 | g1
  · have HPV : Hid (P = (0, 3)) := by unfold RowKit.Hid; rw [HP2.out, if_pos (.inl (of_decide_eq_true g1))]
    go_wp2
    go_ret2
    exact ⟨by rw [HPV.out]; rfl, HS4.out⟩
  obtain ⟨k0, rfl⟩ : ∃ k : Nat, i = k := ⟨i.toNat, by have := of_decide_eq_false g1; omega⟩
  go_wp2_with fail
  refine (KT.out _ HS4.out).mono ?_
  rintro e W5 ⟨rfl, s⟩
  have HS5 := Lib.hid (HS4.out.trans s)
  clear s
  rcases Bool.eq_false_or_eq_true (decide ((k0 : Int) > (T.size : Int))) with g2 | g2
  · have HPV : Hid (P = (0, 3)) := by unfold RowKit.Hid; rw [HP2.out, if_pos (.inr (of_decide_eq_true g2))]
    have g3 : (T.size : Int) < (k0 : Int) := of_decide_eq_true g2
    have g4 : T.size < k0 := by omega
    go_wp2
    go_ret2
    exact ⟨by rw [HPV.out]; rfl, HS5.out⟩
  have g3 : ¬ ((T.size : Int) < (k0 : Int)) := of_decide_eq_false g2
  have g4 : ¬ (T.size < k0) := by omega
  have HPV : Hid (P = (colL cs k0, 0)) := by unfold RowKit.Hid; rw [HP2.out, if_neg (by omega)]
  have HK := Lib.hid (show k0 ≤ 16000000 by omega)
  go_wp2_with fail
  clear g1 g2 g3 g4 hi0 hi1 HP2
  go_loopw [1, 29] (fun o i W => ∃ k o' : Nat, k ≤ U ∧ i = .int .i64 k ∧ o = .int .i64 o' ∧ Hid (colL cs k0 = k + colL (cs.drop k) o') ∧ o' ≤ k0 ∧ Sees w W) (fun _ i _ => U - (intOf i).toNat)
  case atStart => exact ⟨0, k0, Nat.zero_le _, rfl, rfl, by unfold RowKit.Hid; rw [List.drop_zero]; simp, Nat.le_refl _, HS5.out⟩
  case round =>
    obtain ⟨k, o, hk, rfl, rfl, hcol, hok, hS⟩ := hrel
    have HS := Lib.hid hS
    clear hS HS5
    by_cases hlt : k < U
    · obtain ⟨b, o2, c, rfl, _, hc, hat0⟩ := HPR.out.cell (k := k) hlt
      have hat := hat0.sees HS.out
      obtain ⟨Y, hY⟩ : ∃ Y, Y = strL c.txt := ⟨_, rfl⟩
      have hys : Y.size ≤ 16 := by rw [hY, strL_size]; exact c.txt_len
      have KC : Hid (∀ W, Calls Tryd.prog 67 #[c.val] W fun e w' => e = .returned (.string Y) ∧ Sees W w') := fun W => by rw [hY]; exact ctext_any c W
      have hdr : cs.drop k = c :: cs.drop (k + 1) := (List.drop_eq_getElem_cons (List.getElem?_eq_some_iff.1 hc).1).trans (by rw [(List.getElem?_eq_some_iff.1 hc).2])
      have HCO : Hid (colL cs k0 = if o < Y.size then (k : Int) else ((k + 1 : Nat) : Int) + colL (cs.drop (k + 1)) ((o : Int) - Y.size)) := by
        unfold RowKit.Hid
        rw [hcol.out, hdr, colL, hY, strL_size]
        by_cases h : o < c.txt.length
        · rw [if_pos h, if_pos (by omega)]; omega
        · rw [if_neg h, if_neg (by omega)]; omega
      clear hc hat0 hY hdr hcol
      go_upto_region 9 with (first
        | (guard_target = wpList _ _ _ ({ dst := _, op := Op.load 46 _, type := _, pos := _, after := _, guard := _ } :: _) _ _; refine wpList_val rfl (exec_load (v := c.val) rfl rfl (run_loadCell hat)) (fun K hK => ?_); go_simp; refine hK _ _ ?_; clear hK K)
        | (guard_target = wpList _ _ _ ({ dst := _, op := Op.store 46 _ _, type := _, pos := _, after := _, guard := _ } :: _) _ _; refine wpList_skip rfl (exec_store (v := c.val) rfl rfl rfl (run_storeNew c _ rfl _ rfl)) (fun K hK => ?_); go_simp; refine hK _ _ ?_; clear hK K))
      refine wp_world fun W2 hW2 => ?_
      have C2 : CellAt W2 wr.heap.size 0 c := by subst hW2; exact cellAt_new _ c _
      have HS2 : Hid (Sees w W2) := by subst hW2; exact HS.out.alloc _
      clear hW2 hat HS
      go_wp2_with (guard_target = wpList _ _ _ ({ dst := _, op := Op.load 46 _, type := _, pos := _, after := _, guard := _ } :: _) _ _; refine wpList_val rfl (exec_load (v := c.val) rfl rfl (run_loadCell C2)) (fun K hK => ?_); go_simp; refine hK _ _ ?_; clear hK K)
      refine (KC.out _).mono ?_
      rintro e W3 ⟨rfl, s⟩
      have HS3 := Lib.hid (HS2.out.trans s)
      clear s C2 HS2
      by_cases ho : o < Y.size
      · have HPF : Hid (P = ((k : Int), 0)) := by unfold RowKit.Hid; rw [HPV.out, HCO.out, if_pos ho]
        have ho1 : (o : Int) < (Y.size : Int) := by omega
        clear HCO
        go_wp2
        go_ret2
        exact ⟨by rw [HPF.out]; rfl, HS3.out⟩
      · have HPF : Hid (colL cs k0 = ((k + 1 : Nat) : Int) + colL (cs.drop (k + 1)) ((o - Y.size : Nat) : Int)) := by unfold RowKit.Hid; rw [HCO.out, if_neg ho, Int.ofNat_sub (by omega)]
        have ho1 : ¬ ((o : Int) < (Y.size : Int)) := by omega
        have HKK := HK.out
        have ho2 : IntKind.i64.wrap ((o : Int) - (Y.size : Int)) = ((o - Y.size : Nat) : Int) := by rw [IntWalk.i64_in _ (by omega)]; omega
        clear HCO HKK
        go_wp2
        exact ⟨⟨k + 1, o - Y.size, by omega, by go_num, rfl, HPF.out, by omega, HS3.out⟩, by simp [intOf]; omega⟩
    · obtain rfl : U = k := by omega
      have HPF : Hid (P = ((U : Int), 0)) := by unfold RowKit.Hid; rw [HPV.out, hcol.out, ← HCL.out, List.drop_length]; simp [colL]
      go_wp2
      go_ret2
      exact ⟨by rw [HPF.out]; rfl, HS.out⟩
end Go.Proofs.YtfdolhppbimbmaaDoor
