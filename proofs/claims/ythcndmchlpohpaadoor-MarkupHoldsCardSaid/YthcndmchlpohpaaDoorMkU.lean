/- The law's decimal (48). The law's color (48). The law's tags (48). The law's marks (48). The tables hold what the program's text lays. The statements' comparison of runs (48). The tables hold what the program's text lays. No condition. -/
import Derived.Test.YthcndmchlpohpaaDoorMkQ
namespace Go.Proofs.YthcndmchlpohpaaDoor
set_option linter.unusedVariables false
set_option linter.unusedSimpArgs false
open Go.RowKit Go.Shelf
attribute [local go_sem] Oper.semAt_some

theorem one_string {w W : World} {a : Nat} (hg : w.heap[w.heap.size - 1]? = none ∨ True) (h : W.cell? ⟨w.heap.size, 0, none⟩ = some (.int .u8 (a : Int))) (ha : a < 256) : (convert 51 9 (.slice (some ⟨w.heap.size, 0, none⟩) 1 1)).run Tryd.prog W = .ok (.string (strL [UInt8.ofNat a])) W :=
  run_convert_bytes_back (P := Tryd.prog) W 51 9 5 ⟨w.heap.size, 0, none⟩ 1 [UInt8.ofNat a] Tryd.underlying51 Tryd.underlying5 Tryd.underlying9 (fun j hj => by
    have hj1 : j = 0 := by simp at hj; omega
    subst hj1
    rw [show (⟨w.heap.size, 0, none⟩ : Addr).add 0 = ⟨w.heap.size, 0, none⟩ by rw [addr_add, Nat.zero_add], h]
    have : (UInt8.ofNat a).toNat = a := by simp; omega
    simp [this])
end Go.Proofs.YthcndmchlpohpaaDoor

namespace Go.Proofs.YthcndmchlpohpaaDoor
set_option linter.unusedVariables false
set_option linter.unusedSimpArgs false
open Go.RowKit Go.Shelf
attribute [local go_sem] Oper.semAt_some

theorem dig_extract (q : Nat) (hq : q < 16) : (⟨#[48, 49, 50, 51, 52, 53, 54, 55, 56, 57, 97, 98, 99, 100, 101, 102]⟩ : ByteArray).extract q (q + 1) = strL [hexD q] := by
  rcases (show q = 0 ∨ q = 1 ∨ q = 2 ∨ q = 3 ∨ q = 4 ∨ q = 5 ∨ q = 6 ∨ q = 7 ∨ q = 8 ∨ q = 9 ∨ q = 10 ∨ q = 11 ∨ q = 12 ∨ q = 13 ∨ q = 14 ∨ q = 15 by omega) with rfl | rfl | rfl | rfl | rfl | rfl | rfl | rfl | rfl | rfl | rfl | rfl | rfl | rfl | rfl | rfl <;> rfl
def rgbN (r g b j : Nat) : Nat := if j = 0 then r else if j = 1 then g else b
def rgbL (r g b : Nat) : Nat → List UInt8
  | 0 => []
  | j + 1 => rgbL r g b j ++ hexL (rgbN r g b j)
end Go.Proofs.YthcndmchlpohpaaDoor

namespace Go.Proofs.YthcndmchlpohpaaDoor
set_option linter.unusedVariables false
set_option linter.unusedSimpArgs false
open Go.RowKit Go.Shelf
attribute [local go_sem] Oper.semAt_some

theorem let_extract (j : Nat) (hj : j < 8) : ∃ x, letL[j]? = some x ∧ (⟨#[98, 102, 105, 117, 108, 118, 104, 115]⟩ : ByteArray).extract j (j + 1) = strL [x] := by
  rcases (show j = 0 ∨ j = 1 ∨ j = 2 ∨ j = 3 ∨ j = 4 ∨ j = 5 ∨ j = 6 ∨ j = 7 by omega) with rfl | rfl | rfl | rfl | rfl | rfl | rfl | rfl <;> exact ⟨_, rfl, rfl⟩
theorem run_loadForeV {W : World} {b : Nat} {q : Cell} (h : PeAt W b q) : (Instr.loadAt 35 (.pointer (some ⟨b, 0, none⟩))).run Tryd.prog W = .ok (.agg #[.int .i64 q.f0, .int .u8 q.f1, .int .u8 q.f2, .int .u8 q.f3, .int .u8 q.f4]) W :=
  run_load_agg 35 b 0 [.int .i64 q.f0, .int .u8 q.f1, .int .u8 q.f2, .int .u8 q.f3, .int .u8 q.f4] co_isAgg co_sizeOf fun j x hx => by
    have hj : j < 5 := (List.getElem?_eq_some_iff.1 hx).1
    rw [Nat.zero_add, cell_of_row _ _ _ _ _ _ h]
    rcases (show j = 0 ∨ j = 1 ∨ j = 2 ∨ j = 3 ∨ j = 4 by omega) with rfl | rfl | rfl | rfl | rfl <;> exact hx
theorem run_loadBackV {W : World} {b : Nat} {q : Cell} (h : PeAt W b q) : (Instr.loadAt 35 (.pointer (some ⟨b, 5, none⟩))).run Tryd.prog W = .ok (.agg #[.int .i64 q.b0, .int .u8 q.b1, .int .u8 q.b2, .int .u8 q.b3, .int .u8 q.b4]) W :=
  run_load_agg 35 b 5 [.int .i64 q.b0, .int .u8 q.b1, .int .u8 q.b2, .int .u8 q.b3, .int .u8 q.b4] co_isAgg co_sizeOf fun j x hx => by
    have hj : j < 5 := (List.getElem?_eq_some_iff.1 hx).1
    rw [cell_of_row _ _ _ _ _ _ h]
    rcases (show j = 0 ∨ j = 1 ∨ j = 2 ∨ j = 3 ∨ j = 4 by omega) with rfl | rfl | rfl | rfl | rfl <;> exact hx
end Go.Proofs.YthcndmchlpohpaaDoor

namespace Go.Proofs.YthcndmchlpohpaaDoor
set_option linter.unusedVariables false
set_option linter.unusedSimpArgs false
open Go.RowKit Go.Shelf
attribute [local go_sem] Oper.semAt_some

set_option maxHeartbeats 1000000 in
/-- marks is true where Markup answers what is wanted. -/
theorem marks_true (v : Value) (cs : List Cell) (so : Bool) (F : Nat → Prop) (w : World) (ht : Sd w) (h : cellEl.Rd F w v cs) (hn : cs.length ≤ 1000000) (hbd : ∀ c ∈ cs, c.Bd) :
    Calls Tryd.prog 13 #[.agg #[v, .bool so], .string (strL (if lnOk cs then mkL cs so else [])), .int .i64 (if lnOk cs then 0 else 2)] w fun e w' => e = .returned (.bool true) ∧ Sees w w' := by
  obtain ⟨M, hM⟩ : ∃ M, M = strL (if lnOk cs then mkL cs so else []) := ⟨_, rfl⟩
  obtain ⟨E, hE⟩ : ∃ E : Int, E = (if lnOk cs then 0 else 2) := ⟨_, rfl⟩
  have KM : Hid (∀ W, Sees w W → Calls Tryd.prog 5 #[.agg #[v, .bool so]] W fun e w' => e = .returned (.tuple #[.string M, .int .i64 E]) ∧ Sees W w') := fun W hs => by
    rw [hM, hE]
    exact markup_any v cs so F W (ht.sees hs) (h.sees hs) hn hbd
  rw [← hM, ← hE]
  have S0 : Sees w (w.alloc (.cells #[v, .bool so] 24)) := (Sees.refl w).alloc _
  obtain ⟨a, cp, rfl, hcp⟩ := h.slice'
  have L0 : LnAt (w.alloc (.cells #[.slice a cs.length cp, .bool so] 24)) w.heap.size (.slice a cs.length cp) so := LnAt.new rfl
  obtain ⟨n, hnn⟩ : ∃ n, n = cs.length := ⟨_, rfl⟩
  rw [← hnn] at L0 S0 KM ⊢
  obtain ⟨w1, hw1⟩ : ∃ w1, w1 = w.alloc (.cells #[.slice a n cp, .bool so] 24) := ⟨_, rfl⟩
  rw [← hw1] at S0 L0
  have HW1 := Lib.hid hw1
  have HS0 := Lib.hid S0
  have HL0 := Lib.hid L0
  clear hw1 S0 L0 hM hE h hnn ht
  go_enter Tryd.func13, Tryd.ntmps13
  go_upto_region 1 with fail
  rw [← HW1.out]
  obtain ⟨l0, l1⟩ := HL0.out.c
  go_wp2_with fail
  refine (KM.out _ (HS0.out)).mono ?_
  rintro e W2 ⟨rfl, s2⟩
  have HS2 := Lib.hid (HS0.out.trans s2)
  have hb : (M.toList == M.toList) = true := by simp
  have hb2 : (E == E) = true := by simp
  clear l0 l1 s2
  go_wp2
  go_ret
  exact ⟨rfl, HS2.out⟩
end Go.Proofs.YthcndmchlpohpaaDoor

namespace Go.Proofs.YthcndmchlpohpaaDoor
set_option linter.unusedVariables false
set_option linter.unusedSimpArgs false
open Go.RowKit Go.Shelf
attribute [local go_sem] Oper.semAt_some

theorem boolWays (b : Bool) : b = true ∨ b = false := by cases b <;> simp
def Rn.key (r : Rn) : Nat × Nat × List UInt8 × List Int := (r.col, r.wid, r.txt, penOf r.c)
theorem eqlRn (r s : Rn) (W : World) : (binOp .eql 40 r.val s.val).run Tryd.prog W = .ok (.bool (decide (r.key = s.key))) W := by
  have hk : decide (r.key = s.key) = (((r.col : Int) == s.col) && (((r.wid : Int) == s.wid) && ((if (strL r.txt).toList = (strL s.txt).toList then penEq r.c s.c else false)))) := by
    rw [ByteArray.toList_eq, ByteArray.toList_eq, strL_list, strL_list, penEq_of]
    unfold Rn.key
    rw [Bool.eq_iff_iff]
    by_cases h : r.txt = s.txt
    · simp [h, Int.ofNat_inj]
    · simp [h]
  rw [hk]
  unfold Rn.val penEq eq11 eq5
  go_simp
  simp only [ite_ok (f := Value.bool), Result.ok.injEq, Value.bool.injEq, and_true, eq_arm]
  simp [Bool.and_assoc]
theorem run_neqRn (r s : Rn) (W : World) : (binOp .neq 40 r.val s.val).run Tryd.prog W = .ok (.bool (!decide (r.key = s.key))) W := by
  have h := eqlRn r s W
  unfold Rn.val at h ⊢
  rw [run_eql_struct] at h
  rw [run_neq_struct]
  revert h
  generalize (Op.equalIn 10000 40 _ _).run Tryd.prog W = q
  cases q with
  | ok b w' => simp only [Result.andThen_ok, Result.ok.injEq, Value.bool.injEq]; rintro ⟨rfl, rfl⟩; exact ⟨rfl, rfl⟩
  | halt x w' => intro h; cases h
theorem guard_neqRn (x y : Operand) (r s : Rn) (W : World) : (eqGuard .neq 40 x y r.val s.val).run Tryd.prog W = .ok () W := by unfold Rn.val; go_simp
theorem rn_neq {a b : Rn} {xs ys : List Rn} {k : Nat} (h1 : xs[k]? = some a) (h2 : ys[k]? = some b) (h : a.key ≠ b.key) : xs.map Rn.key ≠ ys.map Rn.key := by
  intro e
  have := congrArg (·[k]?) e
  simp only [List.getElem?_map, h1, h2, Option.map_some, Option.some.injEq] at this
  exact h this
set_option maxHeartbeats 1000000 in
theorem runs48_any (F G : Nat → Prop) (v u : Value) (x : Ln) (ws : List Rn) (no : Int) (w : World) (ht : Tabs w) (ha : cellEl.Rd F w v x.cells) (hn : x.cells.length ≤ 1000000) (hb : rnEl.Rd G w u ws) (hwl : ws.length ≤ 1000000) :
    Calls Tryd.prog 11 #[.agg #[v, .bool x.soft], u, .int .i64 no] w fun e w' => e = .returned (.bool (decide ((if lnOk x.cells then runsL x.cells else []).map Rn.key = ws.map Rn.key) && ((if lnOk x.cells then 0 else 2 : Int) == no))) ∧ Sees w w' := by
  have KR := Lib.hid (fun W (hs : Sees w W) => runs_any v x F W (ht.sees hs) (ha.sees hs) hn)
  obtain ⟨a, cp, rfl, hcp⟩ := ha.slice'
  obtain ⟨xs, hxs⟩ : ∃ xs, xs = (if lnOk x.cells then runsL x.cells else []) := ⟨_, rfl⟩
  obtain ⟨er, her⟩ : ∃ er : Int, er = (if lnOk x.cells then 0 else 2 : Int) := ⟨_, rfl⟩
  rw [← hxs, ← her] at KR ⊢
  obtain ⟨n, hnn⟩ : ∃ n, n = x.cells.length := ⟨_, rfl⟩
  rw [← hnn] at KR ⊢
  obtain ⟨bo, cb, rfl, hcb⟩ := hb.slice'
  obtain ⟨m, hm⟩ : ∃ m, m = ws.length := ⟨_, rfl⟩
  rw [← hm] at hb hwl ⊢
  have HB := Lib.hid hb
  have HM := Lib.hid hm
  have S1 : Hid (Sees w (w.alloc (.cells #[.slice a n cp, .bool x.soft] 24))) := (Sees.refl w).alloc _
  have L1 : LnAt (w.alloc (.cells #[.slice a n cp, .bool x.soft] 24)) w.heap.size (.slice a n cp) x.soft := LnAt.new rfl
  obtain ⟨W1, hW1⟩ : ∃ W1, W1 = w.alloc (.cells #[.slice a n cp, .bool x.soft] 24) := ⟨_, rfl⟩
  rw [← hW1] at S1 L1
  have HW1 := Lib.hid hW1
  have HL1 := Lib.hid L1
  clear hW1 L1 hm hb ht ha hxs her hnn
  go_enter Tryd.func11, Tryd.ntmps11
  go_upto_region 1 with fail
  rw [← HW1.out]
  go_wp2_with (guard_target = wpList _ _ _ ({ dst := _, op := Op.load 24 _, type := _, pos := _, after := _, guard := _ } :: _) _ _; refine wpList_val rfl (exec_load (v := .agg #[.slice a n cp, .bool x.soft]) rfl rfl (run_loadLn HL1.out)) (fun K hK => ?_); go_simp; refine hK _ _ ?_; clear hK K)
  refine (KR.out _ S1.out).mono ?_
  rintro e W2 ⟨uu, rfl, ho, s2⟩
  obtain ⟨a2, c2, rfl, hc2⟩ := ho.slice
  have HA := Lib.hid ho.rd
  have HS := Lib.hid (S1.out.trans s2)
  have HB2 := Lib.hid (HB.out.sees HS.out)
  obtain ⟨q, hq⟩ : ∃ q, q = xs.length := ⟨_, rfl⟩
  rw [← hq] at HA ⊢
  have HQ := Lib.hid hq
  clear ho s2 KR hq HB
  by_cases hlen : q = m
  · subst hlen
    rcases boolWays (er == no) with hno | hno
    · go_wp2
      go_loopw [9] (fun i wr => ∃ k : Nat, k ≤ q ∧ i = .int .i64 k ∧ (xs.map Rn.key).take k = (ws.map Rn.key).take k ∧ Sees W2 wr) (fun i _ => q - (intOf i).toNat)
      case atStart => exact ⟨0, by omega, rfl, by simp, Sees.refl _⟩
      case round =>
        obtain ⟨k, hk, rfl, hm, hS⟩ := hrel
        have Hm := Lib.hid hm; clear hm
        have hw := Sees.refl wr
        by_cases hlt : k < q
        · obtain ⟨b1, o1, r, rfl, hr, hra⟩ := rn_at (HA.out.sees hS) hlt
          obtain ⟨b2, o2, s, rfl, hs, hsa⟩ := rn_at (HB2.out.sees hS) hlt
          have F1 := Lib.hid hra
          have F2 := Lib.hid hsa
          have Hr := Lib.hid hr
          have Hs := Lib.hid hs
          clear hr hs hra hsa HA HB2
          obtain ⟨z, hz⟩ : ∃ z, z = decide (r.key = s.key) := ⟨_, rfl⟩
          have HZ := Lib.hid hz
          clear hz
          cases z
          · go_wp2
            refine wp_region_quiet_below (by kernel_rfl) (by kernel_rfl) ?_
            repeat (first | go_big_quiet_skip | (go_big_quiet_want; go_big_quiet_op; go_big_quiet_on))
            go_big_quiet_want; refine quiet_run r.val (fun W hW => exec_load rfl rfl (run_loadRn (F1.out.sees (regrown_sees hW)))) ?_; simp only [Act.put, List.setIfInBounds_toArray, List.set_cons_zero, List.set_cons_succ]; go_big_quiet_on
            repeat (first | go_big_quiet_skip | (go_big_quiet_want; go_big_quiet_op; go_big_quiet_on))
            go_big_quiet_want; refine quiet_run s.val (fun W hW => exec_load rfl rfl (run_loadRn (F2.out.sees (regrown_sees hW)))) ?_; simp only [Act.put, List.setIfInBounds_toArray, List.set_cons_zero, List.set_cons_succ]; go_big_quiet_on
            go_big_quiet_want; refine quiet_run (.bool true) (fun W hW => exec_bin rfl rfl rfl (guard_neqRn _ _ r s W) (by have := run_neqRn r s W; rw [← HZ.out] at this; exact this)) ?_; simp only [Act.put, List.setIfInBounds_toArray, List.set_cons_zero, List.set_cons_succ]; go_big_quiet_on
            repeat (first | go_big_quiet_skip | (go_big_quiet_want; go_big_quiet_op; go_big_quiet_on))
            refine wpQuiet_nil ?_; intro w2 hw2'; have hw2 := regrown_sees hw2'; clear hw2'
            have Hf := Lib.hid (rn_neq Hr.out Hs.out (of_decide_eq_false HZ.out.symm))
            go_wp2
            go_ret
            exact ⟨by rw [decide_eq_false Hf.out]; rfl, HS.out.trans (hS.trans hw2)⟩
          · go_wp2
            refine wp_region_quiet_below (by kernel_rfl) (by kernel_rfl) ?_
            repeat (first | go_big_quiet_skip | (go_big_quiet_want; go_big_quiet_op; go_big_quiet_on))
            go_big_quiet_want; refine quiet_run r.val (fun W hW => exec_load rfl rfl (run_loadRn (F1.out.sees (regrown_sees hW)))) ?_; simp only [Act.put, List.setIfInBounds_toArray, List.set_cons_zero, List.set_cons_succ]; go_big_quiet_on
            repeat (first | go_big_quiet_skip | (go_big_quiet_want; go_big_quiet_op; go_big_quiet_on))
            go_big_quiet_want; refine quiet_run s.val (fun W hW => exec_load rfl rfl (run_loadRn (F2.out.sees (regrown_sees hW)))) ?_; simp only [Act.put, List.setIfInBounds_toArray, List.set_cons_zero, List.set_cons_succ]; go_big_quiet_on
            go_big_quiet_want; refine quiet_run (.bool false) (fun W hW => exec_bin rfl rfl rfl (guard_neqRn _ _ r s W) (by have := run_neqRn r s W; rw [← HZ.out] at this; exact this)) ?_; simp only [Act.put, List.setIfInBounds_toArray, List.set_cons_zero, List.set_cons_succ]; go_big_quiet_on
            repeat (first | go_big_quiet_skip | (go_big_quiet_want; go_big_quiet_op; go_big_quiet_on))
            refine wpQuiet_nil ?_; intro w2 hw2'; have hw2 := regrown_sees hw2'; clear hw2'
            go_wp2
            go_roundw
            case rel =>
              refine ⟨k + 1, by omega, by go_num, ?_, hS.trans hw2⟩
              exact take_more Hm.out (show (xs.map Rn.key)[k]? = some r.key by rw [List.getElem?_map, Hr.out]; rfl) (by rw [List.getElem?_map, Hs.out, of_decide_eq_true HZ.out.symm]; rfl)
            case measure => simp [intOf]; omega
        · obtain rfl : k = q := by omega
          have hall : xs.map Rn.key = ws.map Rn.key := by
            have := Hm.out
            rwa [List.take_of_length_le (by rw [List.length_map, ← HQ.out]; exact Nat.le_refl _), List.take_of_length_le (by rw [List.length_map, ← HM.out]; exact Nat.le_refl _)] at this
          have Hf := Lib.hid hall
          have HNO := Lib.hid hno
          clear hall hno
          go_wp2
          go_ret
          exact ⟨by rw [decide_eq_true Hf.out, HNO.out]; rfl, HS.out.trans hS⟩
    · have hne2 : (er != no) = true := by simpa [bne] using hno
      have HNO := Lib.hid hno
      clear hno
      go_wp2
      go_ret
      exact ⟨by rw [HNO.out, Bool.and_false]; rfl, HS.out⟩
  · have hf : xs.map Rn.key ≠ ws.map Rn.key := fun e => hlen (by
      have := congrArg List.length e
      rw [List.length_map, List.length_map] at this
      rw [HQ.out, HM.out]; exact this)
    have Hf := Lib.hid hf
    have hne : ((q : Int) != (m : Int)) = true := by rw [bne_iff_ne]; omega
    clear hf hlen
    go_wp2
    go_ret
    exact ⟨by rw [decide_eq_false Hf.out]; rfl, HS.out⟩
end Go.Proofs.YthcndmchlpohpaaDoor
