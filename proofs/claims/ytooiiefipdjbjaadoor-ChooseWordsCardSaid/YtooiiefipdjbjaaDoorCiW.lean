/- ChooseWords (41). The tables hold what the program's text lays. -/
import Derived.Test.YtooiiefipdjbjaaDoorChZ
namespace Go.Proofs.YtooiiefipdjbjaaDoor
set_option linter.unusedVariables false
set_option linter.unusedSimpArgs false
open Go.RowKit Go.Shelf
attribute [local go_sem] Oper.semAt_some

structure CwM (w : World) (b : Nat) (l c : Int) (W : World) : Prop where
  s : Sees w W
  p : PlAt W b l c
theorem CwM.sees {w W W' : World} {b : Nat} {l c : Int} (h : CwM w b l c W) (hs : Sees W W') : CwM w b l c W' := ⟨h.s.trans hs, h.p.sees hs⟩
structure CwN (w : World) (b : Nat) (l c : Int) (d : Nat) (l1 c1 : Int) (W : World) : Prop where
  s : Sees w W
  p : PlAt W b l c
  q : PlAt W d l1 c1
theorem CwN.sees {w W W' : World} {b d : Nat} {l c l1 c1 : Int} (h : CwN w b l c d l1 c1 W) (hs : Sees W W') : CwN w b l c d l1 c1 W' := ⟨h.s.trans hs, h.p.sees hs, h.q.sees hs⟩
set_option maxHeartbeats 6000000 in
set_option maxRecDepth 100000 in
theorem choosewords_true (F : Nat → Prop) (a : Option Addr) (n cp : Nat) (ls : List Ln) (w : World) (ht : Tabs w) (ha : lnEl.Rd F w (.slice a n cp) ls) (hF : ∀ b, F b → b < w.heap.size) (first l c : Int) (hl : -9223372036854775808 ≤ l ∧ l ≤ 9223372036854775807) :
    Calls Tryd.prog 4 #[.slice a n cp, .int .i64 first, .agg #[.int .i64 l, .int .i64 c]] w fun e w' => e = .returned (.bool true) ∧ Sees w w' := by
  have KP := Lib.hid (fun l c W => at41_any l c W)
  have KK := Lib.hid (fun W (hs : Sees w W) => known41_any W (ht.sees hs))
  have KS := Lib.hid (fun W (hs : Sees w W) => small41_any F _ ls W (ha.sees hs))
  have HA := Lib.hid ha
  have HT := Lib.hid ht
  have HL := Lib.hid hl
  have HF := Lib.hid hF
  clear ha ht hl hF
  go_enter Tryd.func4, Tryd.ntmps4
  go_upto_region 1 with fail
  refine wp_world fun W1 hW1 => ?_
  have p1 : PlAt W1 w.heap.size l c := by subst hW1; exact PlAt.new w l c
  have s1 : Sees w W1 := by subst hW1; exact (Sees.refl w).alloc _
  obtain ⟨b5, hb5⟩ : ∃ b5, b5 = w.heap.size := ⟨_, rfl⟩
  rw [← hb5] at p1 ⊢
  have HB5 := Lib.hid hb5
  have M1 : Hid (CwM w b5 l c W1) := ⟨s1, p1⟩
  clear hW1 p1 s1 hb5
  go_wp2_with fail
  refine (KS.out W1 M1.out.s).mono ?_
  rintro e w2 ⟨rfl, hs⟩
  have M2 := Lib.hid (M1.out.sees hs)
  clear hs M1
  rcases Bool.eq_false_or_eq_true (small41 ls) with hsm | hsm
  case inr =>
    rw [hsm]
    clear hsm
    go_wp2_with fail
    refine (KK.out w2 M2.out.s).mono ?_
    rintro e w3 ⟨rfl, hs⟩
    have M3 := Lib.hid (M2.out.sees hs)
    clear hs
    go_wp2
    go_ret
    exact ⟨rfl, M3.out.s⟩
  rw [hsm]
  obtain ⟨hn12, hc24⟩ := small41_ok hsm
  have HNC : Hid (∀ x ∈ ls, x.cells.length ≤ 1000000) := fun x hx => by have := hc24 x hx; omega
  have HN12 := Lib.hid hn12
  clear hsm hc24 hn12
  go_wp2_with fail
  refine (rows41_any F _ ls w2 (HT.out.sees M2.out.s) (HA.out.sees M2.out.s) (by have := HN12.out; omega) HNC.out first).mono ?_
  rintro e w3 ⟨rfl, hs⟩
  have M3 := Lib.hid (M2.out.sees hs)
  clear hs M2
  rcases Bool.eq_false_or_eq_true (rowsOk ls first) with hro | hro
  case inr =>
    rw [hro]
    have hE := Lib.hid (ofE_rows hro)
    clear hro
    go_upto_region 4 with fail
    refine wpH_go (fun _ => False) 16 (by kernel_rfl) (by kernel_rfl) (by rfl) (fun hB v0 hs9 => ?_)
    have E0 := Lib.hid (M3.out.sees hs9)
    clear hs9
    have hS0 : Keeps (fun _ => False) v0 v0 := Keeps.refl _ v0
    refine wpH_take (i := 0) (v := .slice a n cp) hB (by rfl) (by kernel_rfl) (fun _ _ _ _ _ h => h) (by rfl) hS0 (fun W hI => by clear hI; go_simp) ?_; (try simp only [Act.put, List.setIfInBounds_toArray, List.set_cons_zero, List.set_cons_succ])
    refine wpH_take (i := 1) (v := .int .i64 first) hB (by rfl) (by kernel_rfl) (fun _ _ _ _ _ h => h) (by rfl) hS0 (fun W hI => by clear hI; go_simp) ?_; (try simp only [Act.put, List.setIfInBounds_toArray, List.set_cons_zero, List.set_cons_succ])
    refine wpH_take (i := 2) (v := .agg #[.int .i64 l, .int .i64 c]) hB (by rfl) (by kernel_rfl) (fun _ _ _ _ _ h => h) (by rfl) hS0 (fun W hI => by obtain ⟨q0, q1⟩ := (E0.out.p.keeps hI (fun h => h)).cs; go_simp) ?_; (try simp only [Act.put, List.setIfInBounds_toArray, List.set_cons_zero, List.set_cons_succ])
    refine wpH_one (i := 3) (by kernel_rfl) (wpOp_enter (fn := 18) (args := #[.int .i64 0, .int .i64 0]) (by rfl) (by rfl) (by go_simp) ((KP.out 0 0 v0).mono ?_))
    rintro ee v1 ⟨rfl, hs⟩
    have hTT := hS0.trans (Keeps.of_sees hs)
    refine ⟨_, rfl, hTT, ?_⟩
    (try simp only [Act.put, List.setIfInBounds_toArray, List.set_cons_zero, List.set_cons_succ])
    have E1 := Lib.hid (E0.out.sees hs)
    clear hs hS0
    have hS0 := hTT
    clear hTT
    refine wpH_one (i := 4) (by kernel_rfl) (wpOp_enter (fn := 18) (args := #[.int .i64 0, .int .i64 0]) (by rfl) (by rfl) (by go_simp) ((KP.out 0 0 v1).mono ?_))
    rintro ee v2 ⟨rfl, hs⟩
    have hTT := hS0.trans (Keeps.of_sees hs)
    refine ⟨_, rfl, hTT, ?_⟩
    (try simp only [Act.put, List.setIfInBounds_toArray, List.set_cons_zero, List.set_cons_succ])
    have E2 := Lib.hid (E1.out.sees hs)
    clear hs hS0
    have hS0 := hTT
    clear hTT
    refine wpH_one (i := 5) (by kernel_rfl) (wpOp_enter (fn := 19) (args := #[.slice a n cp, .int .i64 first, .agg #[.int .i64 l, .int .i64 c], .agg #[.int .i64 0, .int .i64 0], .agg #[.int .i64 0, .int .i64 0], .int .i64 2]) (by rfl) (by rfl) (by go_simp) ((tWordsErr (HT.out.sees E2.out.s) (HA.out.sees E2.out.s) (by have := HN12.out; omega) HNC.out l c hE.out).mono ?_))
    rintro ee v3 ⟨rfl, hs⟩
    have hTT := hS0.trans (Keeps.of_sees hs)
    refine ⟨_, rfl, hTT, ?_⟩
    (try simp only [Act.put, List.setIfInBounds_toArray, List.set_cons_zero, List.set_cons_succ])
    have E3 := Lib.hid (E2.out.sees hs)
    clear hs hS0
    have hS0 := hTT
    clear hTT
    refine wpH_take (i := 6) (v := .bool true) hB (by rfl) (by kernel_rfl) (fun _ _ _ _ _ h => h) (by rfl) hS0 (fun W hI => by clear hI; go_simp) ?_; (try simp only [Act.put, List.setIfInBounds_toArray, List.set_cons_zero, List.set_cons_succ])
    refine wpH_takeG (i := 7) (v := .slice a n cp) hB (by rfl) (by kernel_rfl) (fun _ _ _ _ _ h => h) (by go_simp) hS0 (fun W hI => by clear hI; go_simp) ?_; (try simp only [Act.put, List.setIfInBounds_toArray, List.set_cons_zero, List.set_cons_succ])
    refine wpH_takeG (i := 8) (v := .int .i64 first) hB (by rfl) (by kernel_rfl) (fun _ _ _ _ _ h => h) (by go_simp) hS0 (fun W hI => by clear hI; go_simp) ?_; (try simp only [Act.put, List.setIfInBounds_toArray, List.set_cons_zero, List.set_cons_succ])
    refine wpH_takeG (i := 9) (v := .agg #[.int .i64 l, .int .i64 c]) hB (by rfl) (by kernel_rfl) (fun _ _ _ _ _ h => h) (by go_simp) hS0 (fun W hI => by obtain ⟨q0, q1⟩ := (E0.out.p.keeps hI (fun h => h)).cs; go_simp) ?_; (try simp only [Act.put, List.setIfInBounds_toArray, List.set_cons_zero, List.set_cons_succ])
    refine wpH_one (i := 10) (by kernel_rfl) (wpOp_enterG (fn := 20) (args := #[.slice a n cp, .int .i64 first, .agg #[.int .i64 l, .int .i64 c], .int .i64 0, .int .i64 0, .int .i64 2]) (by rfl) (by go_simp) (by go_simp) ((tLogicalsErr (HT.out.sees E3.out.s) (HA.out.sees E3.out.s) (by have := HN12.out; omega) HNC.out l c hE.out).mono ?_))
    rintro ee v4 ⟨rfl, hs⟩
    have hTT := hS0.trans (Keeps.of_sees hs)
    refine ⟨_, rfl, hTT, ?_⟩
    (try simp only [Act.put, List.setIfInBounds_toArray, List.set_cons_zero, List.set_cons_succ])
    have E4 := Lib.hid (E3.out.sees hs)
    clear hs hS0
    have hS0 := hTT
    clear hTT
    refine wpH_take (i := 11) (v := .bool true) hB (by rfl) (by kernel_rfl) (fun _ _ _ _ _ h => h) (by rfl) hS0 (fun W hI => by clear hI; go_simp) ?_; (try simp only [Act.put, List.setIfInBounds_toArray, List.set_cons_zero, List.set_cons_succ])
    refine wpH_take (i := 12) (v := .bool true) hB (by rfl) (by kernel_rfl) (fun _ _ _ _ _ h => h) (by rfl) hS0 (fun W hI => by clear hI; go_simp) ?_; (try simp only [Act.put, List.setIfInBounds_toArray, List.set_cons_zero, List.set_cons_succ])
    refine wpH_one (i := 13) (by kernel_rfl) (wpOp_enterG (fn := 10) (args := #[]) (by rfl) (by go_simp) (by go_simp) ((KK.out v4 E4.out.s).mono ?_))
    rintro ee v5 ⟨rfl, hs⟩
    have hTT := hS0.trans (Keeps.of_sees hs)
    refine ⟨_, rfl, hTT, ?_⟩
    (try simp only [Act.put, List.setIfInBounds_toArray, List.set_cons_zero, List.set_cons_succ])
    have E5 := Lib.hid (E4.out.sees hs)
    clear hs hS0
    have hS0 := hTT
    clear hTT
    refine wpH_take (i := 14) (v := .bool true) hB (by rfl) (by kernel_rfl) (fun _ _ _ _ _ h => h) (by rfl) hS0 (fun W hI => by clear hI; go_simp) ?_; (try simp only [Act.put, List.setIfInBounds_toArray, List.set_cons_zero, List.set_cons_succ])
    refine wpH_take (i := 15) (v := .bool true) hB (by rfl) (by kernel_rfl) (fun _ _ _ _ _ h => h) (by rfl) hS0 (fun W hI => by clear hI; go_simp) ?_; (try simp only [Act.put, List.setIfInBounds_toArray, List.set_cons_zero, List.set_cons_succ])
    refine wpH_end (by kernel_rfl) ?_
    clear hS0 hB
    go_wp2
    go_ret
    exact ⟨rfl, E5.out.s⟩
  rw [hro]
  have h : ShF F w (.slice a n cp) ls first := ⟨HA.out, HF.out, hro, by have := HN12.out; omega⟩
  obtain ⟨hall, hf0, hf1⟩ := rowsOk_ok hro
  clear hall hro
  have H := Lib.hid h
  have hN : n = ls.length := h.rd.len
  have HN := Lib.hid hN
  obtain ⟨N, hNN⟩ : ∃ N, N = ls.length * cols ls := ⟨_, rfl⟩
  have HNN := Lib.hid hNN
  have hn1 : n ≤ 12 := by have := HN12.out; omega
  clear h hN hNN HNC HN12
  go_wp2
  go_loopw [7] (fun u W => ∃ i : Nat, u = .int .i64 (i : Int) ∧ i ≤ N ∧ CwM w b5 l c W) (fun u _ => N - (intOf u).toNat)
  case atStart => exact ⟨0, rfl, Nat.zero_le _, M3.out⟩
  case round =>
    obtain ⟨i, rfl, hiN, hM⟩ := hrel
    have M := Lib.hid hM
    clear hM M3
    rcases Nat.eq_zero_or_pos n with hn0 | hn0
    · have hin : inP ls first l c = false := by
        rcases Bool.eq_false_or_eq_true (inP ls first l c) with h | h
        · have := (pl_ix h).1
          rw [← HN.out, hn0, Nat.zero_mul] at this
          omega
        · exact h
      have HIN := Lib.hid hin
      subst hn0
      clear hiN hin
      go_upto_region 13 with fail
      obtain ⟨q0, q1⟩ := M.out.p.cs
      go_wp2_with fail
      refine (index_out F _ ls _ (HA.out.sees M.out.s) (by have := H.out.len; omega) first l c hf0 hf1 HIN.out).mono ?_
      rintro e w4 ⟨rfl, hs⟩
      have M4 := Lib.hid (M.out.sees hs)
      clear hs M q0 q1
      go_upto_region 15 with fail
      refine wpH_go (fun _ => False) 16 (by kernel_rfl) (by kernel_rfl) (by rfl) (fun hB v0 hs9 => ?_)
      have E0 := Lib.hid (M4.out.sees hs9)
      clear hs9
      have hS0 : Keeps (fun _ => False) v0 v0 := Keeps.refl _ v0
      refine wpH_take (i := 0) (v := .slice a 0 cp) hB (by rfl) (by kernel_rfl) (fun _ _ _ _ _ h => h) (by rfl) hS0 (fun W hI => by clear hI; go_simp) ?_; (try simp only [Act.put, List.setIfInBounds_toArray, List.set_cons_zero, List.set_cons_succ])
      refine wpH_take (i := 1) (v := .int .i64 first) hB (by rfl) (by kernel_rfl) (fun _ _ _ _ _ h => h) (by rfl) hS0 (fun W hI => by clear hI; go_simp) ?_; (try simp only [Act.put, List.setIfInBounds_toArray, List.set_cons_zero, List.set_cons_succ])
      refine wpH_take (i := 2) (v := .agg #[.int .i64 l, .int .i64 c]) hB (by rfl) (by kernel_rfl) (fun _ _ _ _ _ h => h) (by rfl) hS0 (fun W hI => by obtain ⟨q0, q1⟩ := (E0.out.p.keeps hI (fun h => h)).cs; go_simp) ?_; (try simp only [Act.put, List.setIfInBounds_toArray, List.set_cons_zero, List.set_cons_succ])
      refine wpH_one (i := 3) (by kernel_rfl) (wpOp_enter (fn := 18) (args := #[.int .i64 0, .int .i64 0]) (by rfl) (by rfl) (by go_simp) ((KP.out 0 0 v0).mono ?_))
      rintro ee v1 ⟨rfl, hs⟩
      have hTT := hS0.trans (Keeps.of_sees hs)
      refine ⟨_, rfl, hTT, ?_⟩
      (try simp only [Act.put, List.setIfInBounds_toArray, List.set_cons_zero, List.set_cons_succ])
      have E1 := Lib.hid (E0.out.sees hs)
      clear hs hS0
      have hS0 := hTT
      clear hTT
      refine wpH_one (i := 4) (by kernel_rfl) (wpOp_enter (fn := 18) (args := #[.int .i64 0, .int .i64 0]) (by rfl) (by rfl) (by go_simp) ((KP.out 0 0 v1).mono ?_))
      rintro ee v2 ⟨rfl, hs⟩
      have hTT := hS0.trans (Keeps.of_sees hs)
      refine ⟨_, rfl, hTT, ?_⟩
      (try simp only [Act.put, List.setIfInBounds_toArray, List.set_cons_zero, List.set_cons_succ])
      have E2 := Lib.hid (E1.out.sees hs)
      clear hs hS0
      have hS0 := hTT
      clear hTT
      refine wpH_one (i := 5) (by kernel_rfl) (wpOp_enter (fn := 19) (args := #[.slice a 0 cp, .int .i64 first, .agg #[.int .i64 l, .int .i64 c], .agg #[.int .i64 0, .int .i64 0], .agg #[.int .i64 0, .int .i64 0], .int .i64 3]) (by rfl) (by rfl) (by go_simp) ((tWordsOut (HT.out.sees E2.out.s) (H.out.sees E2.out.s) HL.out HIN.out).mono ?_))
      rintro ee v3 ⟨rfl, hs⟩
      have hTT := hS0.trans (Keeps.of_sees hs)
      refine ⟨_, rfl, hTT, ?_⟩
      (try simp only [Act.put, List.setIfInBounds_toArray, List.set_cons_zero, List.set_cons_succ])
      have E3 := Lib.hid (E2.out.sees hs)
      clear hs hS0
      have hS0 := hTT
      clear hTT
      refine wpH_take (i := 6) (v := .bool true) hB (by rfl) (by kernel_rfl) (fun _ _ _ _ _ h => h) (by rfl) hS0 (fun W hI => by clear hI; go_simp) ?_; (try simp only [Act.put, List.setIfInBounds_toArray, List.set_cons_zero, List.set_cons_succ])
      refine wpH_takeG (i := 7) (v := .slice a 0 cp) hB (by rfl) (by kernel_rfl) (fun _ _ _ _ _ h => h) (by go_simp) hS0 (fun W hI => by clear hI; go_simp) ?_; (try simp only [Act.put, List.setIfInBounds_toArray, List.set_cons_zero, List.set_cons_succ])
      refine wpH_takeG (i := 8) (v := .int .i64 first) hB (by rfl) (by kernel_rfl) (fun _ _ _ _ _ h => h) (by go_simp) hS0 (fun W hI => by clear hI; go_simp) ?_; (try simp only [Act.put, List.setIfInBounds_toArray, List.set_cons_zero, List.set_cons_succ])
      refine wpH_takeG (i := 9) (v := .agg #[.int .i64 l, .int .i64 c]) hB (by rfl) (by kernel_rfl) (fun _ _ _ _ _ h => h) (by go_simp) hS0 (fun W hI => by obtain ⟨q0, q1⟩ := (E0.out.p.keeps hI (fun h => h)).cs; go_simp) ?_; (try simp only [Act.put, List.setIfInBounds_toArray, List.set_cons_zero, List.set_cons_succ])
      refine wpH_one (i := 10) (by kernel_rfl) (wpOp_enterG (fn := 20) (args := #[.slice a 0 cp, .int .i64 first, .agg #[.int .i64 l, .int .i64 c], .int .i64 0, .int .i64 0, .int .i64 3]) (by rfl) (by go_simp) (by go_simp) ((tLogicalsOut (HT.out.sees E3.out.s) (H.out.sees E3.out.s) HL.out HIN.out).mono ?_))
      rintro ee v4 ⟨rfl, hs⟩
      have hTT := hS0.trans (Keeps.of_sees hs)
      refine ⟨_, rfl, hTT, ?_⟩
      (try simp only [Act.put, List.setIfInBounds_toArray, List.set_cons_zero, List.set_cons_succ])
      have E4 := Lib.hid (E3.out.sees hs)
      clear hs hS0
      have hS0 := hTT
      clear hTT
      refine wpH_take (i := 11) (v := .bool true) hB (by rfl) (by kernel_rfl) (fun _ _ _ _ _ h => h) (by rfl) hS0 (fun W hI => by clear hI; go_simp) ?_; (try simp only [Act.put, List.setIfInBounds_toArray, List.set_cons_zero, List.set_cons_succ])
      refine wpH_take (i := 12) (v := .bool true) hB (by rfl) (by kernel_rfl) (fun _ _ _ _ _ h => h) (by rfl) hS0 (fun W hI => by clear hI; go_simp) ?_; (try simp only [Act.put, List.setIfInBounds_toArray, List.set_cons_zero, List.set_cons_succ])
      refine wpH_one (i := 13) (by kernel_rfl) (wpOp_enterG (fn := 10) (args := #[]) (by rfl) (by go_simp) (by go_simp) ((KK.out v4 E4.out.s).mono ?_))
      rintro ee v5 ⟨rfl, hs⟩
      have hTT := hS0.trans (Keeps.of_sees hs)
      refine ⟨_, rfl, hTT, ?_⟩
      (try simp only [Act.put, List.setIfInBounds_toArray, List.set_cons_zero, List.set_cons_succ])
      have E5 := Lib.hid (E4.out.sees hs)
      clear hs hS0
      have hS0 := hTT
      clear hTT
      refine wpH_take (i := 14) (v := .bool true) hB (by rfl) (by kernel_rfl) (fun _ _ _ _ _ h => h) (by rfl) hS0 (fun W hI => by clear hI; go_simp) ?_; (try simp only [Act.put, List.setIfInBounds_toArray, List.set_cons_zero, List.set_cons_succ])
      refine wpH_take (i := 15) (v := .bool true) hB (by rfl) (by kernel_rfl) (fun _ _ _ _ _ h => h) (by rfl) hS0 (fun W hI => by clear hI; go_simp) ?_; (try simp only [Act.put, List.setIfInBounds_toArray, List.set_cons_zero, List.set_cons_succ])
      refine wpH_end (by kernel_rfl) ?_
      clear hS0 hB
      go_wp2
      go_ret
      exact ⟨rfl, E5.out.s⟩
    · obtain ⟨b1, o1, z, a0, m0, he, hfb, hz, _, y0, _, _⟩ := (H.out.sees M.out.s).rd.line (show 0 < n from hn0)
      rw [Nat.zero_mul, Nat.add_zero] at y0
      have hcol := cols_of hz
      rw [← hcol] at y0
      obtain ⟨K, hK⟩ : ∃ K, K = cols ls := ⟨_, rfl⟩
      rw [← hK] at y0
      have HK := Lib.hid hK
      cases he
      have Y0 := Lib.hid y0
      have hKb : n * K = N := by rw [HNN.out, HN.out, hK]
      have hNb : N ≤ 12 * 1000000 := by
        rcases Nat.lt_or_ge i N with h | h
        · have h2 := (H.out.row (i := i) (by rw [← HNN.out]; exact h)).2.1
          rw [← hKb]
          exact Nat.mul_le_mul hn1 (by omega)
        · rcases Nat.eq_zero_or_pos N with h3 | h3
          · omega
          · have h2 := (H.out.row (i := 0) (by rw [← HNN.out]; exact h3)).2.1
            rw [← hKb]
            exact Nat.mul_le_mul hn1 (by omega)
      have k1 : IntKind.i64.wrap ((n : Int) * (K : Int)) = (N : Int) := by rw [← Int.natCast_mul, hKb]; exact IntWalk.i64_in _ (by omega)
      clear hz hcol hfb hK hKb
      by_cases hi : i < N
      · have hiI : (i : Int) < (N : Int) := by omega
        have hi2 : i < ls.length * cols ls := by rw [← HNN.out]; exact hi
        have hM0 := (H.out.row hi2)
        have hKp : 0 < K := by rw [HK.out]; exact hM0.1
        have hr : i / K < ls.length := by rw [HK.out]; exact hM0.2.2.1
        clear hM0
        have hKz : ((K : Int) == 0) = false := by rw [beq_eq_false_iff_ne]; omega
        have hK0 : K ≠ 0 := by omega
        obtain ⟨r, hrr⟩ : ∃ r, r = i / K := ⟨_, rfl⟩
        have hq := tq41 i K
        rw [← hrr] at hr hq
        have k2 : IntKind.i64.wrap (r : Int) = (r : Int) := IntWalk.i64_in _ (by have := H.out.len; omega)
        obtain ⟨ia, hia⟩ : ∃ ia, ia = wA ls i := ⟨_, rfl⟩
        obtain ⟨ib, hib⟩ : ∃ ib, ib = wB ls i := ⟨_, rfl⟩
        have hia2 : ia < ls.length * cols ls := by rw [hia]; exact Nat.lt_of_le_of_lt (wA_le _ _) hi2
        have hib2 : ib < ls.length * cols ls := by rw [hib]; exact wB_lt hi2
        obtain ⟨l1, c1, e0⟩ : ∃ l1 c1, plI ls first i = (l1, c1) := ⟨_, _, rfl⟩
        obtain ⟨la, ca, e1⟩ : ∃ la ca, plI ls first ia = (la, ca) := ⟨_, _, rfl⟩
        obtain ⟨lb, cb, e2⟩ : ∃ lb cb, plI ls first ib = (lb, cb) := ⟨_, _, rfl⟩
        obtain ⟨tp, htp⟩ : ∃ tp, tp = topI ls r := ⟨_, rfl⟩
        obtain ⟨bt, hbt⟩ : ∃ bt, bt = botI ls r := ⟨_, rfl⟩
        have htl := topI_le ls r
        have hbl := botI_lt hr
        have hl12 := H.out.len
        obtain ⟨tt, htt⟩ : ∃ tt, tt = first + (tp : Int) := ⟨_, rfl⟩
        obtain ⟨bb, hbb⟩ : ∃ bb, bb = first + (bt : Int) := ⟨_, rfl⟩
        have k3 : IntKind.i64.wrap (first + (tp : Int)) = tt := by rw [IntWalk.i64_in _ (by omega)]; omega
        have k4 : IntKind.i64.wrap (first + (bt : Int)) = bb := by rw [IntWalk.i64_in _ (by omega)]; omega
        have KB : ∀ j, j < ls.length * cols ls → ∀ x y, plI ls first j = (x, y) → ∀ W, Sees w W → Calls Tryd.prog 23 #[.slice (some ⟨b1, o1, none⟩) n cp, .int .i64 first, .int .i64 (j : Int)] W fun e w' => e = .returned (.agg #[.int .i64 x, .int .i64 y]) ∧ Sees W w' := fun j hj x y he W hs => by
          have q := back41_at F _ ls W first (H.out.sees hs) j hj
          rw [he] at q
          exact q
        have KBi := Lib.hid (KB i hi2 _ _ e0)
        have KBa := Lib.hid (KB ia hia2 _ _ e1)
        have KBb := Lib.hid (KB ib hib2 _ _ e2)
        rw [hia] at e1
        rw [hib] at e2
        have KTW := Lib.hid (fun W (hs : Sees w W) => tWords (HT.out.sees hs) (H.out.sees hs) hi2 e0 e1 e2)
        have KTL := Lib.hid (fun W (hs : Sees w W) => tLogicals (HT.out.sees hs) (H.out.sees hs) (t := tt) (b := bb) hi2 e0 (by rw [← HK.out, ← hrr, ← htp, htt]) (by rw [← HK.out, ← hrr, ← hbt, hbb]))
        have KWD := Lib.hid (fun W (hs : Sees w W) => word41_at F _ ls W first (H.out.sees hs) i hi2)
        have KLG := Lib.hid (fun W (hs : Sees w W) => logical41_at F _ ls W (HA.out.sees hs) (by have := H.out.len; omega) r hr)
        rw [← hia, ← hib] at KWD
        rw [← htp, ← hbt] at KLG
        clear KB e0 e1 e2 hia hib hia2 hib2 hi2 htp hbt htt hbb htl hbl hl12 hrr
        go_wp2_with fail
        refine (KWD.out _ M.out.s).mono ?_
        rintro e w4 ⟨rfl, hs⟩
        have M4 := Lib.hid (M.out.sees hs)
        have y1 := hs.cell Y0.out
        clear hs M y0
        have k5 : IntKind.i64.wrap ((i : Int) + 1) = ((i + 1 : Nat) : Int) := by rw [IntWalk.i64_in _ (by omega)]; omega
        go_wp2_with fail
        refine (KLG.out w4 M4.out.s).mono ?_
        rintro e w5 ⟨rfl, hs⟩
        have M5 := Lib.hid (M4.out.sees hs)
        clear hs M4 y1
        go_wp2_with fail
        refine (KBi.out w5 M5.out.s).mono ?_
        rintro e w6 ⟨rfl, hs⟩
        have M6 := Lib.hid (M5.out.sees hs)
        clear hs M5
        go_upto_region 11 with fail
        refine wp_world fun wa hwa => ?_
        have hq1 : PlAt wa w6.heap.size l1 c1 := by subst hwa; exact heap_alloc_new w6 _
        have hs : Sees w6 wa := by subst hwa; exact (Sees.refl w6).alloc _
        obtain ⟨b12, hb12⟩ : ∃ b12, b12 = w6.heap.size := ⟨_, rfl⟩
        rw [← hb12] at hq1 ⊢
        have MN : Hid (CwN w b5 l c b12 l1 c1 wa) := ⟨M6.out.s.trans hs, M6.out.p.sees hs, hq1⟩
        clear hwa hq1 hs hb12 M6
        refine wpH_go (fun _ => False) 26 (by kernel_rfl) (by kernel_rfl) (by rfl) (fun hB v0 hs9 => ?_)
        have E0 := Lib.hid (MN.out.sees hs9)
        clear hs9
        have hS0 : Keeps (fun _ => False) v0 v0 := Keeps.refl _ v0
        refine wpH_take (i := 0) (v := .slice (some ⟨b1, o1, none⟩) n cp) hB (by rfl) (by kernel_rfl) (fun _ _ _ _ _ h => h) (by rfl) hS0 (fun W hI => by clear hI; go_simp) ?_; (try simp only [Act.put, List.setIfInBounds_toArray, List.set_cons_zero, List.set_cons_succ])
        refine wpH_take (i := 1) (v := .int .i64 first) hB (by rfl) (by kernel_rfl) (fun _ _ _ _ _ h => h) (by rfl) hS0 (fun W hI => by clear hI; go_simp) ?_; (try simp only [Act.put, List.setIfInBounds_toArray, List.set_cons_zero, List.set_cons_succ])
        refine wpH_take (i := 2) (v := .agg #[.int .i64 l1, .int .i64 c1]) hB (by rfl) (by kernel_rfl) (fun _ _ _ _ _ h => h) (by rfl) hS0 (fun W hI => by obtain ⟨q0, q1⟩ := (E0.out.q.keeps hI (fun h => h)).cs; go_simp) ?_; (try simp only [Act.put, List.setIfInBounds_toArray, List.set_cons_zero, List.set_cons_succ])
        refine wpH_take (i := 3) (v := .slice (some ⟨b1, o1, none⟩) n cp) hB (by rfl) (by kernel_rfl) (fun _ _ _ _ _ h => h) (by rfl) hS0 (fun W hI => by clear hI; go_simp) ?_; (try simp only [Act.put, List.setIfInBounds_toArray, List.set_cons_zero, List.set_cons_succ])
        refine wpH_take (i := 4) (v := .int .i64 first) hB (by rfl) (by kernel_rfl) (fun _ _ _ _ _ h => h) (by rfl) hS0 (fun W hI => by clear hI; go_simp) ?_; (try simp only [Act.put, List.setIfInBounds_toArray, List.set_cons_zero, List.set_cons_succ])
        refine wpH_take (i := 5) (v := .int .i64 (ia : Int)) hB (by rfl) (by kernel_rfl) (fun _ _ _ _ _ h => h) (by rfl) hS0 (fun W hI => by clear hI; go_simp) ?_; (try simp only [Act.put, List.setIfInBounds_toArray, List.set_cons_zero, List.set_cons_succ])
        refine wpH_take (i := 7) (v := .slice (some ⟨b1, o1, none⟩) n cp) hB (by rfl) (by kernel_rfl) (fun _ _ _ _ _ h => h) (by rfl) hS0 (fun W hI => by clear hI; go_simp) ?_; (try simp only [Act.put, List.setIfInBounds_toArray, List.set_cons_zero, List.set_cons_succ])
        refine wpH_take (i := 8) (v := .int .i64 first) hB (by rfl) (by kernel_rfl) (fun _ _ _ _ _ h => h) (by rfl) hS0 (fun W hI => by clear hI; go_simp) ?_; (try simp only [Act.put, List.setIfInBounds_toArray, List.set_cons_zero, List.set_cons_succ])
        refine wpH_take (i := 9) (v := .int .i64 (ib : Int)) hB (by rfl) (by kernel_rfl) (fun _ _ _ _ _ h => h) (by rfl) hS0 (fun W hI => by clear hI; go_simp) ?_; (try simp only [Act.put, List.setIfInBounds_toArray, List.set_cons_zero, List.set_cons_succ])
        refine wpH_one (i := 6) (by kernel_rfl) (wpOp_enter (fn := 23) (args := #[.slice (some ⟨b1, o1, none⟩) n cp, .int .i64 first, .int .i64 (ia : Int)]) (by rfl) (by rfl) (by go_simp) ((KBa.out v0 E0.out.s).mono ?_))
        rintro ee v1 ⟨rfl, hs⟩
        have hTT := hS0.trans (Keeps.of_sees hs)
        refine ⟨_, rfl, hTT, ?_⟩
        (try simp only [Act.put, List.setIfInBounds_toArray, List.set_cons_zero, List.set_cons_succ])
        have E1 := Lib.hid (E0.out.sees hs)
        clear hs hS0
        have hS0 := hTT
        clear hTT
        refine wpH_one (i := 10) (by kernel_rfl) (wpOp_enter (fn := 23) (args := #[.slice (some ⟨b1, o1, none⟩) n cp, .int .i64 first, .int .i64 (ib : Int)]) (by rfl) (by rfl) (by go_simp) ((KBb.out v1 E1.out.s).mono ?_))
        rintro ee v2 ⟨rfl, hs⟩
        have hTT := hS0.trans (Keeps.of_sees hs)
        refine ⟨_, rfl, hTT, ?_⟩
        (try simp only [Act.put, List.setIfInBounds_toArray, List.set_cons_zero, List.set_cons_succ])
        have E2 := Lib.hid (E1.out.sees hs)
        clear hs hS0
        have hS0 := hTT
        clear hTT
        refine wpH_one (i := 11) (by kernel_rfl) (wpOp_enter (fn := 19) (args := #[.slice (some ⟨b1, o1, none⟩) n cp, .int .i64 first, .agg #[.int .i64 l1, .int .i64 c1], .agg #[.int .i64 la, .int .i64 ca], .agg #[.int .i64 lb, .int .i64 cb], .int .i64 0]) (by rfl) (by rfl) (by go_simp) ((KTW.out v2 E2.out.s).mono ?_))
        rintro ee v3 ⟨rfl, hs⟩
        have hTT := hS0.trans (Keeps.of_sees hs)
        refine ⟨_, rfl, hTT, ?_⟩
        (try simp only [Act.put, List.setIfInBounds_toArray, List.set_cons_zero, List.set_cons_succ])
        have E3 := Lib.hid (E2.out.sees hs)
        clear hs hS0
        have hS0 := hTT
        clear hTT
        refine wpH_take (i := 12) (v := .bool false) hB (by rfl) (by kernel_rfl) (fun _ _ _ _ _ h => h) (by rfl) hS0 (fun W hI => by clear hI; go_simp) ?_; (try simp only [Act.put, List.setIfInBounds_toArray, List.set_cons_zero, List.set_cons_succ])
        refine wpH_take (i := 13) (v := .bool false) hB (by rfl) (by kernel_rfl) (fun _ _ _ _ _ h => h) (by rfl) hS0 (fun W hI => by clear hI; go_simp) ?_; (try simp only [Act.put, List.setIfInBounds_toArray, List.set_cons_zero, List.set_cons_succ])
        refine wpH_takeG (i := 14) (v := .slice (some ⟨b1, o1, none⟩) n cp) hB (by rfl) (by kernel_rfl) (fun _ _ _ _ _ h => h) (by go_simp) hS0 (fun W hI => by clear hI; go_simp) ?_; (try simp only [Act.put, List.setIfInBounds_toArray, List.set_cons_zero, List.set_cons_succ])
        refine wpH_takeG (i := 15) (v := .int .i64 first) hB (by rfl) (by kernel_rfl) (fun _ _ _ _ _ h => h) (by go_simp) hS0 (fun W hI => by clear hI; go_simp) ?_; (try simp only [Act.put, List.setIfInBounds_toArray, List.set_cons_zero, List.set_cons_succ])
        refine wpH_takeG (i := 16) (v := .agg #[.int .i64 l1, .int .i64 c1]) hB (by rfl) (by kernel_rfl) (fun _ _ _ _ _ h => h) (by go_simp) hS0 (fun W hI => by obtain ⟨q0, q1⟩ := (E0.out.q.keeps hI (fun h => h)).cs; go_simp) ?_; (try simp only [Act.put, List.setIfInBounds_toArray, List.set_cons_zero, List.set_cons_succ])
        refine wpH_takeG (i := 17) (v := .int .i64 first) hB (by rfl) (by kernel_rfl) (fun _ _ _ _ _ h => h) (by go_simp) hS0 (fun W hI => by clear hI; go_simp) ?_; (try simp only [Act.put, List.setIfInBounds_toArray, List.set_cons_zero, List.set_cons_succ])
        refine wpH_takeG (i := 18) (v := .int .i64 (tp : Int)) hB (by rfl) (by kernel_rfl) (fun _ _ _ _ _ h => h) (by go_simp) hS0 (fun W hI => by clear hI; go_simp) ?_; (try simp only [Act.put, List.setIfInBounds_toArray, List.set_cons_zero, List.set_cons_succ])
        refine wpH_takeG (i := 19) (v := .int .i64 tt) hB (by rfl) (by kernel_rfl) (fun _ _ _ _ _ h => h) (by go_simp) hS0 (fun W hI => by clear hI; go_simp) ?_; (try simp only [Act.put, List.setIfInBounds_toArray, List.set_cons_zero, List.set_cons_succ])
        refine wpH_takeG (i := 20) (v := .int .i64 first) hB (by rfl) (by kernel_rfl) (fun _ _ _ _ _ h => h) (by go_simp) hS0 (fun W hI => by clear hI; go_simp) ?_; (try simp only [Act.put, List.setIfInBounds_toArray, List.set_cons_zero, List.set_cons_succ])
        refine wpH_takeG (i := 21) (v := .int .i64 (bt : Int)) hB (by rfl) (by kernel_rfl) (fun _ _ _ _ _ h => h) (by go_simp) hS0 (fun W hI => by clear hI; go_simp) ?_; (try simp only [Act.put, List.setIfInBounds_toArray, List.set_cons_zero, List.set_cons_succ])
        refine wpH_takeG (i := 22) (v := .int .i64 bb) hB (by rfl) (by kernel_rfl) (fun _ _ _ _ _ h => h) (by go_simp) hS0 (fun W hI => by clear hI; go_simp) ?_; (try simp only [Act.put, List.setIfInBounds_toArray, List.set_cons_zero, List.set_cons_succ])
        refine wpH_one (i := 23) (by kernel_rfl) (wpOp_enterG (fn := 20) (args := #[.slice (some ⟨b1, o1, none⟩) n cp, .int .i64 first, .agg #[.int .i64 l1, .int .i64 c1], .int .i64 tt, .int .i64 bb, .int .i64 0]) (by rfl) (by go_simp) (by go_simp) ((KTL.out v3 E3.out.s).mono ?_))
        rintro ee v4 ⟨rfl, hs⟩
        have hTT := hS0.trans (Keeps.of_sees hs)
        refine ⟨_, rfl, hTT, ?_⟩
        (try simp only [Act.put, List.setIfInBounds_toArray, List.set_cons_zero, List.set_cons_succ])
        have E4 := Lib.hid (E3.out.sees hs)
        clear hs hS0
        have hS0 := hTT
        clear hTT
        refine wpH_takeG (i := 24) (v := .bool false) hB (by rfl) (by kernel_rfl) (fun _ _ _ _ _ h => h) (by go_simp) hS0 (fun W hI => by clear hI; go_simp) ?_; (try simp only [Act.put, List.setIfInBounds_toArray, List.set_cons_zero, List.set_cons_succ])
        refine wpH_take (i := 25) (v := .bool false) hB (by rfl) (by kernel_rfl) (fun _ _ _ _ _ h => h) (by rfl) hS0 (fun W hI => by clear hI; go_simp) ?_; (try simp only [Act.put, List.setIfInBounds_toArray, List.set_cons_zero, List.set_cons_succ])
        refine wpH_end (by kernel_rfl) ?_
        clear hS0 hB
        have M7 := Lib.hid (show CwM w b5 l c v4 from ⟨E4.out.s, E4.out.p⟩)
        clear E0 E1 E2 E3 E4 MN
        go_wp2
        have hfin : ∃ i' : Nat, Value.int .i64 ((i : Int) + 1) = .int .i64 (i' : Int) ∧ i' ≤ N ∧ CwM w b5 l c v4 := ⟨i + 1, by congr 1, hi, M7.out⟩
        go_roundw
        case rel => first | exact hfin | ((repeat apply Exists.intro); exact ⟨hfin, rfl⟩)
        case measure => simp [intOf]; omega
      · have hiI : (N : Int) ≤ (i : Int) := by omega
        rcases Bool.eq_false_or_eq_true (inP ls first l c) with hin | hin
        · obtain ⟨x1, x2⟩ := pl_ix hin
          obtain ⟨j, hj⟩ : ∃ j, j = ixI ls first l c := ⟨_, rfl⟩
          rw [← hj] at x1 x2
          have KI := Lib.hid (fun W (hs : Sees w W) => index_in F _ ls W first (H.out.sees hs) j x1)
          rw [x2] at KI
          clear x1 x2 hj hin
          go_upto_region 13 with fail
          obtain ⟨q0, q1⟩ := M.out.p.cs
          go_wp2_with fail
          refine (KI.out _ M.out.s).mono ?_
          rintro e w4 ⟨rfl, hs⟩
          have M4 := Lib.hid (M.out.sees hs)
          clear hs M q0 q1
          have hj0 : (0 : Int) ≤ (j : Int) := by omega
          go_wp2_with fail
          refine (KK.out w4 M4.out.s).mono ?_
          rintro e w5 ⟨rfl, hs⟩
          have M5 := Lib.hid (M4.out.sees hs)
          clear hs
          go_wp2
          go_ret
          exact ⟨rfl, M5.out.s⟩
        · have HIN := Lib.hid hin
          clear hin
          go_upto_region 13 with fail
          obtain ⟨q0, q1⟩ := M.out.p.cs
          go_wp2_with fail
          refine (index_out F _ ls _ (HA.out.sees M.out.s) (by have := H.out.len; omega) first l c hf0 hf1 HIN.out).mono ?_
          rintro e w4 ⟨rfl, hs⟩
          have M4 := Lib.hid (M.out.sees hs)
          clear hs M q0 q1
          go_upto_region 15 with fail
          refine wpH_go (fun _ => False) 16 (by kernel_rfl) (by kernel_rfl) (by rfl) (fun hB v0 hs9 => ?_)
          have E0 := Lib.hid (M4.out.sees hs9)
          clear hs9
          have hS0 : Keeps (fun _ => False) v0 v0 := Keeps.refl _ v0
          refine wpH_take (i := 0) (v := .slice (some ⟨b1, o1, none⟩) n cp) hB (by rfl) (by kernel_rfl) (fun _ _ _ _ _ h => h) (by rfl) hS0 (fun W hI => by clear hI; go_simp) ?_; (try simp only [Act.put, List.setIfInBounds_toArray, List.set_cons_zero, List.set_cons_succ])
          refine wpH_take (i := 1) (v := .int .i64 first) hB (by rfl) (by kernel_rfl) (fun _ _ _ _ _ h => h) (by rfl) hS0 (fun W hI => by clear hI; go_simp) ?_; (try simp only [Act.put, List.setIfInBounds_toArray, List.set_cons_zero, List.set_cons_succ])
          refine wpH_take (i := 2) (v := .agg #[.int .i64 l, .int .i64 c]) hB (by rfl) (by kernel_rfl) (fun _ _ _ _ _ h => h) (by rfl) hS0 (fun W hI => by obtain ⟨q0, q1⟩ := (E0.out.p.keeps hI (fun h => h)).cs; go_simp) ?_; (try simp only [Act.put, List.setIfInBounds_toArray, List.set_cons_zero, List.set_cons_succ])
          refine wpH_one (i := 3) (by kernel_rfl) (wpOp_enter (fn := 18) (args := #[.int .i64 0, .int .i64 0]) (by rfl) (by rfl) (by go_simp) ((KP.out 0 0 v0).mono ?_))
          rintro ee v1 ⟨rfl, hs⟩
          have hTT := hS0.trans (Keeps.of_sees hs)
          refine ⟨_, rfl, hTT, ?_⟩
          (try simp only [Act.put, List.setIfInBounds_toArray, List.set_cons_zero, List.set_cons_succ])
          have E1 := Lib.hid (E0.out.sees hs)
          clear hs hS0
          have hS0 := hTT
          clear hTT
          refine wpH_one (i := 4) (by kernel_rfl) (wpOp_enter (fn := 18) (args := #[.int .i64 0, .int .i64 0]) (by rfl) (by rfl) (by go_simp) ((KP.out 0 0 v1).mono ?_))
          rintro ee v2 ⟨rfl, hs⟩
          have hTT := hS0.trans (Keeps.of_sees hs)
          refine ⟨_, rfl, hTT, ?_⟩
          (try simp only [Act.put, List.setIfInBounds_toArray, List.set_cons_zero, List.set_cons_succ])
          have E2 := Lib.hid (E1.out.sees hs)
          clear hs hS0
          have hS0 := hTT
          clear hTT
          refine wpH_one (i := 5) (by kernel_rfl) (wpOp_enter (fn := 19) (args := #[.slice (some ⟨b1, o1, none⟩) n cp, .int .i64 first, .agg #[.int .i64 l, .int .i64 c], .agg #[.int .i64 0, .int .i64 0], .agg #[.int .i64 0, .int .i64 0], .int .i64 3]) (by rfl) (by rfl) (by go_simp) ((tWordsOut (HT.out.sees E2.out.s) (H.out.sees E2.out.s) HL.out HIN.out).mono ?_))
          rintro ee v3 ⟨rfl, hs⟩
          have hTT := hS0.trans (Keeps.of_sees hs)
          refine ⟨_, rfl, hTT, ?_⟩
          (try simp only [Act.put, List.setIfInBounds_toArray, List.set_cons_zero, List.set_cons_succ])
          have E3 := Lib.hid (E2.out.sees hs)
          clear hs hS0
          have hS0 := hTT
          clear hTT
          refine wpH_take (i := 6) (v := .bool true) hB (by rfl) (by kernel_rfl) (fun _ _ _ _ _ h => h) (by rfl) hS0 (fun W hI => by clear hI; go_simp) ?_; (try simp only [Act.put, List.setIfInBounds_toArray, List.set_cons_zero, List.set_cons_succ])
          refine wpH_takeG (i := 7) (v := .slice (some ⟨b1, o1, none⟩) n cp) hB (by rfl) (by kernel_rfl) (fun _ _ _ _ _ h => h) (by go_simp) hS0 (fun W hI => by clear hI; go_simp) ?_; (try simp only [Act.put, List.setIfInBounds_toArray, List.set_cons_zero, List.set_cons_succ])
          refine wpH_takeG (i := 8) (v := .int .i64 first) hB (by rfl) (by kernel_rfl) (fun _ _ _ _ _ h => h) (by go_simp) hS0 (fun W hI => by clear hI; go_simp) ?_; (try simp only [Act.put, List.setIfInBounds_toArray, List.set_cons_zero, List.set_cons_succ])
          refine wpH_takeG (i := 9) (v := .agg #[.int .i64 l, .int .i64 c]) hB (by rfl) (by kernel_rfl) (fun _ _ _ _ _ h => h) (by go_simp) hS0 (fun W hI => by obtain ⟨q0, q1⟩ := (E0.out.p.keeps hI (fun h => h)).cs; go_simp) ?_; (try simp only [Act.put, List.setIfInBounds_toArray, List.set_cons_zero, List.set_cons_succ])
          refine wpH_one (i := 10) (by kernel_rfl) (wpOp_enterG (fn := 20) (args := #[.slice (some ⟨b1, o1, none⟩) n cp, .int .i64 first, .agg #[.int .i64 l, .int .i64 c], .int .i64 0, .int .i64 0, .int .i64 3]) (by rfl) (by go_simp) (by go_simp) ((tLogicalsOut (HT.out.sees E3.out.s) (H.out.sees E3.out.s) HL.out HIN.out).mono ?_))
          rintro ee v4 ⟨rfl, hs⟩
          have hTT := hS0.trans (Keeps.of_sees hs)
          refine ⟨_, rfl, hTT, ?_⟩
          (try simp only [Act.put, List.setIfInBounds_toArray, List.set_cons_zero, List.set_cons_succ])
          have E4 := Lib.hid (E3.out.sees hs)
          clear hs hS0
          have hS0 := hTT
          clear hTT
          refine wpH_take (i := 11) (v := .bool true) hB (by rfl) (by kernel_rfl) (fun _ _ _ _ _ h => h) (by rfl) hS0 (fun W hI => by clear hI; go_simp) ?_; (try simp only [Act.put, List.setIfInBounds_toArray, List.set_cons_zero, List.set_cons_succ])
          refine wpH_take (i := 12) (v := .bool true) hB (by rfl) (by kernel_rfl) (fun _ _ _ _ _ h => h) (by rfl) hS0 (fun W hI => by clear hI; go_simp) ?_; (try simp only [Act.put, List.setIfInBounds_toArray, List.set_cons_zero, List.set_cons_succ])
          refine wpH_one (i := 13) (by kernel_rfl) (wpOp_enterG (fn := 10) (args := #[]) (by rfl) (by go_simp) (by go_simp) ((KK.out v4 E4.out.s).mono ?_))
          rintro ee v5 ⟨rfl, hs⟩
          have hTT := hS0.trans (Keeps.of_sees hs)
          refine ⟨_, rfl, hTT, ?_⟩
          (try simp only [Act.put, List.setIfInBounds_toArray, List.set_cons_zero, List.set_cons_succ])
          have E5 := Lib.hid (E4.out.sees hs)
          clear hs hS0
          have hS0 := hTT
          clear hTT
          refine wpH_take (i := 14) (v := .bool true) hB (by rfl) (by kernel_rfl) (fun _ _ _ _ _ h => h) (by rfl) hS0 (fun W hI => by clear hI; go_simp) ?_; (try simp only [Act.put, List.setIfInBounds_toArray, List.set_cons_zero, List.set_cons_succ])
          refine wpH_take (i := 15) (v := .bool true) hB (by rfl) (by kernel_rfl) (fun _ _ _ _ _ h => h) (by rfl) hS0 (fun W hI => by clear hI; go_simp) ?_; (try simp only [Act.put, List.setIfInBounds_toArray, List.set_cons_zero, List.set_cons_succ])
          refine wpH_end (by kernel_rfl) ?_
          clear hS0 hB
          go_wp2
          go_ret
          exact ⟨rfl, E5.out.s⟩
end Go.Proofs.YtooiiefipdjbjaaDoor
