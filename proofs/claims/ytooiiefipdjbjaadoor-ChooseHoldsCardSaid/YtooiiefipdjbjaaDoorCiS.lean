/- ChooseSpans (41). The tables hold what the program's text lays. -/
import Derived.Test.YtooiiefipdjbjaaDoorChZ
namespace Go.Proofs.YtooiiefipdjbjaaDoor
set_option linter.unusedVariables false
set_option linter.unusedSimpArgs false
open Go.RowKit Go.Shelf
attribute [local go_sem] Oper.semAt_some

theorem has_in {ls : List Ln} {first kd : Int} {x y : Nat} (hr : rowsOk ls first = true) (hx : x < ls.length * cols ls) (hy : y < ls.length * cols ls) {l c : Int} (h : snHas (spansL ls first kd x y) l c = true) : inP ls first l c = true := by
  obtain ⟨hM, _, _, _, _, hBn⟩ := ch_rows (kd := kd) hx hy
  unfold snHas at h
  rw [List.any_eq_true] at h
  obtain ⟨s, hs, hk⟩ := h
  obtain ⟨q, hq⟩ := List.mem_iff_getElem?.1 hs
  obtain ⟨r, h1, h2, rfl⟩ := spansL_mem hq
  simp only [Bool.and_eq_true, decide_eq_true_eq, beq_iff_eq] at hk
  obtain ⟨k1, k2, k3⟩ := hk
  have hrl : r < ls.length := by omega
  have hall := (rowsOk_ok hr).1
  have w1 := raw_lt (ls := ls) (kd := kd) (a := chA ls kd (min x y)) (b := chB ls kd (max x y)) (i := r) hM (Nat.mod_lt x hM) (Nat.mod_lt y hM)
  have w2 := fix_lt hall hrl w1.1 w1.2.1 w1.2.2
  have w3 : spT ls kd (chB ls kd (max x y)) r (x % cols ls) (y % cols ls) ≤ cols ls := w2.2.2
  unfold inP
  rw [decide_eq_true (by omega), decide_eq_true (by omega), decide_eq_true (by omega), decide_eq_true (by omega)]
  rfl
theorem has_step {Z : List Sn} {j : Nat} {s : Sn} (h : Z[j]? = some s) (l c : Int) : snHas (Z.take (j + 1)) l c = (snHas (Z.take j) l c || (s.row == l && (decide (s.f ≤ c) && decide (c < s.t)))) := by
  unfold snHas
  rw [List.take_add_one, h]
  simp [List.any_append]
/-- The state of ChooseSpans. -/
structure CsM (w : World) (b5 : Nat) (kd l0 c0 l1 c1 : Int) (W : World) : Prop where
  i : Sees w W
  ch : ChAt W b5 kd l0 c0 l1 c1
theorem CsM.sees {w W W' : World} {b5 : Nat} {kd l0 c0 l1 c1 : Int} (h : CsM w b5 kd l0 c0 l1 c1 W) (hs : Sees W W') : CsM w b5 kd l0 c0 l1 c1 W' := ⟨h.i.trans hs, h.ch.sees hs⟩
structure CsN (w : World) (b5 : Nat) (kd l0 c0 l1 c1 : Int) (v : Value) (Z : List Sn) (W : World) : Prop where
  i : Sees w W
  ch : ChAt W b5 kd l0 c0 l1 c1
  r : snEl.Rd (fun _ => True) W v Z
theorem CsN.sees {w W W' : World} {b5 : Nat} {kd l0 c0 l1 c1 : Int} {v : Value} {Z : List Sn} (h : CsN w b5 kd l0 c0 l1 c1 v Z W) (hs : Sees W W') : CsN w b5 kd l0 c0 l1 c1 v Z W' := ⟨h.i.trans hs, h.ch.sees hs, (h.r.sees hs)⟩
theorem ix41 (F : Nat → Prop) (v : Value) (ls : List Ln) (w : World) (first : Int) (h : ShF F w v ls first) (l c : Int) :
    Calls Tryd.prog 12 #[v, .int .i64 first, .agg #[.int .i64 l, .int .i64 c]] w fun e w' => (∃ x : Int, e = .returned (.int .i64 x) ∧ decide (x < 0) = !inP ls first l c) ∧ Sees w w' := by
  obtain ⟨_, h0, h1⟩ := rowsOk_ok h.ok
  rcases Bool.eq_false_or_eq_true (inP ls first l c) with hin | hin
  · obtain ⟨x1, x2⟩ := pl_ix hin
    have q := index_in F v ls w first h _ x1
    rw [x2] at q
    refine q.mono ?_
    rintro e w' ⟨rfl, hs⟩
    exact ⟨⟨_, rfl, by rw [hin]; exact decide_eq_false (by omega)⟩, hs⟩
  · refine (index_out F v ls w h.rd (by have := h.len; omega) first l c h0 h1 hin).mono ?_
    rintro e w' ⟨rfl, hs⟩
    exact ⟨⟨_, rfl, by rw [hin]; rfl⟩, hs⟩
set_option maxHeartbeats 6000000 in
set_option maxRecDepth 100000 in
theorem choosespans_true (F : Nat → Prop) (a : Option Addr) (n cp : Nat) (ls : List Ln) (w : World) (ht : Tabs w) (ha : lnEl.Rd F w (.slice a n cp) ls) (hF : ∀ b, F b → b < w.heap.size) (first kd l0 c0 l1 c1 : Int) (hl0 : -9223372036854775808 ≤ l0 ∧ l0 ≤ 9223372036854775807) (hl1 : -9223372036854775808 ≤ l1 ∧ l1 ≤ 9223372036854775807) :
    Calls Tryd.prog 3 #[.slice a n cp, .int .i64 first, .agg #[.int .i64 kd, .int .i64 l0, .int .i64 c0, .int .i64 l1, .int .i64 c1]] w fun e w' => e = .returned (.bool true) ∧ Sees w w' := by
  have KP := Lib.hid (fun l c W => at41_any l c W)
  have KK := Lib.hid (fun W (hs : Sees w W) => known41_any W (ht.sees hs))
  have KS := Lib.hid (fun W (hs : Sees w W) => small41_any F _ ls W (ha.sees hs))
  have HA := Lib.hid ha
  have HT := Lib.hid ht
  have HL := Lib.hid (And.intro hl0 hl1)
  have HF := Lib.hid hF
  clear ha ht hl0 hl1 hF
  go_enter Tryd.func3, Tryd.ntmps3
  go_upto_region 1 with fail
  refine wp_world fun W1 hW1 => ?_
  have p1 : ChAt W1 w.heap.size kd l0 c0 l1 c1 := by subst hW1; exact heap_alloc_new w _
  have s1 : Sees w W1 := by subst hW1; exact (Sees.refl w).alloc _
  obtain ⟨b5, hb5⟩ : ∃ b5, b5 = w.heap.size := ⟨_, rfl⟩
  rw [← hb5] at p1 ⊢
  have HB5 := Lib.hid hb5
  have M1 : Hid (CsM w b5 kd l0 c0 l1 c1 W1) := ⟨s1, p1⟩
  clear hW1 p1 s1 hb5
  go_wp2_with fail
  refine (KS.out W1 M1.out.i).mono ?_
  rintro e w2 ⟨rfl, hs⟩
  have M2 := Lib.hid (M1.out.sees hs)
  clear hs M1
  rcases Bool.eq_false_or_eq_true (small41 ls) with hsm | hsm
  case inr =>
    rw [hsm]
    clear hsm
    go_wp2_with fail
    refine (KK.out w2 M2.out.i).mono ?_
    rintro e wk ⟨rfl, hs⟩
    have MK := Lib.hid (M2.out.sees hs)
    clear hs
    go_wp2
    go_ret
    exact ⟨rfl, MK.out.i⟩
  rw [hsm]
  obtain ⟨hn12, hc24⟩ := small41_ok hsm
  have HNC : Hid (∀ x ∈ ls, x.cells.length ≤ 1000000) := fun x hx => by have := hc24 x hx; omega
  have HN12 := Lib.hid hn12
  clear hsm hc24 hn12
  obtain ⟨E, hE⟩ : ∃ E, E = chE ls first kd l0 c0 l1 c1 := ⟨_, rfl⟩
  have HE := Lib.hid hE
  clear hE
  go_upto_block 0 with fail
  obtain ⟨q0, q1, q2, q3, q4⟩ := M2.out.ch.c
  go_cut [7] from 17 to 46 (fun u wx => u = .int .i64 E ∧ CsM w b5 kd l0 c0 l1 c1 wx)
  case first =>
    go_wp2_with fail
    refine (rows41_any F _ ls w2 (HT.out.sees M2.out.i) (HA.out.sees M2.out.i) (by have := HN12.out; omega) HNC.out first).mono ?_
    rintro e w3 ⟨rfl, hs⟩
    have M3 := Lib.hid (M2.out.sees hs)
    clear hs M2 q0 q1 q2 q3 q4
    obtain ⟨q0, q1, q2, q3, q4⟩ := M3.out.ch.c
    rcases Bool.eq_false_or_eq_true (rowsOk ls first) with hro | hro
    case inr =>
      rw [hro]
      have HE2 : Hid (E = 2) := by unfold RowKit.Hid; rw [HE.out]; unfold chE; rw [if_pos (ofE_rows hro)]
      clear hro
      go_wp2
      go_meet
      exact ⟨by rw [HE2.out], M3.out⟩
    rw [hro]
    have hof := ofE_ok hro (by have := HN12.out; omega)
    have H : Hid (ShF F w (.slice a n cp) ls first) := ⟨HA.out, HF.out, hro, by have := HN12.out; omega⟩
    have HOF := Lib.hid hof
    clear hof hro
    by_cases hk1 : kd < 1
    · have HE2 : Hid (E = 2) := by unfold RowKit.Hid; rw [HE.out]; unfold chE; rw [if_neg (by rw [HOF.out]; decide), if_pos (.inl hk1)]
      go_wp2
      go_meet
      exact ⟨by rw [HE2.out], M3.out⟩
    by_cases hk4 : 4 < kd
    · have HE2 : Hid (E = 2) := by unfold RowKit.Hid; rw [HE.out]; unfold chE; rw [if_neg (by rw [HOF.out]; decide), if_pos (.inr hk4)]
      go_wp2
      go_meet
      exact ⟨by rw [HE2.out], M3.out⟩
    have HE3 : Hid (E = if inP ls first l0 c0 && inP ls first l1 c1 then 0 else 3) := by unfold RowKit.Hid; rw [HE.out]; unfold chE; rw [if_neg (by rw [HOF.out]; decide), if_neg (by omega)]
    go_wp2_with fail
    refine (ix41 F _ ls w3 first (H.out.sees M3.out.i) l0 c0).mono ?_
    rintro e w4 ⟨⟨x, rfl, hx⟩, hs⟩
    have M4 := Lib.hid (M3.out.sees hs)
    clear hs M3 q0 q1 q2 q3 q4
    obtain ⟨q0, q1, q2, q3, q4⟩ := M4.out.ch.c
    rcases Bool.eq_false_or_eq_true (inP ls first l0 c0) with hi0 | hi0
    case inr =>
      rw [hi0] at hx
      have HE2 : Hid (E = 3) := by unfold RowKit.Hid; rw [HE3.out, hi0]; rfl
      clear hi0
      have hx2 : decide (x < 0) = true := hx
      clear hx
      go_wp2
      go_meet
      exact ⟨by rw [HE2.out], M4.out⟩
    rw [hi0] at hx
    have hx2 : decide (x < 0) = false := hx
    have HI0 := Lib.hid hi0
    clear hx hi0
    go_wp2_with fail
    refine (ix41 F _ ls w4 first (H.out.sees M4.out.i) l1 c1).mono ?_
    rintro e w5 ⟨⟨y, rfl, hy⟩, hs⟩
    have M5 := Lib.hid (M4.out.sees hs)
    clear hs M4 q0 q1 q2 q3 q4 hx2
    rcases Bool.eq_false_or_eq_true (inP ls first l1 c1) with hi1 | hi1
    · rw [hi1] at hy
      have hy2 : decide (y < 0) = false := hy
      have HE2 : Hid (E = 0) := by unfold RowKit.Hid; rw [HE3.out, HI0.out, hi1]; rfl
      clear hy hi1
      go_wp2
      go_meet
      exact ⟨by rw [HE2.out], M5.out⟩
    · rw [hi1] at hy
      have hy2 : decide (y < 0) = true := hy
      have HE2 : Hid (E = 3) := by unfold RowKit.Hid; rw [HE3.out, HI0.out, hi1]; rfl
      clear hy hi1
      go_wp2
      go_meet
      exact ⟨by rw [HE2.out], M5.out⟩
  obtain ⟨rfl, hM⟩ := hcut
  have M := Lib.hid hM
  clear hM M2 q0 q1 q2 q3 q4
  by_cases hE0 : E = 0
  case neg =>
    have hEb : (E != 0) = true := by rw [bne_iff_ne]; exact hE0
    have HE0 := Lib.hid hE0
    clear hE0
    have KT1 := Lib.hid (fun W (hs : Sees w W) => tSpansErr (HT.out.sees hs) (HA.out.sees hs) (by have := HN12.out; omega) HNC.out HL.out HE.out.symm HE0.out)
    have KT2 := Lib.hid (fun W (hs : Sees w W) => tTextsErr (HT.out.sees hs) (HA.out.sees hs) (by have := HN12.out; omega) HNC.out HL.out HE.out.symm HE0.out)
    have KT3 := Lib.hid (fun W (hs : Sees w W) => cHas_err F a n cp ls W (HT.out.sees hs) (HA.out.sees hs) (by have := HN12.out; omega) HNC.out first kd l0 c0 l1 c1 HL.out E HE.out.symm HE0.out l0 c0)
    obtain ⟨q0, q1, q2, q3, q4⟩ := M.out.ch.c
    go_wp2_with fail
    refine (KT1.out _ M.out.i).mono ?_
    rintro e w4 ⟨rfl, hs⟩
    have M4 := Lib.hid (M.out.sees hs)
    clear hs M q0 q1 q2 q3 q4
    obtain ⟨q0, q1, q2, q3, q4⟩ := M4.out.ch.c
    go_wp2_with fail
    refine (KT2.out _ M4.out.i).mono ?_
    rintro e w5 ⟨rfl, hs⟩
    have M5 := Lib.hid (M4.out.sees hs)
    clear hs M4 q0 q1 q2 q3 q4
    obtain ⟨q0, q1, q2, q3, q4⟩ := M5.out.ch.c
    go_wp2_with fail
    refine (KT3.out _ M5.out.i).mono ?_
    rintro e w6 ⟨rfl, hs⟩
    have M6 := Lib.hid (M5.out.sees hs)
    clear hs M5 q0 q1 q2 q3 q4
    go_wp2_with fail
    refine (KK.out w6 M6.out.i).mono ?_
    rintro e wk ⟨rfl, hs⟩
    have MK := Lib.hid (M6.out.sees hs)
    clear hs
    go_wp2
    go_ret
    exact ⟨rfl, MK.out.i⟩
  obtain ⟨hof, hk1, hk4, hi0, hi1⟩ := chE_ok (HE.out.symm.trans hE0)
  subst hE0
  have h : ShF F w (.slice a n cp) ls first := shF_of HA.out HF.out hof
  have H := Lib.hid h
  obtain ⟨hall, hf0, hf1⟩ := rowsOk_ok h.ok
  obtain ⟨hx, e0⟩ := pl_ix hi0
  obtain ⟨hy, e1⟩ := pl_ix hi1
  clear hof hi0 hi1 hall h HNC HE
  obtain ⟨x, hxx⟩ : ∃ x, x = ixI ls first l0 c0 := ⟨_, rfl⟩
  obtain ⟨y, hyy⟩ : ∃ y, y = ixI ls first l1 c1 := ⟨_, rfl⟩
  rw [← hxx] at hx e0
  rw [← hyy] at hy e1
  clear hxx hyy
  have hN : n = ls.length := H.out.rd.len
  have HN := Lib.hid hN
  have hM0 := (H.out.row hx)
  have hn1 : n ≤ 12 := by have := HN12.out; omega
  have hnp : 0 < n := by have := Nat.lt_of_le_of_lt (Nat.zero_le _) hM0.2.2.1; omega
  obtain ⟨Z, hZ⟩ : ∃ Z, Z = spansL ls first kd x y := ⟨_, rfl⟩
  have hZl : Z.length ≤ 1000 := by
    have q := (ch_rows (kd := kd) hx hy).2.2.2.2.2
    rw [hZ, spansL_len]
    generalize chA ls kd (min x y) / cols ls = q3
    omega
  have HZ := Lib.hid hZ
  have KSP : Hid (∀ W, Sees w W → Calls Tryd.prog 16 #[.slice a n cp, .int .i64 first, chV kd l0 c0 l1 c1] W fun e w' => ∃ v, e = .returned v ∧ snEl.Own (fun b => W.heap.size ≤ b) w' v Z ∧ Sees W w') := fun W hs => by
    have q := spanned41_any F a n cp ls W first (H.out.sees hs) kd hk1 hk4 x y hx hy
    rw [e0, e1, ← HZ.out] at q
    exact q
  have KHS : Hid (∀ W, Sees w W → ∀ l c, -9223372036854775808 ≤ l → l ≤ 9223372036854775807 → Calls Tryd.prog 15 #[.slice a n cp, .int .i64 first, chV kd l0 c0 l1 c1, .agg #[.int .i64 l, .int .i64 c]] W fun e w' => e = .returned (.bool (snHas Z l c)) ∧ Sees W w') := fun W hs l c hl0 hl1 => by
    have q := cHas_ok F a n cp ls W (HT.out.sees hs) first (H.out.sees hs) kd hk1 hk4 x y hx hy l c hl0 hl1
    rw [e0, e1, ← HZ.out] at q
    have e : (inP ls first l c && snHas Z l c) = snHas Z l c := by
      rcases Bool.eq_false_or_eq_true (snHas Z l c) with g | g
      · have g2 := g
        rw [HZ.out] at g2
        rw [g, has_in H.out.ok hx hy g2]; rfl
      · rw [g, Bool.and_false]
    rw [e] at q
    exact q
  have KTS : Hid (∀ W v, Sees w W → snEl.Rd (fun _ => True) W v Z → Calls Tryd.prog 13 #[.slice a n cp, .int .i64 first, chV kd l0 c0 l1 c1, v, .int .i64 0] W fun e w' => e = .returned (.bool true) ∧ Sees W w') := fun W v hs hr => by
    rw [HZ.out] at hr
    exact tSpans (HT.out.sees hs) (H.out.sees hs) hk1 hk4 hx hy e0 e1 hr
  obtain ⟨S, hS⟩ : ∃ S, S = strL (textL ls kd x y) := ⟨_, rfl⟩
  obtain ⟨bk, hbk⟩ : ∃ bk, bk = (kd == 4) := ⟨_, rfl⟩
  have KSD : Hid (∀ W v, Sees w W → snEl.Rd (fun _ => True) W v Z → Calls Tryd.prog 17 #[.slice a n cp, .int .i64 first, v, .bool bk] W fun e w' => e = .returned (.string S) ∧ Sees W w') := fun W v hs hr => by
    rw [HZ.out] at hr
    have q := said41_any F (fun _ => True) a n cp ls W first (H.out.sees hs) kd bk hbk x y hx hy v hr
    rw [← hS] at q
    exact q
  have KTX := Lib.hid (fun W (hs : Sees w W) => tTexts (HT.out.sees hs) (H.out.sees hs) hk1 hk4 hx hy e0 e1 hS.symm)
  obtain ⟨K, hK⟩ : ∃ K, K = cols ls := ⟨_, rfl⟩
  have hKb : K ≤ 1000 := by rw [hK]; exact hM0.2.1
  have HK := Lib.hid hK
  have HBK := Lib.hid hbk
  clear hx hy e0 e1 hN hM0 hZ hS hbk hK hk1 hk4
  obtain ⟨q0, q1, q2, q3, q4⟩ := M.out.ch.c
  go_wp2_with fail
  refine (KSP.out _ M.out.i).mono ?_
  rintro e w4 ⟨v, rfl, ho, hs⟩
  have M4 : Hid (CsN w b5 kd l0 c0 l1 c1 v Z w4) := ⟨M.out.i.trans hs, M.out.ch.sees hs, ho.rd.mono fun _ _ _ => trivial⟩
  obtain ⟨av, cv, rfl, _⟩ := ho.rd.slice'
  clear hs ho M q0 q1 q2 q3 q4 KSP
  obtain ⟨m, hm⟩ : ∃ m, m = Z.length := ⟨_, rfl⟩
  rw [← hm] at M4 hZl ⊢
  have HMZ := Lib.hid hm
  clear hm
  go_upto_region 11 with fail
  refine wpH_go (fun _ => False) 20 (by kernel_rfl) (by kernel_rfl) (by rfl) (fun hB v0 hs9 => ?_)
  have E0 := Lib.hid (M4.out.sees hs9)
  clear hs9
  have hS0 : Keeps (fun _ => False) v0 v0 := Keeps.refl _ v0
  refine wpH_take (i := 0) (v := .slice a n cp) hB (by rfl) (by kernel_rfl) (fun _ _ _ _ _ h => h) (by rfl) hS0 (fun W hI => by clear hI; go_simp) ?_; (try simp only [Act.put, List.setIfInBounds_toArray, List.set_cons_zero, List.set_cons_succ])
  refine wpH_take (i := 1) (v := .int .i64 first) hB (by rfl) (by kernel_rfl) (fun _ _ _ _ _ h => h) (by rfl) hS0 (fun W hI => by clear hI; go_simp) ?_; (try simp only [Act.put, List.setIfInBounds_toArray, List.set_cons_zero, List.set_cons_succ])
  refine wpH_take (i := 2) (v := chV kd l0 c0 l1 c1) hB (by rfl) (by kernel_rfl) (fun _ _ _ _ _ h => h) (by rfl) hS0 (fun W hI => by obtain ⟨q0, q1, q2, q3, q4⟩ := (E0.out.ch.keeps hI (fun h => h)).c; go_simp) ?_; (try simp only [Act.put, List.setIfInBounds_toArray, List.set_cons_zero, List.set_cons_succ])
  refine wpH_take (i := 3) (v := .slice av m cv) hB (by rfl) (by kernel_rfl) (fun _ _ _ _ _ h => h) (by rfl) hS0 (fun W hI => by clear hI; go_simp) ?_; (try simp only [Act.put, List.setIfInBounds_toArray, List.set_cons_zero, List.set_cons_succ])
  refine wpH_one (i := 4) (by kernel_rfl) (wpOp_enter (fn := 13) (args := #[.slice a n cp, .int .i64 first, chV kd l0 c0 l1 c1, .slice av m cv, .int .i64 0]) (by rfl) (by rfl) (by go_simp) ((KTS.out v0 _ E0.out.i E0.out.r).mono ?_))
  rintro ee v1 ⟨rfl, hs⟩
  have hTT := hS0.trans (Keeps.of_sees hs)
  refine ⟨_, rfl, hTT, ?_⟩
  (try simp only [Act.put, List.setIfInBounds_toArray, List.set_cons_zero, List.set_cons_succ])
  have E1 := Lib.hid (E0.out.sees hs)
  clear hs hS0
  have hS0 := hTT
  clear hTT
  refine wpH_take (i := 5) (v := .bool false) hB (by rfl) (by kernel_rfl) (fun _ _ _ _ _ h => h) (by rfl) hS0 (fun W hI => by clear hI; go_simp) ?_; (try simp only [Act.put, List.setIfInBounds_toArray, List.set_cons_zero, List.set_cons_succ])
  refine wpH_take (i := 6) (v := .bool false) hB (by rfl) (by kernel_rfl) (fun _ _ _ _ _ h => h) (by rfl) hS0 (fun W hI => by clear hI; go_simp) ?_; (try simp only [Act.put, List.setIfInBounds_toArray, List.set_cons_zero, List.set_cons_succ])
  refine wpH_takeG (i := 7) (v := .slice a n cp) hB (by rfl) (by kernel_rfl) (fun _ _ _ _ _ h => h) (by go_simp) hS0 (fun W hI => by clear hI; go_simp) ?_; (try simp only [Act.put, List.setIfInBounds_toArray, List.set_cons_zero, List.set_cons_succ])
  refine wpH_takeG (i := 8) (v := .int .i64 first) hB (by rfl) (by kernel_rfl) (fun _ _ _ _ _ h => h) (by go_simp) hS0 (fun W hI => by clear hI; go_simp) ?_; (try simp only [Act.put, List.setIfInBounds_toArray, List.set_cons_zero, List.set_cons_succ])
  refine wpH_takeG (i := 9) (v := chV kd l0 c0 l1 c1) hB (by rfl) (by kernel_rfl) (fun _ _ _ _ _ h => h) (by go_simp) hS0 (fun W hI => by obtain ⟨q0, q1, q2, q3, q4⟩ := (E0.out.ch.keeps hI (fun h => h)).c; go_simp) ?_; (try simp only [Act.put, List.setIfInBounds_toArray, List.set_cons_zero, List.set_cons_succ])
  refine wpH_takeG (i := 10) (v := .slice a n cp) hB (by rfl) (by kernel_rfl) (fun _ _ _ _ _ h => h) (by go_simp) hS0 (fun W hI => by clear hI; go_simp) ?_; (try simp only [Act.put, List.setIfInBounds_toArray, List.set_cons_zero, List.set_cons_succ])
  refine wpH_takeG (i := 11) (v := .int .i64 first) hB (by rfl) (by kernel_rfl) (fun _ _ _ _ _ h => h) (by go_simp) hS0 (fun W hI => by clear hI; go_simp) ?_; (try simp only [Act.put, List.setIfInBounds_toArray, List.set_cons_zero, List.set_cons_succ])
  refine wpH_takeG (i := 12) (v := .slice av m cv) hB (by rfl) (by kernel_rfl) (fun _ _ _ _ _ h => h) (by go_simp) hS0 (fun W hI => by clear hI; go_simp) ?_; (try simp only [Act.put, List.setIfInBounds_toArray, List.set_cons_zero, List.set_cons_succ])
  refine wpH_takeG (i := 13) (v := .pointer (some ⟨b5, 0, none⟩)) hB (by rfl) (by kernel_rfl) (fun _ _ _ _ _ h => h) (by go_simp) hS0 (fun W hI => by clear hI; go_simp) ?_; (try simp only [Act.put, List.setIfInBounds_toArray, List.set_cons_zero, List.set_cons_succ])
  refine wpH_takeG (i := 14) (v := .int .i64 kd) hB (by rfl) (by kernel_rfl) (fun _ _ _ _ _ h => h) (by go_simp) hS0 (fun W hI => by obtain ⟨q0, q1, q2, q3, q4⟩ := (E0.out.ch.keeps hI (fun h => h)).c; go_simp) ?_; (try simp only [Act.put, List.setIfInBounds_toArray, List.set_cons_zero, List.set_cons_succ])
  refine wpH_takeG (i := 15) (v := .bool bk) hB (by rfl) (by kernel_rfl) (fun _ _ _ _ _ h => h) (by go_simp) hS0 (fun W hI => by have hbk := HBK.out; clear hI; go_simp) ?_; (try simp only [Act.put, List.setIfInBounds_toArray, List.set_cons_zero, List.set_cons_succ])
  refine wpH_one (i := 16) (by kernel_rfl) (wpOp_enterG (fn := 17) (args := #[.slice a n cp, .int .i64 first, .slice av m cv, .bool bk]) (by rfl) (by go_simp) (by go_simp) ((KSD.out v1 _ E1.out.i E1.out.r).mono ?_))
  rintro ee v2 ⟨rfl, hs⟩
  have hTT := hS0.trans (Keeps.of_sees hs)
  refine ⟨_, rfl, hTT, ?_⟩
  (try simp only [Act.put, List.setIfInBounds_toArray, List.set_cons_zero, List.set_cons_succ])
  have E2 := Lib.hid (E1.out.sees hs)
  clear hs hS0
  have hS0 := hTT
  clear hTT
  refine wpH_one (i := 17) (by kernel_rfl) (wpOp_enterG (fn := 14) (args := #[.slice a n cp, .int .i64 first, chV kd l0 c0 l1 c1, .string S, .int .i64 0]) (by rfl) (by go_simp) (by go_simp) ((KTX.out v2 E2.out.i).mono ?_))
  rintro ee v3 ⟨rfl, hs⟩
  have hTT := hS0.trans (Keeps.of_sees hs)
  refine ⟨_, rfl, hTT, ?_⟩
  (try simp only [Act.put, List.setIfInBounds_toArray, List.set_cons_zero, List.set_cons_succ])
  have E3 := Lib.hid (E2.out.sees hs)
  clear hs hS0
  have hS0 := hTT
  clear hTT
  refine wpH_takeG (i := 18) (v := .bool false) hB (by rfl) (by kernel_rfl) (fun _ _ _ _ _ h => h) (by go_simp) hS0 (fun W hI => by clear hI; go_simp) ?_; (try simp only [Act.put, List.setIfInBounds_toArray, List.set_cons_zero, List.set_cons_succ])
  refine wpH_take (i := 19) (v := .bool false) hB (by rfl) (by kernel_rfl) (fun _ _ _ _ _ h => h) (by rfl) hS0 (fun W hI => by clear hI; go_simp) ?_; (try simp only [Act.put, List.setIfInBounds_toArray, List.set_cons_zero, List.set_cons_succ])
  refine wpH_end (by kernel_rfl) ?_
  clear hS0 hB
  have M5 := E3
  clear E0 E1 E2 E3 M4 KTS KSD KTX HBK
  obtain ⟨b1, o1, z, a0, m0, he, hfb, hz, _, y0, _, _⟩ := H.out.rd.line (show 0 < n from hnp)
  rw [Nat.zero_mul, Nat.add_zero] at y0
  have hcol := cols_of hz
  rw [← hcol, ← HK.out] at y0
  clear hcol hz hfb
  cases he
  have Y0 := Lib.hid y0
  clear y0
  have k0 : IntKind.i64.wrap (-1) = -1 := by decide
  go_upto_block 1 with fail
  go_wp2
  go_loopw [9] (fun u W => ∃ i : Int, u = .int .i64 i ∧ -1 ≤ i ∧ i ≤ (n : Int) + 1 ∧ CsN w b5 kd l0 c0 l1 c1 (.slice av m cv) Z W) (fun u _ => ((n : Int) + 1 - intOf u).toNat)
  case atStart => exact ⟨-1, rfl, by omega, by omega, M5.out⟩
  case round =>
    obtain ⟨i, rfl, hi0, hi1, hM⟩ := hrel
    have M := Lib.hid hM
    clear hM M5
    by_cases hin : i ≤ (n : Int)
    case neg =>
      have hin2 : (n : Int) < i := by omega
      go_wp2_with fail
      refine (KK.out _ M.out.i).mono ?_
      rintro e wk ⟨rfl, hs⟩
      have MK := Lib.hid (M.out.sees hs)
      clear hs
      go_wp2
      go_ret
      exact ⟨rfl, MK.out.i⟩
    have hiw : IntKind.i64.wrap (i + 1) = i + 1 := IntWalk.i64_in _ (by omega)
    obtain ⟨L, hL⟩ : ∃ L, L = first + i := ⟨_, rfl⟩
    have hLw : IntKind.i64.wrap (first + i) = L := by rw [IntWalk.i64_in _ (by omega)]; omega
    have hLb : -9223372036854775808 ≤ L ∧ L ≤ 9223372036854775807 := by omega
    clear hL
    go_wp2
    go_loopw [10] (fun u W => ∃ k : Int, u = .int .i64 k ∧ -1 ≤ k ∧ k ≤ (K : Int) + 1 ∧ CsN w b5 kd l0 c0 l1 c1 (.slice av m cv) Z W) (fun u _ => ((K : Int) + 1 - intOf u).toNat)
    case atStart => exact ⟨-1, rfl, by omega, by omega, M.out⟩
    case round =>
      obtain ⟨k, rfl, hk0, hk1, hM⟩ := hrel
      have Mk := Lib.hid hM
      clear hM M
      have y1 := Mk.out.i.cell Y0.out
      by_cases hkn : k ≤ (K : Int)
      case neg =>
        have hk2 : (K : Int) < k := by omega
        go_wp2
        have hfin : ∃ i' : Int, Value.int .i64 (i + 1) = .int .i64 i' ∧ -1 ≤ i' ∧ i' ≤ (n : Int) + 1 ∧ CsN w b5 kd l0 c0 l1 c1 (.slice av m cv) Z _ := ⟨i + 1, rfl, by omega, by omega, Mk.out⟩
        go_roundw
        case rel => first | exact hfin | ((repeat apply Exists.intro); exact ⟨hfin, rfl⟩)
        case measure => simp [intOf]; omega
      have hkw : IntKind.i64.wrap (k + 1) = k + 1 := IntWalk.i64_in _ (by omega)
      go_wp2
      clear y1
      go_loopw [11, 12] (fun u v W => ∃ j : Nat, j ≤ m ∧ u = .bool (snHas (Z.take j) L k) ∧ v = .int .i64 (j : Int) ∧ CsN w b5 kd l0 c0 l1 c1 (.slice av m cv) Z W) (fun _ v _ => m - (intOf v).toNat)
      case atStart => exact ⟨0, Nat.zero_le _, rfl, rfl, Mk.out⟩
      case round =>
        obtain ⟨j, hj, rfl, rfl, hM⟩ := hrel
        have Mj := Lib.hid hM
        clear hM Mk
        by_cases hjm : j < m
        · obtain ⟨bz, oz, s, hav, hs0, d0, d1, d2⟩ := sn_cell Mj.out.r hjm
          have hbs := has_step hs0 L k
          cases hav
          obtain ⟨Hb, hHb⟩ : ∃ Hb, Hb = snHas (Z.take j) L k := ⟨_, rfl⟩
          obtain ⟨Hc, hHc⟩ : ∃ Hc, Hc = snHas (Z.take (j + 1)) L k := ⟨_, rfl⟩
          rw [← hHb, ← hHc] at hbs
          rw [← hHb]
          have HHC := Lib.hid hHc
          have HBS := Lib.hid hbs
          clear hHb hHc hbs hs0
          have hjI : (j : Int) < (m : Int) := by omega
          have hjw : IntKind.i64.wrap ((j : Int) + 1) = ((j + 1 : Nat) : Int) := by rw [IntWalk.i64_in _ (by omega)]; omega
          generalize s.row = sr at *
          generalize s.f = sf at *
          generalize s.t = st at *
          go_upto_block 6 with fail
          go_cut [11] from 118 to 147 (fun u wx => u = .bool Hc ∧ CsN w b5 kd l0 c0 l1 c1 (.slice (some ⟨bz, oz, none⟩) m cv) Z wx)
          case first =>
            rcases Bool.eq_false_or_eq_true Hb with hb | hb
            · subst hb
              go_wp2
              go_meet
              exact ⟨by rw [HBS.out]; rfl, Mj.out⟩
            · subst hb
              rcases Bool.eq_false_or_eq_true (sr == L) with hr | hr
              · rcases Bool.eq_false_or_eq_true (decide (sf ≤ k)) with hf | hf
                · have hf' : sf ≤ k := of_decide_eq_true hf
                  rcases Bool.eq_false_or_eq_true (decide (k < st)) with ht | ht
                  · have ht' : k < st := of_decide_eq_true ht
                    go_wp2
                    go_meet
                    exact ⟨by rw [HBS.out, hr, hf, ht]; rfl, Mj.out⟩
                  · have ht' : ¬ k < st := of_decide_eq_false ht
                    go_wp2
                    go_meet
                    exact ⟨by rw [HBS.out, hr, hf, ht]; rfl, Mj.out⟩
                · have hf' : ¬ sf ≤ k := of_decide_eq_false hf
                  go_wp2
                  go_meet
                  exact ⟨by rw [HBS.out, hr, hf]; rfl, Mj.out⟩
              · go_wp2
                go_meet
                exact ⟨by rw [HBS.out, hr]; rfl, Mj.out⟩
          obtain ⟨rfl, hM⟩ := hcut
          have Mj2 := Lib.hid hM
          clear hM Mj d0 d1 d2 HBS
          go_wp2
          have hfin : ∃ j' : Nat, j' ≤ m ∧ Value.bool Hc = .bool (snHas (Z.take j') L k) ∧ Value.int .i64 ((j : Int) + 1) = .int .i64 (j' : Int) ∧ CsN w b5 kd l0 c0 l1 c1 (.slice (some ⟨bz, oz, none⟩) m cv) Z _ := ⟨j + 1, hjm, by rw [HHC.out], by congr 1, Mj2.out⟩
          go_roundw
          case rel => first | exact hfin | ((repeat apply Exists.intro); exact ⟨hfin, rfl⟩)
          case measure => simp [intOf]; omega
        · have hje : Z.take j = Z := List.take_of_length_le (by have := HMZ.out; omega)
          rw [hje]
          have hjI : (m : Int) ≤ (j : Int) := by omega
          have KH := Lib.hid (fun W hs => KHS.out W hs L k hLb.1 hLb.2)
          obtain ⟨Hz, hHz⟩ : ∃ Hz, Hz = snHas Z L k := ⟨_, rfl⟩
          rw [← hHz] at KH ⊢
          clear hHz hje
          go_upto_region 24 with fail
          refine wpH_go (fun _ => False) 11 (by kernel_rfl) (by kernel_rfl) (by rfl) (fun hB v0 hs9 => ?_)
          have E0 := Lib.hid (Mj.out.sees hs9)
          clear hs9
          have hS0 : Keeps (fun _ => False) v0 v0 := Keeps.refl _ v0
          refine wpH_take (i := 0) (v := .slice (some ⟨b1, o1, none⟩) n cp) hB (by rfl) (by kernel_rfl) (fun _ _ _ _ _ h => h) (by rfl) hS0 (fun W hI => by clear hI; go_simp) ?_; (try simp only [Act.put, List.setIfInBounds_toArray, List.set_cons_zero, List.set_cons_succ])
          refine wpH_take (i := 1) (v := .int .i64 first) hB (by rfl) (by kernel_rfl) (fun _ _ _ _ _ h => h) (by rfl) hS0 (fun W hI => by clear hI; go_simp) ?_; (try simp only [Act.put, List.setIfInBounds_toArray, List.set_cons_zero, List.set_cons_succ])
          refine wpH_take (i := 2) (v := chV kd l0 c0 l1 c1) hB (by rfl) (by kernel_rfl) (fun _ _ _ _ _ h => h) (by rfl) hS0 (fun W hI => by obtain ⟨q0, q1, q2, q3, q4⟩ := (E0.out.ch.keeps hI (fun h => h)).c; go_simp) ?_; (try simp only [Act.put, List.setIfInBounds_toArray, List.set_cons_zero, List.set_cons_succ])
          refine wpH_take (i := 3) (v := .int .i64 first) hB (by rfl) (by kernel_rfl) (fun _ _ _ _ _ h => h) (by rfl) hS0 (fun W hI => by clear hI; go_simp) ?_; (try simp only [Act.put, List.setIfInBounds_toArray, List.set_cons_zero, List.set_cons_succ])
          refine wpH_take (i := 4) (v := .int .i64 i) hB (by rfl) (by kernel_rfl) (fun _ _ _ _ _ h => h) (by rfl) hS0 (fun W hI => by clear hI; go_simp) ?_; (try simp only [Act.put, List.setIfInBounds_toArray, List.set_cons_zero, List.set_cons_succ])
          refine wpH_take (i := 5) (v := .int .i64 L) hB (by rfl) (by kernel_rfl) (fun _ _ _ _ _ h => h) (by rfl) hS0 (fun W hI => by clear hI; go_simp) ?_; (try simp only [Act.put, List.setIfInBounds_toArray, List.set_cons_zero, List.set_cons_succ])
          refine wpH_take (i := 6) (v := .int .i64 k) hB (by rfl) (by kernel_rfl) (fun _ _ _ _ _ h => h) (by rfl) hS0 (fun W hI => by clear hI; go_simp) ?_; (try simp only [Act.put, List.setIfInBounds_toArray, List.set_cons_zero, List.set_cons_succ])
          refine wpH_take (i := 9) (v := .bool Hz) hB (by rfl) (by kernel_rfl) (fun _ _ _ _ _ h => h) (by rfl) hS0 (fun W hI => by clear hI; go_simp) ?_; (try simp only [Act.put, List.setIfInBounds_toArray, List.set_cons_zero, List.set_cons_succ])
          refine wpH_one (i := 7) (by kernel_rfl) (wpOp_enter (fn := 18) (args := #[.int .i64 L, .int .i64 k]) (by rfl) (by rfl) (by go_simp) ((KP.out L k v0).mono ?_))
          rintro ee v1 ⟨rfl, hs⟩
          have hTT := hS0.trans (Keeps.of_sees hs)
          refine ⟨_, rfl, hTT, ?_⟩
          (try simp only [Act.put, List.setIfInBounds_toArray, List.set_cons_zero, List.set_cons_succ])
          have E1 := Lib.hid (E0.out.sees hs)
          clear hs hS0
          have hS0 := hTT
          clear hTT
          refine wpH_one (i := 8) (by kernel_rfl) (wpOp_enter (fn := 15) (args := #[.slice (some ⟨b1, o1, none⟩) n cp, .int .i64 first, chV kd l0 c0 l1 c1, .agg #[.int .i64 L, .int .i64 k]]) (by rfl) (by rfl) (by go_simp) ((KH.out v1 E1.out.i).mono ?_))
          rintro ee v2 ⟨rfl, hs⟩
          have hTT := hS0.trans (Keeps.of_sees hs)
          refine ⟨_, rfl, hTT, ?_⟩
          (try simp only [Act.put, List.setIfInBounds_toArray, List.set_cons_zero, List.set_cons_succ])
          have E2 := Lib.hid (E1.out.sees hs)
          clear hs hS0
          have hS0 := hTT
          clear hTT
          refine wpH_take (i := 10) (v := .bool false) hB (by rfl) (by kernel_rfl) (fun _ _ _ _ _ h => h) (by rfl) hS0 (fun W hI => by clear hI; go_simp) ?_; (try simp only [Act.put, List.setIfInBounds_toArray, List.set_cons_zero, List.set_cons_succ])
          refine wpH_end (by kernel_rfl) ?_
          clear hS0 hB
          have Mf := E2
          clear E0 E1 E2 Mj
          go_wp2
          have hfin : ∃ k' : Int, Value.int .i64 (k + 1) = .int .i64 k' ∧ -1 ≤ k' ∧ k' ≤ (K : Int) + 1 ∧ CsN w b5 kd l0 c0 l1 c1 (.slice av m cv) Z _ := ⟨k + 1, rfl, by omega, by omega, Mf.out⟩
          go_roundw
          case rel => first | exact hfin | ((repeat apply Exists.intro); exact ⟨hfin, rfl⟩)
          case measure => simp [intOf]; omega
end Go.Proofs.YtooiiefipdjbjaaDoor
