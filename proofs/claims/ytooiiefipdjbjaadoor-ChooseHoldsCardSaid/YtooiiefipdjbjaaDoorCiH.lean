/- ChooseHolds (41). The tables hold what the program's text lays. -/
import Derived.Test.YtooiiefipdjbjaaDoorCiU
namespace Go.Proofs.YtooiiefipdjbjaaDoor
set_option linter.unusedVariables false
set_option linter.unusedSimpArgs false
open Go.RowKit Go.Shelf
attribute [local go_sem] Oper.semAt_some

structure HlM (w : World) (b7 b12 b13 : Nat) (k l0 c0 l1 c1 : Int) (W : World) : Prop where
  i : Sees w W
  c7 : ChAt W b7 1 l0 c0 l1 c1
  c12 : ChAt W b12 k l0 c0 l1 c1
  c13 : ChAt W b13 k l1 c1 l0 c0
theorem HlM.sees {w W W' : World} {b7 b12 b13 : Nat} {k l0 c0 l1 c1 : Int} (h : HlM w b7 b12 b13 k l0 c0 l1 c1 W) (hs : Sees W W') : HlM w b7 b12 b13 k l0 c0 l1 c1 W' := ⟨h.i.trans hs, h.c7.sees hs, h.c12.sees hs, h.c13.sees hs⟩
structure HlN (w : World) (b7 b12 b13 : Nat) (k l0 c0 l1 c1 : Int) (v : Value) (Z : List Sn) (W : World) : Prop where
  i : Sees w W
  c7 : ChAt W b7 1 l0 c0 l1 c1
  c12 : ChAt W b12 k l0 c0 l1 c1
  c13 : ChAt W b13 k l1 c1 l0 c0
  r : snEl.Rd (fun b => b < W.heap.size) W v Z
theorem HlN.sees {w W W' : World} {b7 b12 b13 : Nat} {k l0 c0 l1 c1 : Int} {v : Value} {Z : List Sn} (h : HlN w b7 b12 b13 k l0 c0 l1 c1 v Z W) (hs : Sees W W') : HlN w b7 b12 b13 k l0 c0 l1 c1 v Z W' := ⟨h.i.trans hs, h.c7.sees hs, h.c12.sees hs, h.c13.sees hs, (h.r.sees hs).mono fun b _ hb => Nat.lt_of_lt_of_le hb hs.size⟩
structure HlO (w : World) (b7 b12 b13 b19 : Nat) (k ke l0 c0 l1 c1 : Int) (v : Value) (Z : List Sn) (W : World) : Prop where
  n : HlN w b7 b12 b13 k l0 c0 l1 c1 v Z W
  z : ChAt W b19 ke l0 c0 l1 c1
theorem HlO.sees {w W W' : World} {b7 b12 b13 b19 : Nat} {k ke l0 c0 l1 c1 : Int} {v : Value} {Z : List Sn} (h : HlO w b7 b12 b13 b19 k ke l0 c0 l1 c1 v Z W) (hs : Sees W W') : HlO w b7 b12 b13 b19 k ke l0 c0 l1 c1 v Z W' := ⟨h.n.sees hs, h.z.sees hs⟩
structure HlQ (w : World) (b7 b12 b13 : Nat) (k l0 c0 l1 c1 : Int) (v : Value) (Z : List Sn) (base : Nat) (u : Value) (bs : List Ln) (W : World) : Prop where
  n : HlN w b7 b12 b13 k l0 c0 l1 c1 v Z W
  q : lnEl.Row base (fun b => b < w.heap.size) W u bs
  i : Sees w W
  zr : snEl.Rd (fun b => b < base) W v Z
  bs : base ≤ W.heap.size
theorem HlQ.sees {w W W' : World} {b7 b12 b13 : Nat} {k l0 c0 l1 c1 : Int} {v : Value} {Z : List Sn} {base : Nat} {u : Value} {bs : List Ln} (h : HlQ w b7 b12 b13 k l0 c0 l1 c1 v Z base u bs W) (hs : Sees W W') : HlQ w b7 b12 b13 k l0 c0 l1 c1 v Z base u bs W' := ⟨h.n.sees hs, h.q.sees hs, h.i.trans hs, h.zr.sees hs, Nat.le_trans h.bs hs.size⟩
/-- What may change in the rows before. -/
theorem HlQ.soft {w W : World} {b7 b12 b13 : Nat} {k l0 c0 l1 c1 : Int} {v : Value} {Z : List Sn} {base g i : Nat} {u : Value} {bs cs : List Ln} {x : Value} (h : HlQ w b7 b12 b13 k l0 c0 l1 c1 v Z base u bs W) (hg : base ≤ g) (hb : b7 < base ∧ b12 < base ∧ b13 < base ∧ w.heap.size ≤ base) (hr : lnEl.Row base (fun b => b < w.heap.size) (W.setCell ⟨g, i, none⟩ x) u cs) : HlQ w b7 b12 b13 k l0 c0 l1 c1 v Z base u cs (W.setCell ⟨g, i, none⟩ x) := by
  have hk := cell_keeps1 W g i x
  have z := h.zr.keeps hk (fun b hb e => by have e2 : b = g := e; omega)
  have si : Sees w (W.setCell ⟨g, i, none⟩ x) := h.i.setCell (p := ⟨g, i, none⟩) (by show w.heap.size ≤ g; omega) _
  exact ⟨⟨si, h.n.c7.keeps hk (fun e => by have e2 : b7 = g := e; omega), h.n.c12.keeps hk (fun e => by have e2 : b12 = g := e; omega), h.n.c13.keeps hk (fun e => by have e2 : b13 = g := e; omega), z.mono fun b hb _ => hb⟩, hr, si, z, by have := h.bs; exact Nat.le_trans this hk.size⟩
set_option maxHeartbeats 8000000 in
set_option maxRecDepth 100000 in
theorem chooseholds_true (F G : Nat → Prop) (a : Option Addr) (n cp : Nat) (ls : List Ln) (a2 : Option Addr) (n2 cp2 : Nat) (bs : List Ln) (w : World) (ht : Tabs w) (ha : lnEl.Rd F w (.slice a n cp) ls) (hF : ∀ b, F b → b < w.heap.size) (hb : lnEl.Rd G w (.slice a2 n2 cp2) bs) (hG : ∀ b, G b → b < w.heap.size) (first kd l0 c0 l1 c1 : Int) (hl0 : -9223372036854775808 ≤ l0 ∧ l0 ≤ 9223372036854775807) (hl1 : -9223372036854775808 ≤ l1 ∧ l1 ≤ 9223372036854775807) :
    Calls Tryd.prog 6 #[.slice a n cp, .slice a2 n2 cp2, .int .i64 first, .agg #[.int .i64 kd, .int .i64 l0, .int .i64 c0, .int .i64 l1, .int .i64 c1]] w fun e w' => e = .returned (.bool true) ∧ Sees w w' := by
  have KP := Lib.hid (fun l c W => at41_any l c W)
  have KC := Lib.hid (fun k a b c d W => choice41_any k a b c d W)
  have KK := Lib.hid (fun W (hs : Sees w W) => known41_any W (ht.sees hs))
  have KS := Lib.hid (fun W (hs : Sees w W) => small41_any F _ ls W (ha.sees hs))
  have HA := Lib.hid ha
  have HB := Lib.hid hb
  have HT := Lib.hid ht
  have HL := Lib.hid (And.intro hl0 hl1)
  have HF := Lib.hid hF
  have HGG := Lib.hid hG
  have HN2 := Lib.hid hb.len
  clear ha ht hl0 hl1 hF hb hG
  go_enter Tryd.func6, Tryd.ntmps6
  go_upto_region 1 with fail
  refine wp_world fun W1 hW1 => ?_
  have p1 : ChAt W1 w.heap.size kd l0 c0 l1 c1 := by subst hW1; exact heap_alloc_new w _
  have s1 : Sees w W1 := by subst hW1; exact (Sees.refl w).alloc _
  obtain ⟨b7, hb7⟩ : ∃ b7, b7 = w.heap.size := ⟨_, rfl⟩
  rw [← hb7] at p1 ⊢
  have HB7 := Lib.hid hb7
  have M1 : Hid (CsM w b7 kd l0 c0 l1 c1 W1) := ⟨s1, p1⟩
  clear hW1 p1 s1 hb7
  go_wp2_with fail
  refine (KS.out W1 M1.out.i).mono ?_
  rintro e w2 ⟨rfl, hs⟩
  have M2 := Lib.hid (M1.out.sees hs)
  clear hs M1
  rcases Bool.eq_false_or_eq_true (small41 ls) with hsm | hsm
  case inr =>
    rw [hsm]
    clear hsm
    go_wp2_with fail
    refine (KK.out w2 M2.out.i).mono ?_
    rintro e wk ⟨rfl, hs⟩
    have MK := Lib.hid (M2.out.i.trans hs)
    clear hs
    go_wp2
    go_ret
    exact ⟨rfl, MK.out⟩
  rw [hsm]
  obtain ⟨hn12, hc24⟩ := small41_ok hsm
  have HNC : Hid (∀ x ∈ ls, x.cells.length ≤ 1000000) := fun x hx => by have := hc24 x hx; omega
  have HN12 := Lib.hid hn12
  clear hsm hc24 hn12
  by_cases hn6 : n2 ≤ 6
  case neg =>
    have hn6I : (n2 : Int) > 6 := by omega
    go_wp2_with fail
    refine (KK.out w2 M2.out.i).mono ?_
    rintro e wk ⟨rfl, hs⟩
    have MK := Lib.hid (M2.out.i.trans hs)
    clear hs
    go_wp2
    go_ret
    exact ⟨rfl, MK.out⟩
  have hn6I : ¬ (n2 : Int) > 6 := by omega
  by_cases hf100 : first < 100
  · skip
    go_wp2_with fail
    refine (KK.out w2 M2.out.i).mono ?_
    rintro e wk ⟨rfl, hs⟩
    have MK := Lib.hid (M2.out.i.trans hs)
    clear hs
    go_wp2
    go_ret
    exact ⟨rfl, MK.out⟩
  obtain ⟨q0, q1, q2, q3, q4⟩ := M2.out.ch.c
  have hfr : ∀ i, w2.frozen? ⟨b7, i, none⟩ = false := M2.out.ch.fr
  go_upto_region 4 with fail
  refine wp_world fun W3 hW3 => ?_
  have M3 : Hid (CsM w b7 1 l0 c0 l1 c1 W3) := by
    subst hW3
    exact ⟨M2.out.i.setCell (p := ⟨b7, 0, none⟩) (by show w.heap.size ≤ b7; have := HB7.out; omega) _, heap_setCell_same _ b7 0 _ _ (.int .i64 1) M2.out.ch⟩
  clear hW3 M2 q0 q1 q2 q3 q4 hfr
  obtain ⟨E, hE⟩ : ∃ E, E = chE ls first 1 l0 c0 l1 c1 := ⟨_, rfl⟩
  have HE := Lib.hid hE
  clear hE
  obtain ⟨q0, q1, q2, q3, q4⟩ := M3.out.ch.c
  by_cases hE0 : E = 0
  case neg =>
    have hEb : (E != 0) = true := by rw [bne_iff_ne]; exact hE0
    have KT := Lib.hid (cSpans_err F a n cp ls W3 (HT.out.sees M3.out.i) (HA.out.sees M3.out.i) (by have := HN12.out; omega) HNC.out first 1 l0 c0 l1 c1 HL.out E HE.out.symm hE0)
    clear hE0
    go_wp2_with fail
    refine KT.out.mono ?_
    rintro e w4 ⟨rfl, hs⟩
    have M4 := Lib.hid (M3.out.sees hs)
    clear hs M3 q0 q1 q2 q3 q4
    go_wp2_with fail
    refine (KK.out w4 M4.out.i).mono ?_
    rintro e wk ⟨rfl, hs⟩
    have MK := Lib.hid (M4.out.i.trans hs)
    clear hs
    go_wp2
    go_ret
    exact ⟨rfl, MK.out⟩
  obtain ⟨hof, _, _, hi0, hi1⟩ := chE_ok (HE.out.symm.trans hE0)
  subst hE0
  have h : ShF F w (.slice a n cp) ls first := shF_of HA.out HF.out hof
  have H := Lib.hid h
  have HOF := Lib.hid hof
  obtain ⟨hall, hf0, hf1⟩ := rowsOk_ok h.ok
  obtain ⟨hx, e0⟩ := pl_ix hi0
  obtain ⟨hy, e1⟩ := pl_ix hi1
  clear hof hi0 hi1 hall h HNC HE
  obtain ⟨x, hxx⟩ : ∃ x, x = ixI ls first l0 c0 := ⟨_, rfl⟩
  obtain ⟨y, hyy⟩ : ∃ y, y = ixI ls first l1 c1 := ⟨_, rfl⟩
  rw [← hxx] at hx e0
  rw [← hyy] at hy e1
  clear hxx hyy
  have HX := Lib.hid hx
  have HY := Lib.hid hy
  have EP0 := Lib.hid e0
  have EP1 := Lib.hid e1
  have HN := Lib.hid H.out.rd.len
  have hn1 : n ≤ 12 := by have := HN.out; have := HN12.out; omega
  have hnp : 0 < n := by have := Nat.lt_of_le_of_lt (Nat.zero_le _) (H.out.row hx).2.2.1; have := HN.out; omega
  clear hx hy e0 e1
  have KSP : Hid (∀ k : Int, 1 ≤ k → k ≤ 4 → ∀ W, Sees w W → Calls Tryd.prog 26 #[.slice a n cp, .int .i64 first, chV k l0 c0 l1 c1] W fun e w' => ∃ v, e = .returned (.tuple #[v, .int .i64 0]) ∧ snEl.Own (fun b => W.heap.size ≤ b) w' v (spansL ls first k x y) ∧ Sees W w') := fun k h1 h4 W hs => by
    have q := cSpans_ok F a n cp ls W (HT.out.sees hs) first (H.out.sees hs) k h1 h4 x y HX.out HY.out
    rw [EP0.out, EP1.out] at q
    exact q
  have KTX : Hid (∀ k : Int, 1 ≤ k → k ≤ 4 → ∀ W, Sees w W → Calls Tryd.prog 27 #[.slice a n cp, .int .i64 first, chV k l0 c0 l1 c1] W fun e w' => e = .returned (.tuple #[.string (strL (textL ls k x y)), .int .i64 0]) ∧ Sees W w') := fun k h1 h4 W hs => by
    have q := cText_ok F a n cp ls W (HT.out.sees hs) first (H.out.sees hs) k h1 h4 x y HX.out HY.out
    rw [EP0.out, EP1.out] at q
    exact q
  have KSW : Hid (∀ k : Int, 1 ≤ k → k ≤ 4 → ∀ W u, Sees w W → snEl.Rd (fun b => b < W.heap.size) W u (spansL ls first k x y) → Calls Tryd.prog 13 #[.slice a n cp, .int .i64 first, chV k l1 c1 l0 c0, u, .int .i64 0] W fun e w' => e = .returned (.bool true) ∧ Sees W w') := fun k h1 h4 W u hs hr => by
    rw [← spansL_swap] at hr
    exact tSpans (HT.out.sees hs) (H.out.sees hs) h1 h4 HY.out HX.out EP1.out EP0.out hr
  have KTW : Hid (∀ k : Int, 1 ≤ k → k ≤ 4 → ∀ W, Sees w W → Calls Tryd.prog 14 #[.slice a n cp, .int .i64 first, chV k l1 c1 l0 c0, .string (strL (textL ls k x y)), .int .i64 0] W fun e w' => e = .returned (.bool true) ∧ Sees W w') := fun k h1 h4 W hs =>
    tTexts (HT.out.sees hs) (H.out.sees hs) h1 h4 HY.out HX.out EP1.out EP0.out (by rw [textL_swap])
  have KHS : Hid (∀ k : Int, 1 ≤ k → k ≤ 4 → ∀ W, Sees w W → ∀ l c, snHas (spansL ls first k x y) l c = true → Calls Tryd.prog 15 #[.slice a n cp, .int .i64 first, chV k l0 c0 l1 c1, .agg #[.int .i64 l, .int .i64 c]] W fun e w' => e = .returned (.bool true) ∧ Sees W w') := fun k h1 h4 W hs l c hh => by
    have hin := has_in H.out.ok HX.out HY.out hh
    obtain ⟨g1, g2⟩ := pl_ix hin
    obtain ⟨_, z0, z1⟩ := rowsOk_ok H.out.ok
    have hb := plI_in z0 z1 H.out.len g1
    rw [g2] at hb
    have q := cHas_ok F a n cp ls W (HT.out.sees hs) first (H.out.sees hs) k h1 h4 x y HX.out HY.out l c hb.1 hb.2
    rw [EP0.out, EP1.out, hin, hh] at q
    exact q
  have HB0 : Hid (∀ k : Int, snHas (spansL ls first k x y) l0 c0 = true) := fun k => by have q := has_both (first := first) (kd := k) HX.out HY.out (.inl rfl); rw [EP0.out] at q; exact q
  have HB1 : Hid (∀ k : Int, snHas (spansL ls first k x y) l1 c1 = true) := fun k => by have q := has_both (first := first) (kd := k) HX.out HY.out (.inr rfl); rw [EP1.out] at q; exact q
  have HZL : Hid (∀ k : Int, 1 ≤ (spansL ls first k x y).length ∧ (spansL ls first k x y).length ≤ 12) := fun k => by
    have q := ch_rows (kd := k) HX.out HY.out
    have q5 := q.2.2.2.2.1
    have q6 := q.2.2.2.2.2
    have := HN12.out
    rw [spansL_len]
    generalize chA ls k (min x y) / cols ls = q3 at *
    generalize chB ls k (max x y) / cols ls = q4 at *
    omega
  go_wp2_with fail
  refine (KSP.out 1 (by decide) (by decide) _ M3.out.i).mono ?_
  rintro e w4 ⟨v, rfl, ho, hs⟩
  have M4 := Lib.hid (M3.out.sees hs)
  obtain ⟨av, cv, rfl, _⟩ := ho.rd.slice'
  clear hs M3 q0 q1 q2 q3 q4 ho
  obtain ⟨m1, hm1⟩ : ∃ m1, m1 = (spansL ls first 1 x y).length := ⟨_, rfl⟩
  have hmm := HZL.out 1
  rw [← hm1] at hmm ⊢
  have hm0 : ((m1 : Int) == 0) = false := by rw [beq_eq_false_iff_ne]; omega
  clear hm1 hmm
  go_upto_block 0 with fail
  go_wp2
  go_loopw [11] (fun u W => ∃ k : Nat, u = .int .i64 (k : Int) ∧ 1 ≤ k ∧ k ≤ 5 ∧ CsM w b7 1 l0 c0 l1 c1 W) (fun u _ => 5 - (intOf u).toNat)
  case atStart => exact ⟨1, rfl, by omega, by omega, M4.out⟩
  case round =>
    obtain ⟨k, rfl, hk1, hk5, hM⟩ := hrel
    have M := Lib.hid hM
    clear hM M4
    by_cases hk4 : k ≤ 4
    case neg =>
      have hkI : (4 : Int) < (k : Int) := by omega
      have hM0 := (H.out.row HX.out)
      obtain ⟨K, hK⟩ : ∃ K, K = cols ls := ⟨_, rfl⟩
      obtain ⟨r, hr⟩ : ∃ r, r = x / cols ls := ⟨_, rfl⟩
      have hrl : r < ls.length := by rw [hr]; exact hM0.2.2.1
      have hKp : 0 < K := by rw [hK]; exact hM0.1
      have hKb : K ≤ 1000 := by rw [hK]; exact hM0.2.1
      have hl0 : l0 = first + (r : Int) := by have q := congrArg Prod.fst EP0.out; rw [hr]; exact q.symm
      have hc0 : c0 = ((x % cols ls : Nat) : Int) := (congrArg Prod.snd EP0.out).symm
      have hxm := Nat.mod_lt x hM0.1
      obtain ⟨tp, htp⟩ : ∃ tp, tp = topI ls r := ⟨_, rfl⟩
      obtain ⟨bt, hbt⟩ : ∃ bt, bt = botI ls r := ⟨_, rfl⟩
      have htl : tp < ls.length := by rw [htp]; exact topI_lt hrl
      have hbl : bt < ls.length := by rw [hbt]; exact botI_lt hrl
      obtain ⟨T, hT⟩ : ∃ T, T = first + (tp : Int) := ⟨_, rfl⟩
      obtain ⟨B, hB⟩ : ∃ B, B = first + (bt : Int) := ⟨_, rfl⟩
      obtain ⟨FN, hFN⟩ : ∃ FN, FN = first + (n : Int) := ⟨_, rfl⟩
      have kfn : IntKind.i64.wrap (first + (n : Int)) = FN := by rw [IntWalk.i64_in _ (by omega)]; omega
      have hdT : ¬ (T < first) := by omega
      have hdB : ¬ (FN ≤ B) := by have := HN.out; omega
      have hdB' : ¬ (B ≥ FN) := hdB
      have kwk : IntKind.i64.wrap ((K : Int) - 1) = ((K - 1 : Nat) : Int) := by rw [IntWalk.i64_in _ (by omega)]; omega
      have KLG : Hid (∀ W, Sees w W → Calls Tryd.prog 29 #[.slice a n cp, .int .i64 first, .agg #[.int .i64 l0, .int .i64 c0]] W fun e w' => e = .returned (.tuple #[.int .i64 T, .int .i64 B, .int .i64 0]) ∧ Sees W w') := fun W hs => by
        have q := logical_ok F _ ls W (HT.out.sees hs) (HA.out.sees hs) (by have := HN12.out; omega) (rows_cells H.out.ok) first HOF.out r hrl c0 l0 hl0 (by omega) (by omega)
        rw [← htp, ← hbt, ← hT, ← hB] at q
        exact q
      have k1 : (tp + 1) * K ≤ ls.length * K := Nat.mul_le_mul_right _ htl
      have k2 : (bt + 1) * K ≤ ls.length * K := Nat.mul_le_mul_right _ hbl
      rw [Nat.succ_mul] at k1 k2
      have g1 := dm (r := tp) (c := 0) hKp
      have g2 := dm (r := bt) (c := 0) hKp
      have g3 := dm (r := bt) (c := K - 1) (show K - 1 < K by omega)
      rw [Nat.add_zero] at g1 g2
      have p1 : plI ls first (tp * K) = (T, 0) := by unfold plI; rw [← hK, g1.1, g1.2, ← hT]; rfl
      have p2 : plI ls first (bt * K) = (B, 0) := by unfold plI; rw [← hK, g2.1, g2.2, ← hB]; rfl
      have p3 : plI ls first (bt * K + (K - 1)) = (B, ((K - 1 : Nat) : Int)) := by unfold plI; rw [← hK, g3.1, g3.2, ← hB]
      have i1 : tp * K < ls.length * cols ls := by rw [← hK]; omega
      have i2 : bt * K < ls.length * cols ls := by rw [← hK]; omega
      have i3 : bt * K + (K - 1) < ls.length * cols ls := by rw [← hK]; omega
      have w1 := whole_text HX.out 1 (.inl rfl)
      have w2' := whole_text HX.out 2 (.inr rfl)
      rw [← hr, ← htp, ← hbt, ← hK] at w1 w2'
      obtain ⟨S, hS⟩ : ∃ S, S = strL (textL ls 3 (tp * K) (bt * K)) := ⟨_, rfl⟩
      have KT3 : Hid (∀ W, Sees w W → Calls Tryd.prog 27 #[.slice a n cp, .int .i64 first, chV 3 T 0 B 0] W fun e w' => e = .returned (.tuple #[.string S, .int .i64 0]) ∧ Sees W w') := fun W hs => by
        have q := cText_ok F a n cp ls W (HT.out.sees hs) first (H.out.sees hs) 3 (by decide) (by decide) (tp * K) (bt * K) i1 i2
        rw [p1, p2, ← hS] at q
        exact q
      have KT1 := Lib.hid (fun W (hs : Sees w W) => tTexts (HT.out.sees hs) (H.out.sees hs) (kd := 1) (s := S) (by decide) (by decide) i1 i3 p1 p3 (by rw [w1, hS]))
      have KT2 := Lib.hid (fun W (hs : Sees w W) => tTexts (HT.out.sees hs) (H.out.sees hs) (kd := 2) (s := S) (by decide) (by decide) i1 i3 p1 p3 (by rw [w2', hS]))
      obtain ⟨b1, o1, z, a0, m0, he2, _, hz, _, y0, _, _⟩ := H.out.rd.line (show 0 < n from hnp)
      rw [Nat.zero_mul, Nat.add_zero] at y0
      have hcol := cols_of hz
      rw [← hcol, ← hK] at y0
      have Y0 := Lib.hid y0
      cases he2
      clear hM0 hK hr hrl hl0 hc0 hxm htp hbt htl hbl hT hB hFN k1 k2 g1 g2 g3 p1 p2 p3 i1 i2 i3 w1 w2' hS hz hcol y0 KSP KTX KSW KTW KHS
      obtain ⟨r0, r1, r2, r3, r4⟩ := M.out.ch.c
      go_wp2_with fail
      refine (KLG.out _ M.out.i).mono ?_
      rintro e t1 ⟨rfl, hs⟩
      have M1 := Lib.hid (M.out.sees hs)
      clear hs M r0 r1 r2 r3 r4
      have y1 := M1.out.i.cell Y0.out
      go_wp2_with fail
      refine (KC.out 3 T 0 B 0 t1).mono ?_
      rintro e t2 ⟨rfl, hs⟩
      have M2 := Lib.hid (M1.out.sees hs)
      clear hs M1 y1
      go_wp2_with fail
      refine (KT3.out t2 M2.out.i).mono ?_
      rintro e t3 ⟨rfl, hs⟩
      have M3 := Lib.hid (M2.out.sees hs)
      clear hs M2
      go_wp2_with fail
      refine (KC.out 1 T 0 B ((K - 1 : Nat) : Int) t3).mono ?_
      rintro e t4 ⟨rfl, hs⟩
      have M4 := Lib.hid (M3.out.sees hs)
      clear hs M3
      go_wp2_with fail
      refine (KT1.out t4 M4.out.i).mono ?_
      rintro e t5 ⟨rfl, hs⟩
      have M5 := Lib.hid (M4.out.sees hs)
      clear hs M4
      go_wp2_with fail
      refine (KC.out 2 T 0 B ((K - 1 : Nat) : Int) t5).mono ?_
      rintro e t6 ⟨rfl, hs⟩
      have M6 := Lib.hid (M5.out.sees hs)
      clear hs M5
      go_wp2_with fail
      refine (KT2.out t6 M6.out.i).mono ?_
      rintro e t7 ⟨rfl, hs⟩
      have M7 := Lib.hid (M6.out.sees hs)
      clear hs M6
      go_wp2_with fail
      refine (KK.out t7 M7.out.i).mono ?_
      rintro e wk ⟨rfl, hs⟩
      have MK := Lib.hid (M7.out.i.trans hs)
      clear hs
      go_wp2
      go_ret
      exact ⟨rfl, MK.out⟩
    have hkI : (k : Int) ≤ 4 := by omega
    have hkw : IntKind.i64.wrap ((k : Int) + 1) = ((k + 1 : Nat) : Int) := by rw [IntWalk.i64_in _ (by omega)]; omega
    have hk1' : 1 ≤ (k : Int) := by omega
    obtain ⟨r0, r1, r2, r3, r4⟩ := M.out.ch.c
    go_upto_region 11 with fail
    refine wp_world fun wa hwa => ?_
    have hq1 : ChAt wa wr.heap.size k l0 c0 l1 c1 := by subst hwa; exact heap_alloc_new wr _
    have hs : Sees wr wa := by subst hwa; exact (Sees.refl wr).alloc _
    obtain ⟨b12, hb12⟩ : ∃ b12, b12 = wr.heap.size := ⟨_, rfl⟩
    rw [← hb12] at hq1 ⊢
    have Ma := Lib.hid (M.out.sees hs)
    have Q1 := Lib.hid hq1
    clear hwa hq1 hs M r0 r1 r2 r3 r4 hb12
    obtain ⟨r0, r1, r2, r3, r4⟩ := Ma.out.ch.c
    go_upto_region 12 with fail
    refine wp_world fun wb hwb => ?_
    have hq2 : ChAt wb wa.heap.size k l1 c1 l0 c0 := by subst hwb; exact heap_alloc_new wa _
    have hs : Sees wa wb := by subst hwb; exact (Sees.refl wa).alloc _
    obtain ⟨b13, hb13⟩ : ∃ b13, b13 = wa.heap.size := ⟨_, rfl⟩
    rw [← hb13] at hq2 ⊢
    have N0 : Hid (HlM w b7 b12 b13 k l0 c0 l1 c1 wb) := ⟨Ma.out.i.trans hs, Ma.out.ch.sees hs, Q1.out.sees hs, hq2⟩
    clear hwb hq2 hs hb13 Ma Q1 r0 r1 r2 r3 r4
    obtain ⟨q0, q1, q2, q3, q4⟩ := N0.out.c12.c
    go_wp2_with fail
    refine (KSP.out k hk1' hkI _ N0.out.i).mono ?_
    rintro e x1 ⟨v, rfl, ho, hs⟩
    have N1 := Lib.hid (N0.out.sees hs)
    obtain ⟨av2, cv2, rfl, _⟩ := ho.rd.slice'
    obtain ⟨Z, hZ⟩ : ∃ Z, Z = spansL ls first k x y := ⟨_, rfl⟩
    rw [← hZ] at ho ⊢
    obtain ⟨m, hm⟩ : ∃ m, m = Z.length := ⟨_, rfl⟩
    rw [← hm]
    have R1 : Hid (HlN w b7 b12 b13 k l0 c0 l1 c1 (.slice av2 m cv2) Z x1) := ⟨N1.out.i, N1.out.c7, N1.out.c12, N1.out.c13, by rw [hm]; exact ho.cut.rd.mono fun _ _ hb => hb.2⟩
    have HZ := Lib.hid hZ
    have HM := Lib.hid hm
    have hmb : m ≤ 12 := by have := (HZL.out k).2; rw [← hZ, ← hm] at this; exact this
    clear N1 ho hZ hm
    clear hs N0 q0 q1 q2 q3 q4
    obtain ⟨q0, q1, q2, q3, q4⟩ := R1.out.c12.c
    go_wp2_with fail
    refine (KTX.out k hk1' hkI _ R1.out.i).mono ?_
    rintro e x2 ⟨rfl, hs⟩
    have R2 := Lib.hid (R1.out.sees hs)
    clear hs R1 q0 q1 q2 q3 q4
    obtain ⟨p0, p1, p2, p3, p4⟩ := R2.out.c13.c
    go_wp2_with fail
    refine (KSW.out k hk1' hkI _ _ R2.out.i (by rw [← HZ.out]; exact R2.out.r)).mono ?_
    rintro e x3 ⟨rfl, hs⟩
    have R3 := Lib.hid (R2.out.sees hs)
    clear hs R2 p0 p1 p2 p3 p4
    obtain ⟨p0, p1, p2, p3, p4⟩ := R3.out.c13.c
    go_wp2_with fail
    refine (KTW.out k hk1' hkI _ R3.out.i).mono ?_
    rintro e x4 ⟨rfl, hs⟩
    have R4 := Lib.hid (R3.out.sees hs)
    clear hs R3 p0 p1 p2 p3 p4
    obtain ⟨q0, q1, q2, q3, q4⟩ := R4.out.c12.c
    obtain ⟨r0, r1, r2, r3, r4⟩ := R4.out.c7.c
    go_wp2_with fail
    refine (KHS.out k hk1' hkI _ R4.out.i l0 c0 (HB0.out k)).mono ?_
    rintro e x5 ⟨rfl, hs⟩
    have R5 := Lib.hid (R4.out.sees hs)
    clear hs R4 q0 q1 q2 q3 q4 r0 r1 r2 r3 r4
    obtain ⟨q0, q1, q2, q3, q4⟩ := R5.out.c12.c
    obtain ⟨r0, r1, r2, r3, r4⟩ := R5.out.c7.c
    go_wp2_with fail
    refine (KHS.out k hk1' hkI _ R5.out.i l1 c1 (HB1.out k)).mono ?_
    rintro e x6 ⟨rfl, hs⟩
    have R6 := Lib.hid (R5.out.sees hs)
    clear hs R5 q0 q1 q2 q3 q4 r0 r1 r2 r3 r4
    by_cases hk3 : k = 4
    · have hk4b : ((k : Int) == 4) = true := by rw [hk3]; rfl
      clear hk3
      have M7 := Lib.hid (show CsM w b7 1 l0 c0 l1 c1 x6 from ⟨R6.out.i, R6.out.c7⟩)
      clear R6
      go_wp2
      have hfin : ∃ k' : Nat, Value.int .i64 ((k : Int) + 1) = .int .i64 (k' : Int) ∧ 1 ≤ k' ∧ k' ≤ 5 ∧ CsM w b7 1 l0 c0 l1 c1 x6 := ⟨k + 1, by congr 1, by omega, by omega, M7.out⟩
      go_roundw
      case rel => first | exact hfin | ((repeat apply Exists.intro); exact ⟨hfin, rfl⟩)
      case measure => simp [intOf]; omega
    have hk4b : ((k : Int) == 4) = false := by rw [beq_eq_false_iff_ne]; omega
    have hk3' : k ≤ 3 := by omega
    go_upto_block 2 with fail
    go_wp2
    go_loopw [18] (fun u W => ∃ j : Nat, u = .int .i64 (j : Int) ∧ j ≤ m ∧ HlN w b7 b12 b13 k l0 c0 l1 c1 (.slice av2 m cv2) Z W) (fun u _ => m - (intOf u).toNat)
    case atStart => exact ⟨0, rfl, Nat.zero_le _, R6.out⟩
    case round =>
      obtain ⟨j, rfl, hj, hM⟩ := hrel
      have R := Lib.hid hM
      clear hM R6
      by_cases hjm : j < m
      · obtain ⟨bz, oz, s, hav, hs0, d0, d1, d2⟩ := sn_cell R.out.r hjm
        obtain ⟨ke, hke⟩ : ∃ ke : Nat, ke = min (k + 1) 3 := ⟨_, rfl⟩
        have hkm : min ((k : Int) + 1) 3 = (ke : Int) := by omega
        have hke1 : 1 ≤ (ke : Int) := by omega
        have hke4 : (ke : Int) ≤ 4 := by omega
        rw [HZ.out] at hs0
        have hw := has_wide (first := first) (kd := k) (ke := ke) HX.out HY.out (by omega) hs0
        obtain ⟨g1, g2⟩ := pl_ix (has_in H.out.ok HX.out HY.out hw.2)
        have g3 : (((ixI ls first s.row (s.t - 1)) % cols ls : Nat) : Int) = s.t - 1 := congrArg Prod.snd g2
        have g4 := Nat.mod_lt (ixI ls first s.row (s.t - 1)) (H.out.row HX.out).1
        have g5 := (H.out.row HX.out).2.1
        generalize (ixI ls first s.row (s.t - 1)) % cols ls = g6 at *
        obtain ⟨st1, hst1⟩ : ∃ st1, st1 = s.t - 1 := ⟨_, rfl⟩
        have hstw : IntKind.i64.wrap (s.t - 1) = st1 := by rw [IntWalk.i64_in _ (by omega)]; omega
        rw [← hst1] at hw
        have HW1 := Lib.hid hw.1
        have HW2 := Lib.hid hw.2
        have hjI : (j : Int) < (m : Int) := by omega
        have hjw : IntKind.i64.wrap ((j : Int) + 1) = ((j + 1 : Nat) : Int) := by rw [IntWalk.i64_in _ (by omega)]; omega
        cases hav
        clear hw g1 g2 g3 g4 g5 hst1 hs0 hke
        generalize s.row = sr at *
        generalize s.f = sf at *
        generalize s.t = st at *
        have D0 := Lib.hid d0
        have D1 := Lib.hid d1
        have D2 := Lib.hid d2
        clear d0 d1 d2
        obtain ⟨r0, r1, r2, r3, r4⟩ := R.out.c7.c
        go_upto_region 21 with fail
        refine wp_world fun wa hwa => ?_
        have sA : Sees wr wa := by subst hwa; exact (Sees.refl wr).alloc _
        obtain ⟨b19, hb19⟩ : ∃ b19, b19 = wr.heap.size := ⟨_, rfl⟩
        have EE : Hid (HlO w b7 b12 b13 b19 k ke l0 c0 l1 c1 (.slice (some ⟨bz, oz, none⟩) m cv2) Z wa) := ⟨R.out.sees sA, by rw [hb19]; subst hwa; exact heap_alloc_new wr _⟩
        rw [← hb19]
        have D3 := Lib.hid (sA.cell D0.out)
        have D4 := Lib.hid (sA.cell D1.out)
        have D5 := Lib.hid (sA.cell D2.out)
        clear hwa sA hb19 R r0 r1 r2 r3 r4 D0 D1 D2
        refine wpH_go (fun _ => False) 35 (by kernel_rfl) (by kernel_rfl) (by rfl) (fun hB v0 hs9 => ?_)
        have E0 := Lib.hid (EE.out.sees hs9)
        have D6 := Lib.hid (hs9.cell D3.out)
        have D7 := Lib.hid (hs9.cell D4.out)
        have D8 := Lib.hid (hs9.cell D5.out)
        clear hs9
        have hS0 : Keeps (fun _ => False) v0 v0 := Keeps.refl _ v0
        refine wpH_take (i := 0) (v := .slice a n cp) hB (by rfl) (by kernel_rfl) (fun _ _ _ _ _ h => h) (by rfl) hS0 (fun W hI => by clear hI; go_simp) ?_; (try simp only [Act.put, List.setIfInBounds_toArray, List.set_cons_zero, List.set_cons_succ])
        refine wpH_take (i := 1) (v := .int .i64 first) hB (by rfl) (by kernel_rfl) (fun _ _ _ _ _ h => h) (by rfl) hS0 (fun W hI => by clear hI; go_simp) ?_; (try simp only [Act.put, List.setIfInBounds_toArray, List.set_cons_zero, List.set_cons_succ])
        refine wpH_take (i := 2) (v := chV ke l0 c0 l1 c1) hB (by rfl) (by kernel_rfl) (fun _ _ _ _ _ h => h) (by rfl) hS0 (fun W hI => by obtain ⟨z0, z1, z2, z3, z4⟩ := (E0.out.z.keeps hI (fun h => h)).c; go_simp) ?_; (try simp only [Act.put, List.setIfInBounds_toArray, List.set_cons_zero, List.set_cons_succ])
        refine wpH_take (i := 3) (v := .slice (some ⟨bz, oz, none⟩) m cv2) hB (by rfl) (by kernel_rfl) (fun _ _ _ _ _ h => h) (by rfl) hS0 (fun W hI => by clear hI; go_simp) ?_; (try simp only [Act.put, List.setIfInBounds_toArray, List.set_cons_zero, List.set_cons_succ])
        refine wpH_take (i := 4) (v := .int .i64 (j : Int)) hB (by rfl) (by kernel_rfl) (fun _ _ _ _ _ h => h) (by rfl) hS0 (fun W hI => by clear hI; go_simp) ?_; (try simp only [Act.put, List.setIfInBounds_toArray, List.set_cons_zero, List.set_cons_succ])
        refine wpH_take (i := 5) (v := .pointer (some ⟨bz, oz + j * 3, none⟩)) hB (by rfl) (by kernel_rfl) (fun _ _ _ _ _ h => h) (by rfl) hS0 (fun W hI => by clear hI; go_simp) ?_; (try simp only [Act.put, List.setIfInBounds_toArray, List.set_cons_zero, List.set_cons_succ])
        refine wpH_take (i := 6) (v := .pointer (some ⟨bz, oz + j * 3, none⟩)) hB (by rfl) (by kernel_rfl) (fun _ _ _ _ _ h => h) (by rfl) hS0 (fun W hI => by clear hI; go_simp) ?_; (try simp only [Act.put, List.setIfInBounds_toArray, List.set_cons_zero, List.set_cons_succ])
        refine wpH_take (i := 7) (v := .int .i64 sr) hB (by rfl) (by kernel_rfl) (fun _ _ _ _ _ h => h) (by rfl) hS0 (fun W hI => by have d := (hI.sees_end (fun _ _ h => h)).cell D6.out; go_simp) ?_; (try simp only [Act.put, List.setIfInBounds_toArray, List.set_cons_zero, List.set_cons_succ])
        refine wpH_take (i := 8) (v := .slice (some ⟨bz, oz, none⟩) m cv2) hB (by rfl) (by kernel_rfl) (fun _ _ _ _ _ h => h) (by rfl) hS0 (fun W hI => by clear hI; go_simp) ?_; (try simp only [Act.put, List.setIfInBounds_toArray, List.set_cons_zero, List.set_cons_succ])
        refine wpH_take (i := 9) (v := .int .i64 (j : Int)) hB (by rfl) (by kernel_rfl) (fun _ _ _ _ _ h => h) (by rfl) hS0 (fun W hI => by clear hI; go_simp) ?_; (try simp only [Act.put, List.setIfInBounds_toArray, List.set_cons_zero, List.set_cons_succ])
        refine wpH_take (i := 10) (v := .pointer (some ⟨bz, oz + j * 3, none⟩)) hB (by rfl) (by kernel_rfl) (fun _ _ _ _ _ h => h) (by rfl) hS0 (fun W hI => by clear hI; go_simp) ?_; (try simp only [Act.put, List.setIfInBounds_toArray, List.set_cons_zero, List.set_cons_succ])
        refine wpH_take (i := 11) (v := .pointer (some ⟨bz, oz + j * 3 + 1, none⟩)) hB (by rfl) (by kernel_rfl) (fun _ _ _ _ _ h => h) (by rfl) hS0 (fun W hI => by clear hI; go_simp) ?_; (try simp only [Act.put, List.setIfInBounds_toArray, List.set_cons_zero, List.set_cons_succ])
        refine wpH_take (i := 12) (v := .int .i64 sf) hB (by rfl) (by kernel_rfl) (fun _ _ _ _ _ h => h) (by rfl) hS0 (fun W hI => by have d := (hI.sees_end (fun _ _ h => h)).cell D7.out; go_simp) ?_; (try simp only [Act.put, List.setIfInBounds_toArray, List.set_cons_zero, List.set_cons_succ])
        refine wpH_one (i := 13) (by kernel_rfl) (wpOp_enter (fn := 18) (args := #[.int .i64 sr, .int .i64 sf]) (by rfl) (by rfl) (by go_simp) ((KP.out sr sf v0).mono ?_))
        rintro ee v1 ⟨rfl, hs⟩
        have hTT := hS0.trans (Keeps.of_sees hs)
        refine ⟨_, rfl, hTT, ?_⟩
        (try simp only [Act.put, List.setIfInBounds_toArray, List.set_cons_zero, List.set_cons_succ])
        have E1 := Lib.hid (E0.out.sees hs)
        clear hs hS0
        have hS0 := hTT
        clear hTT
        refine wpH_one (i := 14) (by kernel_rfl) (wpOp_enter (fn := 15) (args := #[.slice a n cp, .int .i64 first, chV ke l0 c0 l1 c1, .agg #[.int .i64 sr, .int .i64 sf]]) (by rfl) (by rfl) (by go_simp) ((KHS.out ke hke1 hke4 v1 E1.out.n.i sr sf HW1.out).mono ?_))
        rintro ee v2 ⟨rfl, hs⟩
        have hTT := hS0.trans (Keeps.of_sees hs)
        refine ⟨_, rfl, hTT, ?_⟩
        (try simp only [Act.put, List.setIfInBounds_toArray, List.set_cons_zero, List.set_cons_succ])
        have E2 := Lib.hid (E1.out.sees hs)
        clear hs hS0
        have hS0 := hTT
        clear hTT
        refine wpH_take (i := 15) (v := .bool false) hB (by rfl) (by kernel_rfl) (fun _ _ _ _ _ h => h) (by rfl) hS0 (fun W hI => by clear hI; go_simp) ?_; (try simp only [Act.put, List.setIfInBounds_toArray, List.set_cons_zero, List.set_cons_succ])
        refine wpH_take (i := 16) (v := .bool false) hB (by rfl) (by kernel_rfl) (fun _ _ _ _ _ h => h) (by rfl) hS0 (fun W hI => by clear hI; go_simp) ?_; (try simp only [Act.put, List.setIfInBounds_toArray, List.set_cons_zero, List.set_cons_succ])
        refine wpH_takeG (i := 17) (v := .slice a n cp) hB (by rfl) (by kernel_rfl) (fun _ _ _ _ _ h => h) (by go_simp) hS0 (fun W hI => by clear hI; go_simp) ?_; (try simp only [Act.put, List.setIfInBounds_toArray, List.set_cons_zero, List.set_cons_succ])
        refine wpH_takeG (i := 18) (v := .int .i64 first) hB (by rfl) (by kernel_rfl) (fun _ _ _ _ _ h => h) (by go_simp) hS0 (fun W hI => by clear hI; go_simp) ?_; (try simp only [Act.put, List.setIfInBounds_toArray, List.set_cons_zero, List.set_cons_succ])
        refine wpH_takeG (i := 19) (v := chV ke l0 c0 l1 c1) hB (by rfl) (by kernel_rfl) (fun _ _ _ _ _ h => h) (by go_simp) hS0 (fun W hI => by obtain ⟨z0, z1, z2, z3, z4⟩ := (E0.out.z.keeps hI (fun h => h)).c; go_simp) ?_; (try simp only [Act.put, List.setIfInBounds_toArray, List.set_cons_zero, List.set_cons_succ])
        refine wpH_takeG (i := 20) (v := .slice (some ⟨bz, oz, none⟩) m cv2) hB (by rfl) (by kernel_rfl) (fun _ _ _ _ _ h => h) (by go_simp) hS0 (fun W hI => by clear hI; go_simp) ?_; (try simp only [Act.put, List.setIfInBounds_toArray, List.set_cons_zero, List.set_cons_succ])
        refine wpH_takeG (i := 21) (v := .int .i64 (j : Int)) hB (by rfl) (by kernel_rfl) (fun _ _ _ _ _ h => h) (by go_simp) hS0 (fun W hI => by clear hI; go_simp) ?_; (try simp only [Act.put, List.setIfInBounds_toArray, List.set_cons_zero, List.set_cons_succ])
        refine wpH_takeG (i := 22) (v := .pointer (some ⟨bz, oz + j * 3, none⟩)) hB (by rfl) (by kernel_rfl) (fun _ _ _ _ _ h => h) (by go_simp) hS0 (fun W hI => by clear hI; go_simp) ?_; (try simp only [Act.put, List.setIfInBounds_toArray, List.set_cons_zero, List.set_cons_succ])
        refine wpH_takeG (i := 23) (v := .pointer (some ⟨bz, oz + j * 3, none⟩)) hB (by rfl) (by kernel_rfl) (fun _ _ _ _ _ h => h) (by go_simp) hS0 (fun W hI => by clear hI; go_simp) ?_; (try simp only [Act.put, List.setIfInBounds_toArray, List.set_cons_zero, List.set_cons_succ])
        refine wpH_takeG (i := 24) (v := .int .i64 sr) hB (by rfl) (by kernel_rfl) (fun _ _ _ _ _ h => h) (by go_simp) hS0 (fun W hI => by have d := (hI.sees_end (fun _ _ h => h)).cell D6.out; go_simp) ?_; (try simp only [Act.put, List.setIfInBounds_toArray, List.set_cons_zero, List.set_cons_succ])
        refine wpH_takeG (i := 25) (v := .slice (some ⟨bz, oz, none⟩) m cv2) hB (by rfl) (by kernel_rfl) (fun _ _ _ _ _ h => h) (by go_simp) hS0 (fun W hI => by clear hI; go_simp) ?_; (try simp only [Act.put, List.setIfInBounds_toArray, List.set_cons_zero, List.set_cons_succ])
        refine wpH_takeG (i := 26) (v := .int .i64 (j : Int)) hB (by rfl) (by kernel_rfl) (fun _ _ _ _ _ h => h) (by go_simp) hS0 (fun W hI => by clear hI; go_simp) ?_; (try simp only [Act.put, List.setIfInBounds_toArray, List.set_cons_zero, List.set_cons_succ])
        refine wpH_takeG (i := 27) (v := .pointer (some ⟨bz, oz + j * 3, none⟩)) hB (by rfl) (by kernel_rfl) (fun _ _ _ _ _ h => h) (by go_simp) hS0 (fun W hI => by clear hI; go_simp) ?_; (try simp only [Act.put, List.setIfInBounds_toArray, List.set_cons_zero, List.set_cons_succ])
        refine wpH_takeG (i := 28) (v := .pointer (some ⟨bz, oz + j * 3 + 2, none⟩)) hB (by rfl) (by kernel_rfl) (fun _ _ _ _ _ h => h) (by go_simp) hS0 (fun W hI => by clear hI; go_simp) ?_; (try simp only [Act.put, List.setIfInBounds_toArray, List.set_cons_zero, List.set_cons_succ])
        refine wpH_takeG (i := 29) (v := .int .i64 st) hB (by rfl) (by kernel_rfl) (fun _ _ _ _ _ h => h) (by go_simp) hS0 (fun W hI => by have d := (hI.sees_end (fun _ _ h => h)).cell D8.out; go_simp) ?_; (try simp only [Act.put, List.setIfInBounds_toArray, List.set_cons_zero, List.set_cons_succ])
        refine wpH_takeG (i := 30) (v := .int .i64 st1) hB (by rfl) (by kernel_rfl) (fun _ _ _ _ _ h => h) (by go_simp) hS0 (fun W hI => by clear hI; go_simp) ?_; (try simp only [Act.put, List.setIfInBounds_toArray, List.set_cons_zero, List.set_cons_succ])
        refine wpH_one (i := 31) (by kernel_rfl) (wpOp_enterG (fn := 18) (args := #[.int .i64 sr, .int .i64 st1]) (by rfl) (by go_simp) (by go_simp) ((KP.out sr st1 v2).mono ?_))
        rintro ee v3 ⟨rfl, hs⟩
        have hTT := hS0.trans (Keeps.of_sees hs)
        refine ⟨_, rfl, hTT, ?_⟩
        (try simp only [Act.put, List.setIfInBounds_toArray, List.set_cons_zero, List.set_cons_succ])
        have E3 := Lib.hid (E2.out.sees hs)
        clear hs hS0
        have hS0 := hTT
        clear hTT
        refine wpH_one (i := 32) (by kernel_rfl) (wpOp_enterG (fn := 15) (args := #[.slice a n cp, .int .i64 first, chV ke l0 c0 l1 c1, .agg #[.int .i64 sr, .int .i64 st1]]) (by rfl) (by go_simp) (by go_simp) ((KHS.out ke hke1 hke4 v3 E3.out.n.i sr st1 HW2.out).mono ?_))
        rintro ee v4 ⟨rfl, hs⟩
        have hTT := hS0.trans (Keeps.of_sees hs)
        refine ⟨_, rfl, hTT, ?_⟩
        (try simp only [Act.put, List.setIfInBounds_toArray, List.set_cons_zero, List.set_cons_succ])
        have E4 := Lib.hid (E3.out.sees hs)
        clear hs hS0
        have hS0 := hTT
        clear hTT
        refine wpH_takeG (i := 33) (v := .bool false) hB (by rfl) (by kernel_rfl) (fun _ _ _ _ _ h => h) (by go_simp) hS0 (fun W hI => by clear hI; go_simp) ?_; (try simp only [Act.put, List.setIfInBounds_toArray, List.set_cons_zero, List.set_cons_succ])
        refine wpH_take (i := 34) (v := .bool false) hB (by rfl) (by kernel_rfl) (fun _ _ _ _ _ h => h) (by rfl) hS0 (fun W hI => by clear hI; go_simp) ?_; (try simp only [Act.put, List.setIfInBounds_toArray, List.set_cons_zero, List.set_cons_succ])
        refine wpH_end (by kernel_rfl) ?_
        clear hS0 hB
        have R2 := Lib.hid E4.out.n
        clear E0 E1 E2 E3 E4 EE D3 D4 D5
        go_wp2
        have hfin : ∃ j' : Nat, Value.int .i64 ((j : Int) + 1) = .int .i64 (j' : Int) ∧ j' ≤ m ∧ HlN w b7 b12 b13 k l0 c0 l1 c1 (.slice (some ⟨bz, oz, none⟩) m cv2) Z _ := ⟨j + 1, by congr 1, hjm, R2.out⟩
        go_roundw
        case rel => first | exact hfin | ((repeat apply Exists.intro); exact ⟨hfin, rfl⟩)
        case measure => simp [intOf]; omega
      · have hjI : (m : Int) ≤ (j : Int) := by omega
        have HBR : Hid (lnEl.Rd (fun b => b < w.heap.size) wr (.slice a2 n2 cp2) bs) := (HB.out.sees R.out.i).mono fun b _ hb => HGG.out b hb
        have hbl : bs.length = n2 := HN2.out.symm
        have HL6 := Lib.hid (show ([] : List Ln).length + bs.length ≤ 100000000 by rw [hbl, List.length_nil]; omega)
        have HBL := Lib.hid hbl
        clear hbl hj hjm
        obtain ⟨base, hbase⟩ : ∃ base, base = wr.heap.size := ⟨_, rfl⟩
        have HBASE := Lib.hid (show w.heap.size ≤ base by have := R.out.i.size; omega)
        have HBLT := Lib.hid (show b7 < base ∧ b12 < base ∧ b13 < base by have := R.out.c7.lt; have := R.out.c12.lt; have := R.out.c13.lt; omega)
        go_upto_region 24 with (at_builtin; go_loud (refine El.wpList_append_row (base := wr.heap.size) typedLn rfl (.const (.slice none 0 0)) (.tmp 181) rfl (by go_simp) (El.Row.nil wr.heap.size (fun b => b < w.heap.size) wr) (.slice a2 n2 cp2) (by go_simp) bs HBR.out (fun b _ e => by cases e) HL6.out (Nat.le_refl _) ?_; intro v9 w9 hr9 hk9 hob9; have hS9 : Sees wr w9 := hk9.sees_end (fun b hb e => by cases e); obtain ⟨a9, c9, hv9, hx9⟩ := hr9.slice; rw [List.nil_append] at hr9 hv9; rw [HBL.out] at hv9; subst hv9; rw [← hbase] at hr9; have HR9 := Lib.hid hr9; have T9 := Lib.hid (R.out.sees hS9); have Z9 := Lib.hid (show snEl.Rd (fun b => b < base) w9 (.slice av2 m cv2) Z from (R.out.r.sees hS9).mono (fun b _ hb => Nat.lt_of_lt_of_eq hb hbase.symm)); have B9 := Lib.hid (show base ≤ w9.heap.size from Nat.le_trans (Nat.le_of_eq hbase) hS9.size); clear hr9 hk9 hob9 hS9 hx9))
        clear R hbase
        go_upto_block 4 with fail
        go_wp2
        go_loopw [21] (fun u W => ∃ j : Nat, u = .int .i64 (j : Int) ∧ j ≤ n2 ∧ (∀ i x, i < j → bs[i]? = some x → x.cells.length = cols ls ∧ lnOk x.cells = true) ∧ HlN w b7 b12 b13 k l0 c0 l1 c1 (.slice av2 m cv2) Z W ∧ lnEl.Row base (fun b => b < w.heap.size) W (.slice a9 n2 c9) bs ∧ snEl.Rd (fun b => b < base) W (.slice av2 m cv2) Z ∧ base ≤ W.heap.size) (fun u _ => n2 - (intOf u).toNat)
        case atStart => exact ⟨0, rfl, Nat.zero_le _, fun i x h => by omega, T9.out, HR9.out, Z9.out, B9.out⟩
        case round =>
          obtain ⟨j, rfl, hj, hgd, hM, hR, hZ9, hB9⟩ := hrel
          have RB := Lib.hid hB9
          have RZ := Lib.hid hZ9
          have R := Lib.hid hM
          have RR := Lib.hid hR
          have HGD := Lib.hid hgd
          clear hM hR hgd T9 HR9 hZ9 Z9 hB9 B9
          by_cases hjn : j < n2
          · have hrd := RR.out.rd (F := fun b => b < wr.heap.size) (fun b hb _ => hb)
            obtain ⟨bm, om, xl, am, mm, he, _, hx, _, x1, x2, x3⟩ := hrd.line hjn
            obtain ⟨b1, o1, z, a0, m0, he2, _, hz, _, y0, _, _⟩ := (H.out.sees R.out.i).rd.line (show 0 < n from hnp)
            rw [Nat.zero_mul, Nat.add_zero] at y0
            have hcol := cols_of hz
            rw [← hcol] at y0
            obtain ⟨K, hK⟩ : ∃ K, K = cols ls := ⟨_, rfl⟩
            rw [← hK] at y0
            have HK := Lib.hid hK
            obtain ⟨nq, hnq⟩ : ∃ nq, nq = xl.cells.length := ⟨_, rfl⟩
            rw [← hnq] at x1 x3
            have HNQ := Lib.hid hnq
            cases he
            cases he2
            have hjI : (j : Int) < (n2 : Int) := by omega
            have hjw : IntKind.i64.wrap ((j : Int) + 1) = ((j + 1 : Nat) : Int) := by rw [IntWalk.i64_in _ (by omega)]; omega
            have X1 := Lib.hid x1
            have X2 := Lib.hid x2
            have X3 := Lib.hid x3
            have Y0 := Lib.hid y0
            have HXJ := Lib.hid hx
            have EE : Hid (HlQ w b7 b12 b13 k l0 c0 l1 c1 (.slice av2 m cv2) Z base (.slice (some ⟨bm, om, none⟩) n2 c9) bs wr) := ⟨R.out, RR.out, R.out.i, RZ.out, RB.out⟩
            clear hrd hx hz hcol hK hnq x1 x2 x3 y0 R RR RZ
            go_upto_region 27 with fail
            rcases Bool.eq_false_or_eq_true (lnOk xl.cells) with hv | hv
            · have KV : Hid (∀ W, Sees w W → RdCells W (.slice am nq mm) xl.cells → Calls Tryd.prog 28 #[.agg #[.slice am nq mm, .bool xl.soft]] W fun e w' => e = .returned (.bool true) ∧ Sees W w') := fun W hs hr => by
                have q := lineValid_all _ xl.cells xl.soft W (HT.out.sees hs) hr
                rw [hv] at q
                exact q
              have HV := Lib.hid hv
              clear hv
              by_cases hqK : nq = K
              · have hqb : ((nq : Int) != (K : Int)) = false := by rw [hqK]; exact bne_self_eq_false _
                have HQK := Lib.hid hqK
                clear hqK
                refine wpH_go (fun _ => False) 20 (by kernel_rfl) (by kernel_rfl) (by rfl) (fun hB v0 hs9 => ?_)
                have E0 := Lib.hid (EE.out.sees hs9)
                have D6 := Lib.hid (hs9.cell X1.out)
                have D7 := Lib.hid (hs9.cell X2.out)
                have D8 := Lib.hid (hs9.cell Y0.out)
                have D9 := Lib.hid (X3.out.sees hs9)
                clear hs9
                have hS0 : Keeps (fun _ => False) v0 v0 := Keeps.refl _ v0
                refine wpH_take (i := 0) (v := .slice (some ⟨bm, om, none⟩) n2 c9) hB (by rfl) (by kernel_rfl) (fun _ _ _ _ _ h => h) (by rfl) hS0 (fun W hI => by clear hI; go_simp) ?_; (try simp only [Act.put, List.setIfInBounds_toArray, List.set_cons_zero, List.set_cons_succ])
                refine wpH_take (i := 1) (v := .int .i64 (j : Int)) hB (by rfl) (by kernel_rfl) (fun _ _ _ _ _ h => h) (by rfl) hS0 (fun W hI => by clear hI; go_simp) ?_; (try simp only [Act.put, List.setIfInBounds_toArray, List.set_cons_zero, List.set_cons_succ])
                refine wpH_take (i := 2) (v := .pointer (some ⟨bm, om + j * 2, none⟩)) hB (by rfl) (by kernel_rfl) (fun _ _ _ _ _ h => h) (by rfl) hS0 (fun W hI => by clear hI; go_simp) ?_; (try simp only [Act.put, List.setIfInBounds_toArray, List.set_cons_zero, List.set_cons_succ])
                refine wpH_take (i := 3) (v := .agg #[.slice am nq mm, .bool xl.soft]) hB (by rfl) (by kernel_rfl) (fun _ _ _ _ _ h => h) (by rfl) hS0 (fun W hI => by have d := (hI.sees_end (fun _ _ h => h)).cell D6.out; have d2 := (hI.sees_end (fun _ _ h => h)).cell D7.out; go_simp) ?_; (try simp only [Act.put, List.setIfInBounds_toArray, List.set_cons_zero, List.set_cons_succ])
                refine wpH_one (i := 4) (by kernel_rfl) (wpOp_enter (fn := 28) (args := #[.agg #[.slice am nq mm, .bool xl.soft]]) (by rfl) (by rfl) (by go_simp) ((KV.out v0 E0.out.i (by have q := D9.out; rw [HNQ.out] at q ⊢; exact q.rdCells)).mono ?_))
                rintro ee v1 ⟨rfl, hs⟩
                have hTT := hS0.trans (Keeps.of_sees hs)
                refine ⟨_, rfl, hTT, ?_⟩
                (try simp only [Act.put, List.setIfInBounds_toArray, List.set_cons_zero, List.set_cons_succ])
                have E1 := Lib.hid (E0.out.sees hs)
                clear hs hS0
                have hS0 := hTT
                clear hTT
                refine wpH_take (i := 5) (v := .bool false) hB (by rfl) (by kernel_rfl) (fun _ _ _ _ _ h => h) (by rfl) hS0 (fun W hI => by clear hI; go_simp) ?_; (try simp only [Act.put, List.setIfInBounds_toArray, List.set_cons_zero, List.set_cons_succ])
                refine wpH_take (i := 6) (v := .bool false) hB (by rfl) (by kernel_rfl) (fun _ _ _ _ _ h => h) (by rfl) hS0 (fun W hI => by clear hI; go_simp) ?_; (try simp only [Act.put, List.setIfInBounds_toArray, List.set_cons_zero, List.set_cons_succ])
                refine wpH_takeG (i := 7) (v := .slice (some ⟨bm, om, none⟩) n2 c9) hB (by rfl) (by kernel_rfl) (fun _ _ _ _ _ h => h) (by go_simp) hS0 (fun W hI => by clear hI; go_simp) ?_; (try simp only [Act.put, List.setIfInBounds_toArray, List.set_cons_zero, List.set_cons_succ])
                refine wpH_takeG (i := 8) (v := .int .i64 (j : Int)) hB (by rfl) (by kernel_rfl) (fun _ _ _ _ _ h => h) (by go_simp) hS0 (fun W hI => by clear hI; go_simp) ?_; (try simp only [Act.put, List.setIfInBounds_toArray, List.set_cons_zero, List.set_cons_succ])
                refine wpH_takeG (i := 9) (v := .pointer (some ⟨bm, om + j * 2, none⟩)) hB (by rfl) (by kernel_rfl) (fun _ _ _ _ _ h => h) (by go_simp) hS0 (fun W hI => by clear hI; go_simp) ?_; (try simp only [Act.put, List.setIfInBounds_toArray, List.set_cons_zero, List.set_cons_succ])
                refine wpH_takeG (i := 10) (v := .pointer (some ⟨bm, om + j * 2, none⟩)) hB (by rfl) (by kernel_rfl) (fun _ _ _ _ _ h => h) (by go_simp) hS0 (fun W hI => by clear hI; go_simp) ?_; (try simp only [Act.put, List.setIfInBounds_toArray, List.set_cons_zero, List.set_cons_succ])
                refine wpH_takeG (i := 11) (v := .slice am nq mm) hB (by rfl) (by kernel_rfl) (fun _ _ _ _ _ h => h) (by go_simp) hS0 (fun W hI => by have d := (hI.sees_end (fun _ _ h => h)).cell D6.out; go_simp) ?_; (try simp only [Act.put, List.setIfInBounds_toArray, List.set_cons_zero, List.set_cons_succ])
                refine wpH_takeG (i := 12) (v := .int .i64 (nq : Int)) hB (by rfl) (by kernel_rfl) (fun _ _ _ _ _ h => h) (by go_simp) hS0 (fun W hI => by clear hI; go_simp) ?_; (try simp only [Act.put, List.setIfInBounds_toArray, List.set_cons_zero, List.set_cons_succ])
                refine wpH_takeG (i := 13) (v := .slice (some ⟨b1, o1, none⟩) n cp) hB (by rfl) (by kernel_rfl) (fun _ _ _ _ _ h => h) (by go_simp) hS0 (fun W hI => by clear hI; go_simp) ?_; (try simp only [Act.put, List.setIfInBounds_toArray, List.set_cons_zero, List.set_cons_succ])
                refine wpH_takeG (i := 14) (v := .pointer (some ⟨b1, o1, none⟩)) hB (by rfl) (by kernel_rfl) (fun _ _ _ _ _ h => h) (by go_simp) hS0 (fun W hI => by clear hI; go_simp) ?_; (try simp only [Act.put, List.setIfInBounds_toArray, List.set_cons_zero, List.set_cons_succ])
                refine wpH_takeG (i := 15) (v := .pointer (some ⟨b1, o1, none⟩)) hB (by rfl) (by kernel_rfl) (fun _ _ _ _ _ h => h) (by go_simp) hS0 (fun W hI => by clear hI; go_simp) ?_; (try simp only [Act.put, List.setIfInBounds_toArray, List.set_cons_zero, List.set_cons_succ])
                refine wpH_takeG (i := 16) (v := .slice a0 K m0) hB (by rfl) (by kernel_rfl) (fun _ _ _ _ _ h => h) (by go_simp) hS0 (fun W hI => by have d := (hI.sees_end (fun _ _ h => h)).cell D8.out; go_simp) ?_; (try simp only [Act.put, List.setIfInBounds_toArray, List.set_cons_zero, List.set_cons_succ])
                refine wpH_takeG (i := 17) (v := .int .i64 (K : Int)) hB (by rfl) (by kernel_rfl) (fun _ _ _ _ _ h => h) (by go_simp) hS0 (fun W hI => by clear hI; go_simp) ?_; (try simp only [Act.put, List.setIfInBounds_toArray, List.set_cons_zero, List.set_cons_succ])
                refine wpH_takeG (i := 18) (v := .bool false) hB (by rfl) (by kernel_rfl) (fun _ _ _ _ _ h => h) (by go_simp) hS0 (fun W hI => by clear hI; go_simp) ?_; (try simp only [Act.put, List.setIfInBounds_toArray, List.set_cons_zero, List.set_cons_succ])
                refine wpH_take (i := 19) (v := .bool false) hB (by rfl) (by kernel_rfl) (fun _ _ _ _ _ h => h) (by rfl) hS0 (fun W hI => by clear hI; go_simp) ?_; (try simp only [Act.put, List.setIfInBounds_toArray, List.set_cons_zero, List.set_cons_succ])
                refine wpH_end (by kernel_rfl) ?_
                clear hS0 hB
                have R2 := Lib.hid E1.out
                clear E0 E1 EE
                go_wp2
                have hfin : ∃ j' : Nat, Value.int .i64 ((j : Int) + 1) = .int .i64 (j' : Int) ∧ j' ≤ n2 ∧ (∀ i x, i < j' → bs[i]? = some x → x.cells.length = cols ls ∧ lnOk x.cells = true) ∧ HlN w b7 b12 b13 k l0 c0 l1 c1 (.slice av2 m cv2) Z _ ∧ lnEl.Row base (fun b => b < w.heap.size) _ (.slice (some ⟨bm, om, none⟩) n2 c9) bs ∧ snEl.Rd (fun b => b < base) _ (.slice av2 m cv2) Z ∧ base ≤ (World.heap _).size := ⟨j + 1, by congr 1, hjn, fun i x hi hx => by
                  rcases Nat.lt_or_ge i j with h | h
                  · exact HGD.out i x h hx
                  · obtain rfl : i = j := by omega
                    obtain rfl : x = xl := Option.some.inj (hx.symm.trans HXJ.out)
                    exact ⟨by rw [← HNQ.out, HQK.out, HK.out], HV.out⟩, R2.out.n, R2.out.q, R2.out.zr, R2.out.bs⟩
                go_roundw
                case rel => first | exact hfin | ((repeat apply Exists.intro); exact ⟨hfin, rfl⟩)
                case measure => simp [intOf]; omega
              · have hqb : ((nq : Int) != (K : Int)) = true := by rw [bne_iff_ne]; omega
                clear hqK
                refine wpH_go (fun _ => False) 20 (by kernel_rfl) (by kernel_rfl) (by rfl) (fun hB v0 hs9 => ?_)
                have E0 := Lib.hid (EE.out.sees hs9)
                have D6 := Lib.hid (hs9.cell X1.out)
                have D7 := Lib.hid (hs9.cell X2.out)
                have D8 := Lib.hid (hs9.cell Y0.out)
                have D9 := Lib.hid (X3.out.sees hs9)
                clear hs9
                have hS0 : Keeps (fun _ => False) v0 v0 := Keeps.refl _ v0
                refine wpH_take (i := 0) (v := .slice (some ⟨bm, om, none⟩) n2 c9) hB (by rfl) (by kernel_rfl) (fun _ _ _ _ _ h => h) (by rfl) hS0 (fun W hI => by clear hI; go_simp) ?_; (try simp only [Act.put, List.setIfInBounds_toArray, List.set_cons_zero, List.set_cons_succ])
                refine wpH_take (i := 1) (v := .int .i64 (j : Int)) hB (by rfl) (by kernel_rfl) (fun _ _ _ _ _ h => h) (by rfl) hS0 (fun W hI => by clear hI; go_simp) ?_; (try simp only [Act.put, List.setIfInBounds_toArray, List.set_cons_zero, List.set_cons_succ])
                refine wpH_take (i := 2) (v := .pointer (some ⟨bm, om + j * 2, none⟩)) hB (by rfl) (by kernel_rfl) (fun _ _ _ _ _ h => h) (by rfl) hS0 (fun W hI => by clear hI; go_simp) ?_; (try simp only [Act.put, List.setIfInBounds_toArray, List.set_cons_zero, List.set_cons_succ])
                refine wpH_take (i := 3) (v := .agg #[.slice am nq mm, .bool xl.soft]) hB (by rfl) (by kernel_rfl) (fun _ _ _ _ _ h => h) (by rfl) hS0 (fun W hI => by have d := (hI.sees_end (fun _ _ h => h)).cell D6.out; have d2 := (hI.sees_end (fun _ _ h => h)).cell D7.out; go_simp) ?_; (try simp only [Act.put, List.setIfInBounds_toArray, List.set_cons_zero, List.set_cons_succ])
                refine wpH_one (i := 4) (by kernel_rfl) (wpOp_enter (fn := 28) (args := #[.agg #[.slice am nq mm, .bool xl.soft]]) (by rfl) (by rfl) (by go_simp) ((KV.out v0 E0.out.i (by have q := D9.out; rw [HNQ.out] at q ⊢; exact q.rdCells)).mono ?_))
                rintro ee v1 ⟨rfl, hs⟩
                have hTT := hS0.trans (Keeps.of_sees hs)
                refine ⟨_, rfl, hTT, ?_⟩
                (try simp only [Act.put, List.setIfInBounds_toArray, List.set_cons_zero, List.set_cons_succ])
                have E1 := Lib.hid (E0.out.sees hs)
                clear hs hS0
                have hS0 := hTT
                clear hTT
                refine wpH_take (i := 5) (v := .bool false) hB (by rfl) (by kernel_rfl) (fun _ _ _ _ _ h => h) (by rfl) hS0 (fun W hI => by clear hI; go_simp) ?_; (try simp only [Act.put, List.setIfInBounds_toArray, List.set_cons_zero, List.set_cons_succ])
                refine wpH_take (i := 6) (v := .bool false) hB (by rfl) (by kernel_rfl) (fun _ _ _ _ _ h => h) (by rfl) hS0 (fun W hI => by clear hI; go_simp) ?_; (try simp only [Act.put, List.setIfInBounds_toArray, List.set_cons_zero, List.set_cons_succ])
                refine wpH_takeG (i := 7) (v := .slice (some ⟨bm, om, none⟩) n2 c9) hB (by rfl) (by kernel_rfl) (fun _ _ _ _ _ h => h) (by go_simp) hS0 (fun W hI => by clear hI; go_simp) ?_; (try simp only [Act.put, List.setIfInBounds_toArray, List.set_cons_zero, List.set_cons_succ])
                refine wpH_takeG (i := 8) (v := .int .i64 (j : Int)) hB (by rfl) (by kernel_rfl) (fun _ _ _ _ _ h => h) (by go_simp) hS0 (fun W hI => by clear hI; go_simp) ?_; (try simp only [Act.put, List.setIfInBounds_toArray, List.set_cons_zero, List.set_cons_succ])
                refine wpH_takeG (i := 9) (v := .pointer (some ⟨bm, om + j * 2, none⟩)) hB (by rfl) (by kernel_rfl) (fun _ _ _ _ _ h => h) (by go_simp) hS0 (fun W hI => by clear hI; go_simp) ?_; (try simp only [Act.put, List.setIfInBounds_toArray, List.set_cons_zero, List.set_cons_succ])
                refine wpH_takeG (i := 10) (v := .pointer (some ⟨bm, om + j * 2, none⟩)) hB (by rfl) (by kernel_rfl) (fun _ _ _ _ _ h => h) (by go_simp) hS0 (fun W hI => by clear hI; go_simp) ?_; (try simp only [Act.put, List.setIfInBounds_toArray, List.set_cons_zero, List.set_cons_succ])
                refine wpH_takeG (i := 11) (v := .slice am nq mm) hB (by rfl) (by kernel_rfl) (fun _ _ _ _ _ h => h) (by go_simp) hS0 (fun W hI => by have d := (hI.sees_end (fun _ _ h => h)).cell D6.out; go_simp) ?_; (try simp only [Act.put, List.setIfInBounds_toArray, List.set_cons_zero, List.set_cons_succ])
                refine wpH_takeG (i := 12) (v := .int .i64 (nq : Int)) hB (by rfl) (by kernel_rfl) (fun _ _ _ _ _ h => h) (by go_simp) hS0 (fun W hI => by clear hI; go_simp) ?_; (try simp only [Act.put, List.setIfInBounds_toArray, List.set_cons_zero, List.set_cons_succ])
                refine wpH_takeG (i := 13) (v := .slice (some ⟨b1, o1, none⟩) n cp) hB (by rfl) (by kernel_rfl) (fun _ _ _ _ _ h => h) (by go_simp) hS0 (fun W hI => by clear hI; go_simp) ?_; (try simp only [Act.put, List.setIfInBounds_toArray, List.set_cons_zero, List.set_cons_succ])
                refine wpH_takeG (i := 14) (v := .pointer (some ⟨b1, o1, none⟩)) hB (by rfl) (by kernel_rfl) (fun _ _ _ _ _ h => h) (by go_simp) hS0 (fun W hI => by clear hI; go_simp) ?_; (try simp only [Act.put, List.setIfInBounds_toArray, List.set_cons_zero, List.set_cons_succ])
                refine wpH_takeG (i := 15) (v := .pointer (some ⟨b1, o1, none⟩)) hB (by rfl) (by kernel_rfl) (fun _ _ _ _ _ h => h) (by go_simp) hS0 (fun W hI => by clear hI; go_simp) ?_; (try simp only [Act.put, List.setIfInBounds_toArray, List.set_cons_zero, List.set_cons_succ])
                refine wpH_takeG (i := 16) (v := .slice a0 K m0) hB (by rfl) (by kernel_rfl) (fun _ _ _ _ _ h => h) (by go_simp) hS0 (fun W hI => by have d := (hI.sees_end (fun _ _ h => h)).cell D8.out; go_simp) ?_; (try simp only [Act.put, List.setIfInBounds_toArray, List.set_cons_zero, List.set_cons_succ])
                refine wpH_takeG (i := 17) (v := .int .i64 (K : Int)) hB (by rfl) (by kernel_rfl) (fun _ _ _ _ _ h => h) (by go_simp) hS0 (fun W hI => by clear hI; go_simp) ?_; (try simp only [Act.put, List.setIfInBounds_toArray, List.set_cons_zero, List.set_cons_succ])
                refine wpH_takeG (i := 18) (v := .bool true) hB (by rfl) (by kernel_rfl) (fun _ _ _ _ _ h => h) (by go_simp) hS0 (fun W hI => by clear hI; go_simp) ?_; (try simp only [Act.put, List.setIfInBounds_toArray, List.set_cons_zero, List.set_cons_succ])
                refine wpH_take (i := 19) (v := .bool true) hB (by rfl) (by kernel_rfl) (fun _ _ _ _ _ h => h) (by rfl) hS0 (fun W hI => by clear hI; go_simp) ?_; (try simp only [Act.put, List.setIfInBounds_toArray, List.set_cons_zero, List.set_cons_succ])
                refine wpH_end (by kernel_rfl) ?_
                clear hS0 hB
                have R2 := Lib.hid E1.out
                clear E0 E1 EE
                go_wp2_with fail
                refine (KK.out _ R2.out.i).mono ?_
                rintro e wk ⟨rfl, hs⟩
                have MK := Lib.hid (R2.out.i.trans hs)
                clear hs
                go_wp2
                go_ret
                exact ⟨rfl, MK.out⟩
            · have KV : Hid (∀ W, Sees w W → RdCells W (.slice am nq mm) xl.cells → Calls Tryd.prog 28 #[.agg #[.slice am nq mm, .bool xl.soft]] W fun e w' => e = .returned (.bool false) ∧ Sees W w') := fun W hs hr => by
                have q := lineValid_all _ xl.cells xl.soft W (HT.out.sees hs) hr
                rw [hv] at q
                exact q
              clear hv
              refine wpH_go (fun _ => False) 20 (by kernel_rfl) (by kernel_rfl) (by rfl) (fun hB v0 hs9 => ?_)
              have E0 := Lib.hid (EE.out.sees hs9)
              have D6 := Lib.hid (hs9.cell X1.out)
              have D7 := Lib.hid (hs9.cell X2.out)
              have D8 := Lib.hid (hs9.cell Y0.out)
              have D9 := Lib.hid (X3.out.sees hs9)
              clear hs9
              have hS0 : Keeps (fun _ => False) v0 v0 := Keeps.refl _ v0
              refine wpH_take (i := 0) (v := .slice (some ⟨bm, om, none⟩) n2 c9) hB (by rfl) (by kernel_rfl) (fun _ _ _ _ _ h => h) (by rfl) hS0 (fun W hI => by clear hI; go_simp) ?_; (try simp only [Act.put, List.setIfInBounds_toArray, List.set_cons_zero, List.set_cons_succ])
              refine wpH_take (i := 1) (v := .int .i64 (j : Int)) hB (by rfl) (by kernel_rfl) (fun _ _ _ _ _ h => h) (by rfl) hS0 (fun W hI => by clear hI; go_simp) ?_; (try simp only [Act.put, List.setIfInBounds_toArray, List.set_cons_zero, List.set_cons_succ])
              refine wpH_take (i := 2) (v := .pointer (some ⟨bm, om + j * 2, none⟩)) hB (by rfl) (by kernel_rfl) (fun _ _ _ _ _ h => h) (by rfl) hS0 (fun W hI => by clear hI; go_simp) ?_; (try simp only [Act.put, List.setIfInBounds_toArray, List.set_cons_zero, List.set_cons_succ])
              refine wpH_take (i := 3) (v := .agg #[.slice am nq mm, .bool xl.soft]) hB (by rfl) (by kernel_rfl) (fun _ _ _ _ _ h => h) (by rfl) hS0 (fun W hI => by have d := (hI.sees_end (fun _ _ h => h)).cell D6.out; have d2 := (hI.sees_end (fun _ _ h => h)).cell D7.out; go_simp) ?_; (try simp only [Act.put, List.setIfInBounds_toArray, List.set_cons_zero, List.set_cons_succ])
              refine wpH_one (i := 4) (by kernel_rfl) (wpOp_enter (fn := 28) (args := #[.agg #[.slice am nq mm, .bool xl.soft]]) (by rfl) (by rfl) (by go_simp) ((KV.out v0 E0.out.i (by have q := D9.out; rw [HNQ.out] at q ⊢; exact q.rdCells)).mono ?_))
              rintro ee v1 ⟨rfl, hs⟩
              have hTT := hS0.trans (Keeps.of_sees hs)
              refine ⟨_, rfl, hTT, ?_⟩
              (try simp only [Act.put, List.setIfInBounds_toArray, List.set_cons_zero, List.set_cons_succ])
              have E1 := Lib.hid (E0.out.sees hs)
              clear hs hS0
              have hS0 := hTT
              clear hTT
              refine wpH_take (i := 5) (v := .bool true) hB (by rfl) (by kernel_rfl) (fun _ _ _ _ _ h => h) (by rfl) hS0 (fun W hI => by clear hI; go_simp) ?_; (try simp only [Act.put, List.setIfInBounds_toArray, List.set_cons_zero, List.set_cons_succ])
              refine wpH_take (i := 6) (v := .bool true) hB (by rfl) (by kernel_rfl) (fun _ _ _ _ _ h => h) (by rfl) hS0 (fun W hI => by clear hI; go_simp) ?_; (try simp only [Act.put, List.setIfInBounds_toArray, List.set_cons_zero, List.set_cons_succ])
              refine wpH_off (i := 7) hB (by rfl) (by kernel_rfl) (fun _ _ _ _ _ h => h) (by go_simp) hS0 ?_
              (try simp only [Act.put, List.setIfInBounds_toArray, List.set_cons_zero, List.set_cons_succ])
              refine wpH_off (i := 8) hB (by rfl) (by kernel_rfl) (fun _ _ _ _ _ h => h) (by go_simp) hS0 ?_
              (try simp only [Act.put, List.setIfInBounds_toArray, List.set_cons_zero, List.set_cons_succ])
              refine wpH_off (i := 9) hB (by rfl) (by kernel_rfl) (fun _ _ _ _ _ h => h) (by go_simp) hS0 ?_
              (try simp only [Act.put, List.setIfInBounds_toArray, List.set_cons_zero, List.set_cons_succ])
              refine wpH_off (i := 10) hB (by rfl) (by kernel_rfl) (fun _ _ _ _ _ h => h) (by go_simp) hS0 ?_
              (try simp only [Act.put, List.setIfInBounds_toArray, List.set_cons_zero, List.set_cons_succ])
              refine wpH_off (i := 11) hB (by rfl) (by kernel_rfl) (fun _ _ _ _ _ h => h) (by go_simp) hS0 ?_
              (try simp only [Act.put, List.setIfInBounds_toArray, List.set_cons_zero, List.set_cons_succ])
              refine wpH_off (i := 12) hB (by rfl) (by kernel_rfl) (fun _ _ _ _ _ h => h) (by go_simp) hS0 ?_
              (try simp only [Act.put, List.setIfInBounds_toArray, List.set_cons_zero, List.set_cons_succ])
              refine wpH_off (i := 13) hB (by rfl) (by kernel_rfl) (fun _ _ _ _ _ h => h) (by go_simp) hS0 ?_
              (try simp only [Act.put, List.setIfInBounds_toArray, List.set_cons_zero, List.set_cons_succ])
              refine wpH_off (i := 14) hB (by rfl) (by kernel_rfl) (fun _ _ _ _ _ h => h) (by go_simp) hS0 ?_
              (try simp only [Act.put, List.setIfInBounds_toArray, List.set_cons_zero, List.set_cons_succ])
              refine wpH_off (i := 15) hB (by rfl) (by kernel_rfl) (fun _ _ _ _ _ h => h) (by go_simp) hS0 ?_
              (try simp only [Act.put, List.setIfInBounds_toArray, List.set_cons_zero, List.set_cons_succ])
              refine wpH_off (i := 16) hB (by rfl) (by kernel_rfl) (fun _ _ _ _ _ h => h) (by go_simp) hS0 ?_
              (try simp only [Act.put, List.setIfInBounds_toArray, List.set_cons_zero, List.set_cons_succ])
              refine wpH_off (i := 17) hB (by rfl) (by kernel_rfl) (fun _ _ _ _ _ h => h) (by go_simp) hS0 ?_
              (try simp only [Act.put, List.setIfInBounds_toArray, List.set_cons_zero, List.set_cons_succ])
              refine wpH_off (i := 18) hB (by rfl) (by kernel_rfl) (fun _ _ _ _ _ h => h) (by go_simp) hS0 ?_
              (try simp only [Act.put, List.setIfInBounds_toArray, List.set_cons_zero, List.set_cons_succ])
              refine wpH_take (i := 19) (v := .bool true) hB (by rfl) (by kernel_rfl) (fun _ _ _ _ _ h => h) (by rfl) hS0 (fun W hI => by clear hI; go_simp) ?_; (try simp only [Act.put, List.setIfInBounds_toArray, List.set_cons_zero, List.set_cons_succ])
              refine wpH_end (by kernel_rfl) ?_
              clear hS0 hB
              have R2 := Lib.hid E1.out
              clear E0 E1 EE
              go_wp2_with fail
              refine (KK.out _ R2.out.i).mono ?_
              rintro e wk ⟨rfl, hs⟩
              have MK := Lib.hid (R2.out.i.trans hs)
              clear hs
              go_wp2
              go_ret
              exact ⟨rfl, MK.out⟩
          · have hjI : (n2 : Int) ≤ (j : Int) := by omega
            have HGD2 : Hid (∀ i x, i < n2 → bs[i]? = some x → x.cells.length = cols ls ∧ lnOk x.cells = true) := fun i x hi hx => HGD.out i x (by omega) hx
            have EE : Hid (HlQ w b7 b12 b13 k l0 c0 l1 c1 (.slice av2 m cv2) Z base (.slice a9 n2 c9) bs wr) := ⟨R.out, RR.out, R.out.i, RZ.out, RB.out⟩
            clear R RR RZ HGD
            go_upto_if 212 with fail
            go_cut [] from 212 to 218 (fun wx => ∃ pre, PreOk pre ls n2 ∧ HlQ w b7 b12 b13 k l0 c0 l1 c1 (.slice av2 m cv2) Z base (.slice a9 n2 c9) pre wx)
            case first =>
              by_cases h0 : n2 = 0
              · have hz : ¬ ((n2 : Int) > 0) := by omega
                have hbn : bs = [] := List.eq_nil_of_length_eq_zero (by rw [HBL.out]; exact h0)
                have HP0 : Hid (PreOk bs ls n2) := by unfold RowKit.Hid; rw [hbn, h0]; exact preOk_nil ls
                clear h0 hbn
                go_wp2
                go_meet
                exact ⟨bs, HP0.out, EE.out⟩
              · have hz : (n2 : Int) > 0 := by omega
                obtain ⟨g, xx, u, ha9, hbg, hgl, hx, cu, fr, hrow⟩ := row_soft EE.out.q (by omega) (fun b hb => by have := HBASE.out; omega)
                cases ha9
                have kw : IntKind.i64.wrap ((n2 : Int) - 1) = ((n2 - 1 : Nat) : Int) := by rw [IntWalk.i64_in _ (by omega)]; omega
                have kl : ((n2 - 1 : Nat) : Int) < (n2 : Int) := by omega
                have kl' : n2 - 1 < n2 := by omega
                have HP0 := Lib.hid (preOk_set HBL.out (by omega) hx HGD2.out)
                have HQ0 := Lib.hid (EE.out.soft hbg ⟨HBLT.out.1, HBLT.out.2.1, HBLT.out.2.2, HBASE.out⟩ hrow)
                clear hrow hx hgl hbg EE HGD2 h0
                go_wp2
                go_meet
                exact ⟨_, HP0.out, HQ0.out⟩
            obtain ⟨pre, hpre, hQ⟩ := hcut
            have Q := Lib.hid hQ
            have HPRE := Lib.hid hpre
            clear hQ hpre EE HGD2
            obtain ⟨f2, hf2⟩ : ∃ f2, f2 = first - (n2 : Int) := ⟨_, rfl⟩
            have kf : IntKind.i64.wrap (first - (n2 : Int)) = f2 := by rw [IntWalk.i64_in _ (by omega)]; omega
            have HF2 := Lib.hid hf2
            clear hf2
            go_upto_region 31 with fail
            refine wpH_go (fun b => (Value.slice a9 n2 c9).ownBlock = some b) 11 (by kernel_rfl) (by kernel_rfl) (by rfl) (fun hB v0 hs9 => ?_)
            have E0 := Lib.hid (Q.out.sees hs9)
            clear hs9 Q
            have hS0 : Keeps (fun b => (Value.slice a9 n2 c9).ownBlock = some b) v0 v0 := Keeps.refl _ v0
            have NB12 : Hid (¬ (Value.slice a9 n2 c9).ownBlock = some b12) := fun e => by have := (E0.out.q.base_le e).1; have := HBLT.out; omega
            refine wpH_take (i := 0) (v := .slice a9 n2 c9) hB (by rfl) (by kernel_rfl) (fun _ _ _ _ _ h => h) (by rfl) hS0 (fun W hI => by clear hI; go_simp) ?_; (try simp only [Act.put, List.setIfInBounds_toArray, List.set_cons_zero, List.set_cons_succ])
            refine wpH_take (i := 1) (v := .slice a n cp) hB (by rfl) (by kernel_rfl) (fun _ _ _ _ _ h => h) (by rfl) hS0 (fun W hI => by clear hI; go_simp) ?_; (try simp only [Act.put, List.setIfInBounds_toArray, List.set_cons_zero, List.set_cons_succ])
            refine wpH_take (i := 3) (v := .int .i64 first) hB (by rfl) (by kernel_rfl) (fun _ _ _ _ _ h => h) (by rfl) hS0 (fun W hI => by clear hI; go_simp) ?_; (try simp only [Act.put, List.setIfInBounds_toArray, List.set_cons_zero, List.set_cons_succ])
            refine wpH_take (i := 4) (v := .slice a9 n2 c9) hB (by rfl) (by kernel_rfl) (fun _ _ _ _ _ h => h) (by rfl) hS0 (fun W hI => by clear hI; go_simp) ?_; (try simp only [Act.put, List.setIfInBounds_toArray, List.set_cons_zero, List.set_cons_succ])
            refine wpH_take (i := 5) (v := .int .i64 (n2 : Int)) hB (by rfl) (by kernel_rfl) (fun _ _ _ _ _ h => h) (by rfl) hS0 (fun W hI => by clear hI; go_simp) ?_; (try simp only [Act.put, List.setIfInBounds_toArray, List.set_cons_zero, List.set_cons_succ])
            refine wpH_take (i := 6) (v := .int .i64 f2) hB (by rfl) (by kernel_rfl) (fun _ _ _ _ _ h => h) (by rfl) hS0 (fun W hI => by clear hI; go_simp) ?_; (try simp only [Act.put, List.setIfInBounds_toArray, List.set_cons_zero, List.set_cons_succ])
            refine wpH_take (i := 7) (v := chV k l0 c0 l1 c1) hB (by rfl) (by kernel_rfl) (fun _ _ _ _ _ h => h) (by rfl) hS0 (fun W hI => by obtain ⟨q0, q1, q2, q3, q4⟩ := (E0.out.n.c12.keeps hI NB12.out).c; go_simp) ?_; (try simp only [Act.put, List.setIfInBounds_toArray, List.set_cons_zero, List.set_cons_succ])
            refine wpH_take (i := 8) (v := .slice av2 m cv2) hB (by rfl) (by kernel_rfl) (fun _ _ _ _ _ h => h) (by rfl) hS0 (fun W hI => by clear hI; go_simp) ?_; (try simp only [Act.put, List.setIfInBounds_toArray, List.set_cons_zero, List.set_cons_succ])
            obtain ⟨v5, W5, ha5, hr5, hk5, _⟩ := El.run_append_row typedLn 22 E0.out.q (.slice a n cp) ls ((HA.out.sees E0.out.i).mono fun b _ hb => HF.out b hb) (fun b hb e => by have := (E0.out.q.base_le e).1; have := HBASE.out; omega) (by rw [HPRE.out.len]; have := HN12.out; omega) (by have := E0.out.bs; exact this)
            have hS1 := hS0.trans hk5
            refine wpH_one (i := 2) (by kernel_rfl) (wpOp_val (v := v5) (w' := W5) (by rfl) (wanted_none (by rfl) _) (exec_append (v := .slice a9 n2 c9) (u := .slice a n cp) rfl (by go_simp) (by go_simp) ha5) ⟨hS1, ?_⟩)
            (try simp only [Act.put, List.setIfInBounds_toArray, List.set_cons_zero, List.set_cons_succ])
            have S5 := Lib.hid (El.keep_new E0.out.i hk5 (fun g hg => by have := (E0.out.q.base_le hg).1; have := HBASE.out; omega))
            have hl5 : lnEl.Rd (fun b => b < W5.heap.size) W5 v5 (pre ++ ls) := hr5.rd (fun b hb _ => hb)
            have Z5 := Lib.hid (E0.out.zr.keeps hk5 (fun b hb e => by have := (E0.out.q.base_le e).1; omega))
            have C5 := Lib.hid (E0.out.n.c7.keeps hk5 (fun e => by have := (E0.out.q.base_le e).1; have := HBLT.out; omega))
            obtain ⟨a5, c5, hv5, _⟩ := hr5.slice
            obtain ⟨n5, hn5⟩ : ∃ n5, n5 = (pre ++ ls).length := ⟨_, rfl⟩
            rw [← hn5] at hv5
            subst hv5
            have hMp := (H.out.row HX.out).1
            have H5 : ShF (fun b => b < W5.heap.size) W5 (.slice a5 n5 c5) (pre ++ ls) f2 := ⟨hl5, fun _ h => h, by rw [HF2.out, ← HPRE.out.len]; exact pre_rows H.out.ok HPRE.out.ok hMp (by rw [HPRE.out.len]; omega), by rw [List.length_append, HPRE.out.len]; have := HN12.out; omega⟩
            have HTS : Hid (Calls Tryd.prog 13 #[.slice a5 n5 c5, .int .i64 f2, chV k l0 c0 l1 c1, .slice av2 m cv2, .int .i64 0] W5 fun e w' => e = .returned (.bool true) ∧ Sees W5 w') := by
              have e0 := pre_pl HPRE.out hMp first x
              have e1 := pre_pl HPRE.out hMp first y
              have hz := Z5.out
              rw [HZ.out, ← pre_sp HPRE.out hMp first k x y, ← HF2.out] at hz
              rw [← HF2.out, EP0.out] at e0
              rw [← HF2.out, EP1.out] at e1
              exact tSpans (HT.out.sees S5.out) H5 hk1' hkI (pre_ix HPRE.out HX.out) (pre_ix HPRE.out HY.out) e0 e1 hz
            clear hr5 hl5 H5 hn5 ha5 hS0 hk5 E0 Z5
            refine wpH_one (i := 9) (by kernel_rfl) (wpOp_enter (fn := 13) (args := #[.slice a5 n5 c5, .int .i64 f2, chV k l0 c0 l1 c1, .slice av2 m cv2, .int .i64 0]) (by rfl) (by rfl) (by go_simp) (HTS.out.mono ?_))
            rintro ee v6 ⟨rfl, hs⟩
            have hS0 := hS1.trans (Keeps.of_sees hs)
            refine ⟨_, rfl, hS0, ?_⟩
            (try simp only [Act.put, List.setIfInBounds_toArray, List.set_cons_zero, List.set_cons_succ])
            have M9 : Hid (CsM w b7 1 l0 c0 l1 c1 v6) := ⟨S5.out.trans hs, C5.out.sees hs⟩
            clear hs hS1 S5 C5
            refine wpH_take (i := 10) (v := .bool false) hB (by rfl) (by kernel_rfl) (fun _ _ _ _ _ h => h) (by rfl) hS0 (fun W hI => by clear hI; go_simp) ?_; (try simp only [Act.put, List.setIfInBounds_toArray, List.set_cons_zero, List.set_cons_succ])
            refine wpH_end (by kernel_rfl) ?_
            clear hS0 hB
            go_wp2
            have hfin : ∃ k' : Nat, Value.int .i64 ((k : Int) + 1) = .int .i64 (k' : Int) ∧ 1 ≤ k' ∧ k' ≤ 5 ∧ CsM w b7 1 l0 c0 l1 c1 v6 := ⟨k + 1, by congr 1, by omega, by omega, M9.out⟩
            go_roundw
            case rel => first | exact hfin | ((repeat apply Exists.intro); exact ⟨hfin, rfl⟩)
            case measure => simp [intOf]; omega
end Go.Proofs.YtooiiefipdjbjaaDoor
