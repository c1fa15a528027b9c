/- Patches applied to a screen, held against the statement's own way. The tables hold what the program's text lays. -/
import Derived.Test.YtonlmlmjglaoiaaDoorDlN
import Derived.Test.YtonlmlmjglaoiaaDoorDlS
import Derived.Test.YtonlmlmjglaoiaaDoorElN
import Derived.IntWalk
namespace Go.Proofs.YtonlmlmjglaoiaaDoor
set_option linter.unusedVariables false
set_option linter.unusedSimpArgs false
open Go.RowKit

theorem putAt_set {cs ps : List Cell} {q k : Nat} {d : Cell} (hq : q + ps.length ≤ cs.length) (hd : ps[k]? = some d) : (putAt cs q (ps.take k)).set (q + k) d = putAt cs q (ps.take (k + 1)) := by
  have hk := (List.getElem?_eq_some_iff.1 hd).1
  apply List.ext_getElem?
  intro j
  have hl : ∀ m, m ≤ ps.length → (putAt cs q (ps.take m)).length = cs.length := fun m hm => by rw [putAt_length]; simp; omega
  have hget : ∀ m, m ≤ ps.length → ∀ j, (putAt cs q (ps.take m))[j]? = if q ≤ j ∧ j < q + m then ps[j - q]? else cs[j]? := by
    intro m hm j
    unfold putAt
    have h1 : (cs.take q).length = q := by simp; omega
    have h2 : (ps.take m).length = m := by simp; omega
    by_cases h3 : j < q
    · rw [if_neg (by omega), List.append_assoc, List.getElem?_append_left (by omega), List.getElem?_take, if_pos h3]
    · by_cases h4 : j < q + m
      · rw [if_pos (by omega), List.getElem?_append_left (by rw [List.length_append]; omega), List.getElem?_append_right (by omega), h1, List.getElem?_take, if_pos (by omega)]
      · rw [if_neg (by omega), List.getElem?_append_right (by rw [List.length_append]; omega), List.length_append, h1, h2, List.getElem?_drop]
        congr 1; omega
  rw [hget (k + 1) (by omega)]
  by_cases hj : q + k = j
  · subst hj
    rw [List.getElem?_set_self (by rw [hl k (by omega)]; omega), if_pos (by omega), Nat.add_sub_cancel_left, hd]
  · rw [List.getElem?_set_ne hj, hget k (by omega)]
    by_cases h1 : q ≤ j ∧ j < q + k
    · rw [if_pos h1, if_pos (by omega)]
    · rw [if_neg h1, if_neg (by omega)]
theorem apR_err {xs y : List Ln} {ps : List Pt} {j : Nat} {p : Pt} {e : Int} (hs : scrD xs = true) (h : apP zc rowOk xs (ps.take j) = (0, y)) (hp : ps[j]? = some p) (he : e ≠ 0) (h1 : ap1 zc rowOk y p = (e, [])) : (decide ((apR xs ps).2 = []) && ((apR xs ps).1 == e)) = true := by
  unfold apR
  rw [if_pos hs, list_around hp, apP_err h h1 he]
  simp

theorem set_at {α : Type} {xs : List α} {i : Nat} {x : α} (h : xs[i]? = some x) (y : α) : (xs.set i y)[i]? = some y := by
  rw [List.getElem?_set_self (List.getElem?_eq_some_iff.1 h).1]
theorem set_same {α : Type} {xs : List α} {i : Nat} {x : α} (h : xs[i]? = some x) : xs.set i x = xs := by
  obtain ⟨h1, h2⟩ := List.getElem?_eq_some_iff.1 h
  rw [← h2, List.set_getElem_self]
set_option maxRecDepth 1000000 in
set_option maxHeartbeats 8000000 in
theorem deltaApplies_any (F G : Nat → Prop) (v u : Value) (xs : List Ln) (ps : List Pt) (w : World) (ht : Tabs w) (ha : lnEl.Rd F w v xs) (hb : ptEl.Rd G w u ps) (hcol : ∀ p ∈ ps, -9223372036854775808 ≤ p.col ∧ p.col ≤ 9223372036854775807) :
    Calls Tryd.prog 4 #[v, u] w fun e w' => e = .returned (.bool true) ∧ Sees w w' := by
  have K1 := Lib.hid (small45_any F v xs w ha)
  have KN := Lib.hid (fun W (hs : Sees w W) => known45 W (ht.sees hs))
  have Ht := Lib.hid ht
  have Hcol := Lib.hid hcol
  have hw := Sees.refl w
  obtain ⟨ao, ca, rfl, _⟩ := ha.slice'
  obtain ⟨bo, cb, rfl, _⟩ := hb.slice'
  have Ha := Lib.hid ha
  have Hb := Lib.hid hb.any
  clear ht ha hb hcol
  obtain ⟨n, hna⟩ : ∃ n, n = xs.length := ⟨_, rfl⟩
  obtain ⟨m, hnb⟩ : ∃ m, m = ps.length := ⟨_, rfl⟩
  rw [← hna] at Ha K1
  rw [← hnb] at Hb
  rw [← hna, ← hnb]
  have Hna := Lib.hid hna
  have Hnb := Lib.hid hnb
  clear hna hnb
  rcases bool_cases (smallB xs) with s1 | s1
  case inr =>
    go_enter Tryd.func4, Tryd.ntmps4
    go_wp2_with fail
    refine K1.out.mono ?_
    rintro e w1 ⟨rfl, t1⟩
    go_wp2_with fail
    refine (KN.out _ t1).mono ?_
    rintro e w2 ⟨rfl, t2⟩
    go_wp2
    go_ret
    exact ⟨rfl, t1.trans t2⟩
  have B1 := Lib.hid (smallB_ok s1)
  have hn : n ≤ 10 := by rw [Hna.out]; exact B1.out.1
  by_cases hm : 12 < m
  · have d1 : decide ((m : Int) > 12) = true := decide_eq_true (by omega)
    go_enter Tryd.func4, Tryd.ntmps4
    go_wp2_with fail
    refine K1.out.mono ?_
    rintro e w1 ⟨rfl, t1⟩
    go_wp2_with fail
    refine (KN.out _ t1).mono ?_
    rintro e w2 ⟨rfl, t2⟩
    go_wp2
    go_ret
    exact ⟨rfl, t1.trans t2⟩
  have d1 : decide ((m : Int) > 12) = false := decide_eq_false (by omega)
  go_enter Tryd.func4, Tryd.ntmps4
  go_wp2_with fail
  refine K1.out.mono ?_
  rintro e w1 ⟨rfl, t1⟩
  have T1 := Lib.hid t1
  clear t1 K1 hw
  go_wp2
  go_loop [5] (fun i => ∃ k : Nat, k ≤ m ∧ i = .int .i64 k ∧ ∀ (j : Nat) p, j < k → ps[j]? = some p → p.cells.length ≤ 24) (fun i => m - (intOf i).toNat)
  case atStart => exact ⟨0, by omega, rfl, fun j p h _ => by omega⟩
  case round =>
    obtain ⟨k, hk, rfl, hsm⟩ := hrel
    have Hsm := Lib.hid hsm
    clear hsm
    by_cases hlt : k < m
    · obtain ⟨b1, o1, p, a1, m1, hbo, _, hp, _, ⟨x0, x1, x2, x4⟩, x3⟩ := (Hb.out.sees T1.out).patch hlt
      subst hbo
      have Hp := Lib.hid hp
      clear x0 x1 x3 x4 hp
      generalize hn2 : p.cells.length = n2 at *
      have Hn2 := Lib.hid hn2
      clear hn2
      by_cases h24 : 24 < n2
      · have d2 : decide ((n2 : Int) > 24) = true := decide_eq_true (by omega)
        go_wp2_with fail
        refine (KN.out _ T1.out).mono ?_
        rintro e w2 ⟨rfl, t2⟩
        go_wp2
        go_ret
        exact ⟨rfl, T1.out.trans t2⟩
      · have d2 : decide ((n2 : Int) > 24) = false := decide_eq_false (by omega)
        go_wp2
        go_round
        case rel => exact ⟨k + 1, by omega, by go_num, fun j q hj hq => by
          by_cases e : j = k
          · subst e
            have := Hp.out
            rw [hq] at this
            cases this
            rw [Hn2.out]; omega
          · exact Hsm.out j q (by omega) hq⟩
        case measure => simp [intOf]; omega
    · obtain rfl : k = m := by omega
      have HL : Hid (∀ p ∈ ps, p.cells.length ≤ 24) := fun p hp => by
        obtain ⟨j, hj⟩ := List.mem_iff_getElem?.1 hp
        exact Hsm.out j p (by rw [Hnb.out]; exact (List.getElem?_eq_some_iff.1 hj).1) hj
      clear Hsm hlt hk
      go_wp2_with fail
      refine (screen45_any F _ xs _ (Ht.out.sees T1.out) (Ha.out.sees T1.out) (by rw [← Hna.out]; omega) (fun l hl => by have := B1.out.2 l hl; omega)).mono ?_
      rintro e w2 ⟨rfl, t2⟩
      have T2 := Lib.hid (T1.out.trans t2)
      clear t2
      rcases bool_cases (scrB xs) with es | es
      case inr =>
        have hap : (decide ((apR xs ps).2 = []) && ((apR xs ps).1 == 2)) = true := by
          unfold apR; rw [scrD_no es]; simp
        have KA := applies_any _ _ (fun _ => True) _ _ _ xs w2 ps [] 2 (Ht.out.sees T2.out) (Ha.out.sees T2.out) (Hb.out.sees T2.out) (El.Rd.nil _ _) (by rw [← Hna.out]; omega) (fun l hl => by have := B1.out.2 l hl; omega) (by rw [← Hnb.out]; omega) (fun p hp => by have := HL.out p hp; omega) Hcol.out
        rw [hap] at KA
        have HKA := Lib.hid KA
        clear KA hap
        go_wp2_with fail
        refine HKA.out.mono ?_
        rintro e w3 ⟨rfl, t3⟩
        go_wp2_with fail
        refine (KN.out _ (T2.out.trans t3)).mono ?_
        rintro e w4 ⟨rfl, t4⟩
        go_wp2
        go_ret
        exact ⟨rfl, (T2.out.trans t3).trans t4⟩
      case inl =>
      have Hsd : Hid (scrD xs = true) := by unfold Hid scrD; rw [es, ← Hna.out]; simp; omega
      go_wp2_with fail
      refine (copied45_any F _ xs _ (Ha.out.sees T2.out) (by rw [← Hna.out]; omega) (fun l hl => by have := B1.out.2 l hl; omega)).mono ?_
      rintro e w3 ⟨v3, rfl, ho3, t3⟩
      have T3 := Lib.hid (T2.out.trans t3)
      have HX3 := Lib.hid ho3.cut
      obtain ⟨a6, c6, hv3, _⟩ := ho3.slice
      rw [← Hna.out] at hv3
      subst hv3
      clear ho3 t3
      go_wp2_with fail
      refine (copied45_any F _ xs _ (Ha.out.sees T3.out) (by rw [← Hna.out]; omega) (fun l hl => by have := B1.out.2 l hl; omega)).mono ?_
      rintro e w4 ⟨v4, rfl, ho4, t4⟩
      have T4 := Lib.hid t4
      have HO4 := Lib.hid ho4
      obtain ⟨a7, c7, hv4, _⟩ := ho4.slice
      rw [← Hna.out] at hv4
      subst hv4
      clear ho4 t4
      have KA : Hid (∀ (e : Int) W, Sees w3 W → (decide ((apR xs ps).2 = []) && ((apR xs ps).1 == e)) = true → Calls Tryd.prog 17 #[.slice a6 n c6, .slice bo k cb, .slice none 0 0, .int .i64 e] W fun e w' => e = .returned (.bool true) ∧ Sees W w') := fun e W hs hap => by
        have KA := applies_any _ _ (fun _ => True) _ _ _ xs W ps [] e (Ht.out.sees (T3.out.trans hs)) (HX3.out.rd.sees hs) (Hb.out.sees (T3.out.trans hs)) (El.Rd.nil _ _) (by rw [← Hna.out]; omega) (fun l hl => by have := B1.out.2 l hl; omega) (by rw [← Hnb.out]; omega) (fun p hp => by have := HL.out p hp; omega) Hcol.out
        rw [hap] at KA
        exact KA
      go_wp2
      go_loopw [8] (fun i W => ∃ (j : Nat) (y : List Ln), j ≤ k ∧ i = .int .i64 j ∧ apP zc rowOk xs (ps.take j) = (0, y) ∧ y.length = n ∧ (∀ l ∈ y, l.cells.length ≤ 24) ∧ lnEl.Own (fun b => w3.heap.size ≤ b) W (.slice a7 n c7) y ∧ Sees w3 W) (fun i _ => k - (intOf i).toNat)
      case atStart => exact ⟨0, xs, by omega, rfl, by simp [apP], Hna.out.symm, B1.out.2, HO4.out, T4.out⟩
      case round =>
        obtain ⟨j, y, hj, rfl, hap, hyl, hy24, ho, hS⟩ := hrel
        have Hap := Lib.hid hap
        have Hyl := Lib.hid hyl
        have Hy24 := Lib.hid hy24
        have Ho := Lib.hid ho
        have HS := Lib.hid hS
        clear hap hyl hy24 ho hS
        by_cases hjl : j < k
        · obtain ⟨b1, o1, p, a1, m1, hbo, _, hp, _, ⟨x0, x1, x2, x4⟩, x3⟩ := (Hb.out.sees (T3.out.trans HS.out)).patch hjl
          subst hbo
          have Herr : Hid (∀ e, e ≠ 0 → ap1 zc rowOk y p = (e, []) → (decide ((apR xs ps).2 = []) && ((apR xs ps).1 == e)) = true) := fun e he h => apR_err Hsd.out Hap.out hp he h
          have Hmore : Hid (∀ z, ap1 zc rowOk y p = (0, z) → apP zc rowOk xs (ps.take (j + 1)) = (0, z)) := fun z h => by rw [List.take_add_one, hp]; exact apP_more Hap.out h
          have hn2b := HL.out p (List.mem_iff_getElem?.2 ⟨_, hp⟩)
          have hcb := Hcol.out p (List.mem_iff_getElem?.2 ⟨_, hp⟩)
          have X3 := Lib.hid x3
          obtain ⟨r, hr⟩ : ∃ r, r = p.row := ⟨_, rfl⟩
          obtain ⟨c, hc⟩ : ∃ c, c = p.col := ⟨_, rfl⟩
          rw [← hr] at x0
          rw [← hc] at x1 hcb
          have Hr := Lib.hid hr.symm
          have Hc := Lib.hid hc.symm
          clear hp hr hc x3 Hap
          generalize hn2 : p.cells.length = n2 at *
          have Hn2 := Lib.hid hn2
          clear hn2
          go_wp2
          refine wp_world ?_
          intro w5 hw5
          have hs5 : Sees wr w5 := by rw [hw5]; exact (Sees.refl wr).alloc _
          have k0 : w5.cell? ⟨wr.heap.size, 0, none⟩ = some (.int .i64 r) := by rw [hw5]; simp
          have k1 : w5.cell? ⟨wr.heap.size, 1, none⟩ = some (.int .i64 c) := by rw [hw5]; simp
          have k2 : w5.cell? ⟨wr.heap.size, 2, none⟩ = some (.slice a1 n2 m1) := by rw [hw5]; simp
          have k3 : w5.cell? ⟨wr.heap.size, 3, none⟩ = some (.bool p.soft) := by rw [hw5]; simp
          have Hs5 := Lib.hid hs5
          have S5 := Lib.hid (HS.out.trans hs5)
          have K1 := Lib.hid k1
          have K2 := Lib.hid k2
          have K3 := Lib.hid k3
          clear hw5 x0 x1 x2 x4 hs5 k3
          have g0 := fun d os => (sees_grow w5 d os).cell k0
          have g1 := fun d os => (sees_grow w5 d os).cell k1
          have g2 := fun d os => (sees_grow w5 d os).cell k2
          by_cases hr0 : r < 0
          · have Hf := Lib.hid (Herr.out 3 (by decide) (ap1_r (.inl (by rw [Hr.out]; exact hr0))))
            refine wp_region_quiet_below (by kernel_rfl) (by kernel_rfl) ?_
            repeat (first | go_big_quiet_skip | (go_big_quiet_want; go_big_quiet_op; go_big_quiet_on))
            refine wpQuiet_nil ?_; intro w2 hw2'; have hw2 := regrown_sees hw2'; clear hw2'
            go_wp2_with fail
            refine (KA.out 3 _ (S5.out.trans hw2) Hf.out).mono ?_
            rintro e w7 ⟨rfl, t7⟩
            go_wp2_with fail
            refine (KN.out _ ((T3.out.trans (S5.out.trans hw2)).trans t7)).mono ?_
            rintro e w8 ⟨rfl, t8⟩
            go_wp2
            go_ret
            exact ⟨rfl, ((T3.out.trans (S5.out.trans hw2)).trans t7).trans t8⟩
          by_cases hrn : (n : Int) ≤ r
          · have Hf := Lib.hid (Herr.out 3 (by decide) (ap1_r (.inr (by rw [Hr.out, Hyl.out]; exact hrn))))
            have d2 : decide (r ≥ (n : Int)) = true := decide_eq_true hrn
            refine wp_region_quiet_below (by kernel_rfl) (by kernel_rfl) ?_
            repeat (first | go_big_quiet_skip | (go_big_quiet_want; go_big_quiet_op; go_big_quiet_on))
            refine wpQuiet_nil ?_; intro w2 hw2'; have hw2 := regrown_sees hw2'; clear hw2'
            go_wp2_with fail
            refine (KA.out 3 _ (S5.out.trans hw2) Hf.out).mono ?_
            rintro e w7 ⟨rfl, t7⟩
            go_wp2_with fail
            refine (KN.out _ ((T3.out.trans (S5.out.trans hw2)).trans t7)).mono ?_
            rintro e w8 ⟨rfl, t8⟩
            go_wp2
            go_ret
            exact ⟨rfl, ((T3.out.trans (S5.out.trans hw2)).trans t7).trans t8⟩
          obtain ⟨i, rfl⟩ : ∃ i : Nat, r = i := Int.eq_ofNat_of_zero_le (by omega)
          have hik : i < n := by omega
          obtain ⟨l, hl⟩ : ∃ l, y[i]? = some l := ⟨_, List.getElem?_eq_getElem (by have := Hyl.out; omega)⟩
          have hl24 := Hy24.out l (List.mem_iff_getElem?.2 ⟨_, hl⟩)
          obtain ⟨b, a2, c2, ha7, hFb, hx1, hx2, hc2, z0, z1, hown2, hx3, hx4⟩ := own_line (Ho.out.sees Hs5.out) hl
          clear hx1 hx2 hx3 hx4
          subst ha7
          have Hl := Lib.hid hl
          have Hown := Lib.hid hown2
          clear hl hown2
          generalize hn1 : l.cells.length = n1 at *
          have Hn1 := Lib.hid hn1
          clear hn1
          have h0 := fun d os => (sees_grow w5 d os).cell z0
          have Z0 := Lib.hid z0
          clear z0 z1
          have hr0' : ¬ ((i : Int) < 0) := by omega
          have hri : ¬ ((n : Int) ≤ i) := by omega
          have hri2 : (i : Int) < n := by omega
          have g5 : decide ((i : Int) < 0) = false := decide_eq_false hr0'
          have g6 : decide (n ≤ i) = false := decide_eq_false (by omega)
          clear hr0 hrn
          by_cases hc0 : c < 0
          · have Hf := Lib.hid (Herr.out 3 (by decide) (ap1_c Hr.out Hl.out (.inl (by rw [Hc.out]; exact hc0))))
            refine wp_region_quiet_below (by kernel_rfl) (by kernel_rfl) ?_
            repeat (first | go_big_quiet_skip | (go_big_quiet_want; go_big_quiet_op; go_big_quiet_on))
            refine wpQuiet_nil ?_; intro w2 hw2'; have hw2 := regrown_sees hw2'; clear hw2'
            go_wp2_with fail
            refine (KA.out 3 _ (S5.out.trans hw2) Hf.out).mono ?_
            rintro e w7 ⟨rfl, t7⟩
            go_wp2_with fail
            refine (KN.out _ ((T3.out.trans (S5.out.trans hw2)).trans t7)).mono ?_
            rintro e w8 ⟨rfl, t8⟩
            go_wp2
            go_ret
            exact ⟨rfl, ((T3.out.trans (S5.out.trans hw2)).trans t7).trans t8⟩
          by_cases hcn : (n1 : Int) < c
          · have Hf := Lib.hid (Herr.out 3 (by decide) (ap1_c Hr.out Hl.out (.inr (.inl (by rw [Hc.out, Hn1.out]; exact hcn)))))
            have d2 : decide (c > (n1 : Int)) = true := decide_eq_true hcn
            refine wp_region_quiet_below (by kernel_rfl) (by kernel_rfl) ?_
            repeat (first | go_big_quiet_skip | (go_big_quiet_want; go_big_quiet_op; go_big_quiet_on))
            refine wpQuiet_nil ?_; intro w2 hw2'; have hw2 := regrown_sees hw2'; clear hw2'
            go_wp2_with fail
            refine (KA.out 3 _ (S5.out.trans hw2) Hf.out).mono ?_
            rintro e w7 ⟨rfl, t7⟩
            go_wp2_with fail
            refine (KN.out _ ((T3.out.trans (S5.out.trans hw2)).trans t7)).mono ?_
            rintro e w8 ⟨rfl, t8⟩
            go_wp2
            go_ret
            exact ⟨rfl, ((T3.out.trans (S5.out.trans hw2)).trans t7).trans t8⟩
          obtain ⟨q, rfl⟩ : ∃ q : Nat, c = q := Int.eq_ofNat_of_zero_le (by omega)
          have hqn : q ≤ n1 := by omega
          have hc0' : ¬ ((q : Int) < 0) := by omega
          have hcn' : ¬ ((n1 : Int) < q) := by omega
          have g7 : decide ((q : Int) < 0) = false := decide_eq_false hc0'
          have g8 : decide (n1 < q) = false := decide_eq_false (by omega)
          clear hc0 hcn hcb
          obtain ⟨e2, he2⟩ : ∃ e2 : Nat, e2 = q + n2 := ⟨_, rfl⟩
          have hsum : (q : Int) + (n2 : Int) = (e2 : Int) := by omega
          have hw64 : IntKind.i64.wrap ((q : Int) + (n2 : Int)) = (e2 : Int) := by rw [hsum]; exact IntWalk.i64_in _ (by omega)
          have He2 := Lib.hid he2
          clear he2
          by_cases hend : n1 < e2
          · have Hf := Lib.hid (Herr.out 3 (by decide) (ap1_c Hr.out Hl.out (.inr (.inr (by rw [Hc.out, Hn1.out, Hn2.out]; have := He2.out; omega)))))
            have d2 : (n1 : Int) < e2 := by omega
            have d3 : decide (n1 < e2) = true := decide_eq_true hend
            refine wp_region_quiet_below (by kernel_rfl) (by kernel_rfl) ?_
            repeat (first | go_big_quiet_skip | (go_big_quiet_want; go_big_quiet_op; go_big_quiet_on))
            refine wpQuiet_nil ?_; intro w2 hw2'; have hw2 := regrown_sees hw2'; clear hw2'
            go_wp2_with fail
            refine (KA.out 3 _ (S5.out.trans hw2) Hf.out).mono ?_
            rintro e w7 ⟨rfl, t7⟩
            go_wp2_with fail
            refine (KN.out _ ((T3.out.trans (S5.out.trans hw2)).trans t7)).mono ?_
            rintro e w8 ⟨rfl, t8⟩
            go_wp2
            go_ret
            exact ⟨rfl, ((T3.out.trans (S5.out.trans hw2)).trans t7).trans t8⟩
          have hend' : ¬ ((n1 : Int) < e2) := by omega
          have g9 : decide (n1 < e2) = false := decide_eq_false (by omega)
          refine wp_region_quiet_below (by kernel_rfl) (by kernel_rfl) ?_
          repeat (first | go_big_quiet_skip | (go_big_quiet_want; go_big_quiet_op; go_big_quiet_on))
          refine wpQuiet_nil ?_; intro w2 hw2'; have hw2 := regrown_sees hw2'; clear hw2'
          obtain ⟨w6, rfl⟩ : ∃ w6 : World, w6 = w2 := ⟨_, rfl⟩
          have Hw56 := Lib.hid hw2
          have k0 := hw2.cell k0
          have k1 := hw2.cell k1
          have k2 := hw2.cell k2
          have z0 := hw2.cell Z0.out
          have S6 := Lib.hid (S5.out.trans hw2)
          have Hs6 := Lib.hid (Hs5.out.trans hw2)
          have K3' := Lib.hid (hw2.cell K3.out)
          have K1' := Lib.hid k1
          have K2' := Lib.hid k2
          have K0' := Lib.hid k0
          have Z0' := Lib.hid z0
          clear hw2 g0 g1 g2 h0 K1 K2 K3 Z0 S5 Hs5
          have hq0 : 0 ≤ (q : Int) := by omega
          by_cases hn0 : n2 = 0
          · have d0 : decide ((n2 : Int) > 0) = false := decide_eq_false (by omega)
            have d0' : ¬ ((0 : Int) < n2) := by omega
            have d0'' : ¬ (0 < n2) := by omega
            have Htorn : Hid (torn zc l.cells q p.cells.length = false) := by unfold Hid torn; rw [Hn2.out, hn0]; simp
            have Hn0 := Lib.hid hn0
            clear hn0
            go_wp2_with fail
            refine (row_any _ p.cells _ (Ht.out.sees (T3.out.trans S6.out)) ((X3.out.sees Hs6.out).rdCells) (by rw [Hn2.out]; omega)).mono ?_
            rintro e w7 ⟨rfl, t7⟩
            have S7 := Lib.hid (S6.out.trans t7)
            have Hs7 := Lib.hid (Hs6.out.trans t7)
            have K0 := Lib.hid (t7.cell K0'.out)
            have K1 := Lib.hid (t7.cell K1'.out)
            have K2 := Lib.hid (t7.cell K2'.out)
            have K3 := Lib.hid (t7.cell K3'.out)
            have Z0 := Lib.hid (t7.cell Z0'.out)
            clear t7 k0 k1 k2 z0
            rcases bool_cases (rowOk p.cells) with er | er
            case inr =>
              have Hf := Lib.hid (Herr.out 12 (by decide) (ap1_m Hr.out Hl.out Hc.out (by rw [Hn1.out, Hn2.out]; have := He2.out; omega) (.inl er)))
              go_wp2_with fail
              refine (KA.out 12 _ S7.out Hf.out).mono ?_
              rintro e w8 ⟨rfl, t8⟩
              go_wp2_with fail
              refine (KN.out _ ((T3.out.trans S7.out).trans t8)).mono ?_
              rintro e w9 ⟨rfl, t9⟩
              go_wp2
              go_ret
              exact ⟨rfl, ((T3.out.trans S7.out).trans t8).trans t9⟩
            case inl =>
              have HA := Lib.hid (Hmore.out _ (ap1_ok Hr.out Hl.out Hc.out (by rw [Hn1.out, Hn2.out]; have := He2.out; omega) ⟨er, Htorn.out⟩))
              have HO7 := Lib.hid (Ho.out.cut.sees Hs7.out)
              have HX7 := Lib.hid (X3.out.sees Hs7.out)
              go_wp2
              obtain ⟨wo, rfl⟩ : ∃ wo : World, wo = wr := ⟨_, rfl⟩
              go_loopw [13] (fun t W => ∃ k0 : Nat, k0 ≤ n2 ∧ t = .int .i64 k0 ∧ lnEl.Own (fun b => w3.heap.size ≤ b ∧ b < wo.heap.size) W (.slice (some ⟨b, 0, none⟩) n c7) (y.set i ⟨putAt l.cells q (p.cells.take k0), l.soft⟩) ∧ Keeps (fun b => w3.heap.size ≤ b ∧ b < wo.heap.size) w7 W ∧ W.cell? ⟨b, i * 2, none⟩ = some (.slice a2 n1 c2)) (fun t _ => n2 - (intOf t).toNat)
              case atStart => exact ⟨0, by omega, rfl, by rw [List.take_zero, putAt_nil, set_same Hl.out]; exact HO7.out, Keeps.refl _ _, Z0.out⟩
              case round =>
                obtain ⟨k0, hk0, rfl, ho, hk, hz⟩ := hrel
                have hno : ¬ (w3.heap.size ≤ wo.heap.size ∧ wo.heap.size < wo.heap.size) := by omega
                have Hoi := Lib.hid ho
                have Hki := Lib.hid hk
                have K1i := Lib.hid (hk.cell (a := ⟨wo.heap.size, 1, none⟩) hno K1.out)
                have K2i := Lib.hid (hk.cell (a := ⟨wo.heap.size, 2, none⟩) hno K2.out)
                have k2i := K2i.out
                have Zi := Lib.hid hz
                clear ho hk hz
                by_cases hkl : k0 < n2
                case pos => exact absurd hkl (by have := Hn0.out; omega)
                obtain rfl : k0 = n2 := by omega
                have K0i := Hki.out.cell (a := ⟨wo.heap.size, 0, none⟩) hno K0.out
                have K3i := Hki.out.cell (a := ⟨wo.heap.size, 3, none⟩) hno K3.out
                have HO : Hid (lnEl.Own (fun b => w3.heap.size ≤ b ∧ b < wo.heap.size) wr (.slice (some ⟨b, 0, none⟩) n c7) (y.set i ⟨putAt l.cells q p.cells, l.soft⟩)) := by
                  have := Hoi.out
                  rwa [List.take_of_length_le (by rw [Hn2.out]; exact Nat.le_refl _)] at this
                obtain ⟨b', a2', c2', e1, hFb', hx1, hx2, hx3, hx4, z1, hx5, hsoft, hx6⟩ := own_line HO.out (set_at Hl.out _)
                cases e1
                clear hx1 hx2 hx3 hx4 hx5 hx6
                have hsf := hsoft p.soft
                have f1 := hsf.1
                have Hfin := Lib.hid hsf.2
                have HFb' := Lib.hid hFb'
                clear hsf hsoft hFb' Hoi
                go_wp2
                refine ⟨⟨j + 1, _, by omega, by go_num, HA.out, by rw [List.length_set]; exact Hyl.out, ?_, ?_, ?_⟩, by simp [intOf] <;> omega⟩
                · intro t ht
                  rcases List.mem_or_eq_of_mem_set ht with h | rfl
                  · exact Hy24.out t h
                  · show (putAt l.cells q p.cells).length ≤ 24
                    rw [putAt_length _ _ _ (by rw [Hn1.out, Hn2.out]; have := He2.out; omega), Hn1.out]; exact hl24
                · have := Hfin.out
                  rw [List.set_set] at this
                  exact this.mono (fun b _ h => h.1)
                · exact (((Keeps.of_sees (F := fun _ => False) S7.out).trans' Hki.out (fun c hc e => by have := e.1; omega)).sees_end (fun _ _ h => h)).setCell (p := ⟨b, i * 2 + 1, none⟩) HFb'.out.1 _
          · have d0 : decide ((n2 : Int) > 0) = true := decide_eq_true (by omega)
            have d0' : (0 : Int) < n2 := by omega
            obtain ⟨g2, ha2, hFg2, hnc, hnl, hat⟩ := own_cells_at Hown.out (show 0 < n1 by have := He2.out; omega)
            clear hnc hnl hFg2
            subst ha2
            obtain ⟨cc, hcc⟩ : ∃ cc, l.cells[q]? = some cc := ⟨_, List.getElem?_eq_getElem (by have := Hn1.out; have := He2.out; omega)⟩
            have w0' := Hw56.out.cell (hat q cc hcc).all.2.2.2.2.1
            have Hcc := Lib.hid (isz_at hcc)
            have Hat := Lib.hid hat
            have hqn' : q < n1 := by have := He2.out; omega
            have hqp : (0 : Nat) < n2 := by omega
            clear hcc hat
            rcases bool_cases (cc.width == 0) with ew | ew
            · have Hf := Lib.hid (Herr.out 12 (by decide) (ap1_m Hr.out Hl.out Hc.out (by rw [Hn1.out, Hn2.out]; have := He2.out; omega) (.inr (by unfold torn; rw [Hn2.out, Hcc.out, ew]; simp [hqp]))))
              go_wp2_with fail
              refine (KA.out 12 _ S6.out Hf.out).mono ?_
              rintro e w7 ⟨rfl, t7⟩
              go_wp2_with fail
              refine (KN.out _ ((T3.out.trans S6.out).trans t7)).mono ?_
              rintro e w8 ⟨rfl, t8⟩
              go_wp2
              go_ret
              exact ⟨rfl, ((T3.out.trans S6.out).trans t7).trans t8⟩
            · by_cases hlast : e2 < n1
              · obtain ⟨dd, hdd⟩ : ∃ dd, l.cells[e2]? = some dd := ⟨_, List.getElem?_eq_getElem (by have := Hn1.out; omega)⟩
                have w1' := Hw56.out.cell (Hat.out e2 dd hdd).all.2.2.2.2.1
                have Hdd := Lib.hid (isz_at hdd)
                have d3 : (e2 : Int) < n1 := by omega
                clear hdd
                rcases bool_cases (dd.width == 0) with ev | ev
                · have Hf := Lib.hid (Herr.out 12 (by decide) (ap1_m Hr.out Hl.out Hc.out (by rw [Hn1.out, Hn2.out]; have := He2.out; omega) (.inr (by unfold torn; rw [Hn2.out, ← He2.out, Hdd.out, ev]; simp [hqp]))))
                  go_wp2_with fail
                  refine (KA.out 12 _ S6.out Hf.out).mono ?_
                  rintro e w7 ⟨rfl, t7⟩
                  go_wp2_with fail
                  refine (KN.out _ ((T3.out.trans S6.out).trans t7)).mono ?_
                  rintro e w8 ⟨rfl, t8⟩
                  go_wp2
                  go_ret
                  exact ⟨rfl, ((T3.out.trans S6.out).trans t7).trans t8⟩
                · have Htorn : Hid (torn zc l.cells q p.cells.length = false) := by unfold Hid torn; rw [Hn2.out, ← He2.out, Hdd.out, Hcc.out, ev, ew]; simp
                  go_wp2_with fail
                  refine (row_any _ p.cells _ (Ht.out.sees (T3.out.trans S6.out)) ((X3.out.sees Hs6.out).rdCells) (by rw [Hn2.out]; omega)).mono ?_
                  rintro e w7 ⟨rfl, t7⟩
                  have S7 := Lib.hid (S6.out.trans t7)
                  have Hs7 := Lib.hid (Hs6.out.trans t7)
                  have K0 := Lib.hid (t7.cell K0'.out)
                  have K1 := Lib.hid (t7.cell K1'.out)
                  have K2 := Lib.hid (t7.cell K2'.out)
                  have K3 := Lib.hid (t7.cell K3'.out)
                  have Z0 := Lib.hid (t7.cell Z0'.out)
                  clear t7 k0 k1 k2 z0
                  rcases bool_cases (rowOk p.cells) with er | er
                  case inr =>
                    have Hf := Lib.hid (Herr.out 12 (by decide) (ap1_m Hr.out Hl.out Hc.out (by rw [Hn1.out, Hn2.out]; have := He2.out; omega) (.inl er)))
                    go_wp2_with fail
                    refine (KA.out 12 _ S7.out Hf.out).mono ?_
                    rintro e w8 ⟨rfl, t8⟩
                    go_wp2_with fail
                    refine (KN.out _ ((T3.out.trans S7.out).trans t8)).mono ?_
                    rintro e w9 ⟨rfl, t9⟩
                    go_wp2
                    go_ret
                    exact ⟨rfl, ((T3.out.trans S7.out).trans t8).trans t9⟩
                  case inl =>
                    have HA := Lib.hid (Hmore.out _ (ap1_ok Hr.out Hl.out Hc.out (by rw [Hn1.out, Hn2.out]; have := He2.out; omega) ⟨er, Htorn.out⟩))
                    have HO7 := Lib.hid (Ho.out.cut.sees Hs7.out)
                    have HX7 := Lib.hid (X3.out.sees Hs7.out)
                    go_wp2
                    obtain ⟨wo, rfl⟩ : ∃ wo : World, wo = wr := ⟨_, rfl⟩
                    go_loopw [13] (fun t W => ∃ k0 : Nat, k0 ≤ n2 ∧ t = .int .i64 k0 ∧ lnEl.Own (fun b => w3.heap.size ≤ b ∧ b < wo.heap.size) W (.slice (some ⟨b, 0, none⟩) n c7) (y.set i ⟨putAt l.cells q (p.cells.take k0), l.soft⟩) ∧ Keeps (fun b => w3.heap.size ≤ b ∧ b < wo.heap.size) w7 W ∧ W.cell? ⟨b, i * 2, none⟩ = some (.slice (some ⟨g2, 0, none⟩) n1 c2)) (fun t _ => n2 - (intOf t).toNat)
                    case atStart => exact ⟨0, by omega, rfl, by rw [List.take_zero, putAt_nil, set_same Hl.out]; exact HO7.out, Keeps.refl _ _, Z0.out⟩
                    case round =>
                      obtain ⟨k0, hk0, rfl, ho, hk, hz⟩ := hrel
                      have hno : ¬ (w3.heap.size ≤ wo.heap.size ∧ wo.heap.size < wo.heap.size) := by omega
                      have Hoi := Lib.hid ho
                      have Hki := Lib.hid hk
                      have K1i := Lib.hid (hk.cell (a := ⟨wo.heap.size, 1, none⟩) hno K1.out)
                      have K2i := Lib.hid (hk.cell (a := ⟨wo.heap.size, 2, none⟩) hno K2.out)
                      have k2i := K2i.out
                      have Zi := Lib.hid hz
                      clear ho hk hz
                      by_cases hkl : k0 < n2
                      case pos =>
                        obtain ⟨b5, o5, d, ha1, hb5, hd, hcd⟩ := (HX7.out.keeps Hki.out (fun b hb h => by have := T3.out.size; omega)).cell hkl
                        subst ha1
                        have Hd := Lib.hid hd
                        have Hcd := Lib.hid hcd
                        obtain ⟨s, hs⟩ : ∃ s : Nat, s = q + k0 := ⟨_, rfl⟩
                        have hsw : IntKind.i64.wrap ((q : Int) + (k0 : Int)) = (s : Int) := by rw [hs]; exact IntWalk.i64_in _ (by omega)
                        have hsn : s < n1 := by have := He2.out; omega
                        have Hlen : Hid ((putAt l.cells q (p.cells.take k0)).length = n1) := by unfold Hid; rw [putAt_length, Hn1.out]; rw [List.length_take, Hn1.out, Hn2.out]; have := He2.out; omega
                        have Hset := Lib.hid (putAt_set (cs := l.cells) (q := q) (by rw [Hn1.out, Hn2.out]; have := He2.out; omega) Hd.out)
                        rw [← hs] at Hset
                        obtain ⟨b', a2', c2', e1, hFb', hx1, hx2, hx3, hz', hx4, hx5, hx6, hst⟩ := own_line Hoi.out (set_at Hl.out _)
                        cases e1
                        clear hx1 hx2 hx3 hx4 hx5 hx6
                        have hz2 := Zi.out
                        rw [hz'] at hz2
                        have hge := hst s (by show s < (putAt l.cells q (p.cells.take k0)).length; rw [Hlen.out]; exact hsn)
                        have ha2' : a2' = some ⟨g2, 0, none⟩ := by injection hz2 with h; injection h
                        obtain ⟨g', ha2'', hFg, hgb, hx1, hx2⟩ := hge
                        clear hx1 hx2
                        rw [ha2'] at ha2''
                        have hgg : g2 = g' := by injection ha2'' with h; injection h
                        have HFg : Hid (w3.heap.size ≤ g2 ∧ g2 < wo.heap.size) := by rw [hgg]; exact hFg
                        have Hgb : Hid (g2 ≠ b) := by rw [hgg]; exact hgb
                        clear hst hz2 ha2' ha2'' hFg hgb hgg hz' hFb'
                        have HST : Hid (∀ W, Sees wr W → ∃ W', (Instr.storeAt 46 (.pointer (some ⟨g2, s * 16, none⟩)) d.val).run Tryd.prog W = .ok () W' ∧ lnEl.Own (fun b => w3.heap.size ≤ b ∧ b < wo.heap.size) W' (.slice (some ⟨b, 0, none⟩) n c7) (y.set i ⟨putAt l.cells q (p.cells.take (k0 + 1)), l.soft⟩) ∧ Keeps (fun c => c = g2) W W') := fun W hs => by
                          obtain ⟨b', a2', c2', e1, _, _, _, _, hz', _, _, _, hst⟩ := own_line (Hoi.out.sees hs) (set_at Hl.out _)
                          cases e1
                          have hz2 := hs.cell Zi.out
                          rw [hz'] at hz2
                          obtain ⟨g', e, _, _, hst1, _⟩ := hst s (by show s < (putAt l.cells q (p.cells.take k0)).length; rw [Hlen.out]; exact hsn)
                          have ha2' : a2' = some ⟨g2, 0, none⟩ := by injection hz2 with h; injection h
                          rw [ha2'] at e
                          have hgg : g2 = g' := by injection e with h; injection h
                          obtain ⟨W', q1, q2, q3⟩ := hst1 d
                          rw [← hgg] at q1 q3
                          have q2' : lnEl.Own _ W' _ ((y.set i ⟨putAt l.cells q (p.cells.take k0), l.soft⟩).set i ⟨(putAt l.cells q (p.cells.take k0)).set s d, l.soft⟩) := q2
                          rw [List.set_set, Hset.out] at q2'
                          exact ⟨W', q1, q2', q3⟩
                        have hs0 : ¬ ((s : Int) < 0) := by omega
                        have hs1 : ¬ ((n1 : Int) ≤ s) := by omega
                        have hk00 : ¬ ((k0 : Int) < 0) := by omega
                        have hk01 : ¬ ((n2 : Int) ≤ k0) := by omega
                        clear hs
                        go_wp2
                        refine wpFrom_go (by kernel_rfl) (by kernel_rfl) (fun hB w9 hw9 => ?_)
                        have hst : segStay (Sees w9) [.is (.slice (some ⟨g2, 0, none⟩) n1 c2), .is (.pointer (some ⟨wo.heap.size, 1, none⟩)), .is (.int .i64 (q : Int)), .is (.int .i64 (k0 : Int)), .is (.int .i64 (s : Int)), .is (.pointer (some ⟨wo.heap.size, 2, none⟩)), .is (.slice (some ⟨b5, o5, none⟩) n2 m1), .is (.int .i64 (k0 : Int)), .is (.pointer (some ⟨b5, o5 + k0 * 16, none⟩)), .is d.val, .is (.pointer (some ⟨g2, s * 16, none⟩))] := trivial
                        have hval : ∀ x v, (Spec.is x).val v = x := fun _ _ => rfl
                        have hval2 : ∀ V v, (Spec.so V).val v = v := fun _ _ => rfl
                        refine wpFrom_any 11 _ hB (by kernel_rfl) rfl hst (by simp only [List.cons_append, List.nil_append, List.drop_succ_cons, List.drop_zero, List.take_succ_cons, List.take_zero, Nat.reduceSub]; rfl) ?_
                        refine ⟨fun vs W hI hV => .inl ⟨by clear hI hV hst; go_simp, .inl (by clear hI hV hst; (try simp only [Act.put, hval, hval2, List.setIfInBounds_toArray, List.set_cons_zero, List.set_cons_succ]); go_simp)⟩, ?_⟩
                        refine ⟨fun vs W hI hV => .inl ⟨by clear hI hV hst; go_simp, .inl (by clear hI hV hst; (try simp only [Act.put, hval, hval2, List.setIfInBounds_toArray, List.set_cons_zero, List.set_cons_succ]); go_simp)⟩, ?_⟩
                        refine ⟨fun vs W hI hV => .inl ⟨by clear hI hV hst; go_simp, .inl (by have q1 := (hw9.trans hI).cell K1i.out; clear hI hV hst; (try simp only [Act.put, hval, hval2, List.setIfInBounds_toArray, List.set_cons_zero, List.set_cons_succ]); go_simp)⟩, ?_⟩
                        refine ⟨fun vs W hI hV => .inl ⟨by clear hI hV hst; go_simp, .inl (by clear hI hV hst; (try simp only [Act.put, hval, hval2, List.setIfInBounds_toArray, List.set_cons_zero, List.set_cons_succ]); go_simp)⟩, ?_⟩
                        refine ⟨fun vs W hI hV => .inl ⟨by clear hI hV hst; go_simp, .inl (by clear hI hV hst; (try simp only [Act.put, hval, hval2, List.setIfInBounds_toArray, List.set_cons_zero, List.set_cons_succ]); go_simp)⟩, ?_⟩
                        refine ⟨fun vs W hI hV => .inl ⟨by clear hI hV hst; go_simp, .inl (by clear hI hV hst; (try simp only [Act.put, hval, hval2, List.setIfInBounds_toArray, List.set_cons_zero, List.set_cons_succ]); go_simp)⟩, ?_⟩
                        refine ⟨fun vs W hI hV => .inl ⟨by clear hI hV hst; go_simp, .inl (by have q1 := (hw9.trans hI).cell K2i.out; clear hI hV hst; (try simp only [Act.put, hval, hval2, List.setIfInBounds_toArray, List.set_cons_zero, List.set_cons_succ]); go_simp)⟩, ?_⟩
                        refine ⟨fun vs W hI hV => .inl ⟨by clear hI hV hst; go_simp, .inl (by clear hI hV hst; (try simp only [Act.put, hval, hval2, List.setIfInBounds_toArray, List.set_cons_zero, List.set_cons_succ]); go_simp)⟩, ?_⟩
                        refine ⟨fun vs W hI hV => .inl ⟨by clear hI hV hst; go_simp, .inl (by clear hI hV hst; (try simp only [Act.put, hval, hval2, List.setIfInBounds_toArray, List.set_cons_zero, List.set_cons_succ]); go_simp)⟩, ?_⟩
                        refine ⟨fun vs W hI hV => .inl ⟨by clear hI hV hst; (try simp only [Act.put, hval, hval2, List.setIfInBounds_toArray, List.set_cons_zero, List.set_cons_succ]); go_simp, .inl (exec_load rfl (by clear hI hV hst; (try simp only [Act.put, hval, hval2, List.setIfInBounds_toArray, List.set_cons_zero, List.set_cons_succ]); go_simp) (run_loadCell (c := d) (Hcd.out.sees (hw9.trans hI))))⟩, ?_⟩
                        refine ⟨fun vs W hI hV => .inl ⟨by clear hI hV hst; go_simp, .inl (by clear hI hV hst; (try simp only [Act.put, hval, hval2, List.setIfInBounds_toArray, List.set_cons_zero, List.set_cons_succ]); go_simp)⟩, ?_⟩
                        intro vs w10 hI hV
                        have hs10 := hw9.trans hI
                        obtain ⟨w11, hrun, ho11, hk11⟩ := HST.out w10 hs10
                        have Hs10 := Lib.hid hs10
                        have Hrun := Lib.hid hrun
                        have Ho11 := Lib.hid ho11
                        have Hk11 := Lib.hid hk11
                        clear hI hV hst hs10 hw9 hrun ho11 hk11
                        (try simp only [Act.put, hval, hval2, List.setIfInBounds_toArray, List.set_cons_zero, List.set_cons_succ])
                        refine wpFrom_to 12 hB (fun _ _ _ _ _ h => h) (by kernel_rfl) (by simp only [List.cons_append, List.nil_append, List.drop_succ_cons, List.drop_zero, List.take_succ_cons, List.take_zero, Nat.reduceSub]; rfl) ?_
                        refine wpList_skip rfl (exec_store (x := .tmp 182) (y := .tmp 181) rfl (by go_simp) (by go_simp) Hrun.out) (fun K hK => hK _ _ ?_)
                        clear hK K
                        refine wpFrom_end rfl ?_; go_wp2
                        refine ⟨⟨k0 + 1, by omega, by go_num, Ho11.out, Hki.out.trans ((Keeps.of_sees Hs10.out).trans (Hk11.out.mono (fun c _ e => by have e : c = g2 := e; rw [e]; exact HFg.out))), Hk11.out.cell (fun e => Hgb.out (Eq.symm e)) (Hs10.out.cell Zi.out)⟩, by simp [intOf] <;> omega⟩
                      obtain rfl : k0 = n2 := by omega
                      have K0i := Hki.out.cell (a := ⟨wo.heap.size, 0, none⟩) hno K0.out
                      have K3i := Hki.out.cell (a := ⟨wo.heap.size, 3, none⟩) hno K3.out
                      have HO : Hid (lnEl.Own (fun b => w3.heap.size ≤ b ∧ b < wo.heap.size) wr (.slice (some ⟨b, 0, none⟩) n c7) (y.set i ⟨putAt l.cells q p.cells, l.soft⟩)) := by
                        have := Hoi.out
                        rwa [List.take_of_length_le (by rw [Hn2.out]; exact Nat.le_refl _)] at this
                      obtain ⟨b', a2', c2', e1, hFb', hx1, hx2, hx3, hx4, z1, hx5, hsoft, hx6⟩ := own_line HO.out (set_at Hl.out _)
                      cases e1
                      clear hx1 hx2 hx3 hx4 hx5 hx6
                      have hsf := hsoft p.soft
                      have f1 := hsf.1
                      have Hfin := Lib.hid hsf.2
                      have HFb' := Lib.hid hFb'
                      clear hsf hsoft hFb' Hoi
                      go_wp2
                      refine ⟨⟨j + 1, _, by omega, by go_num, HA.out, by rw [List.length_set]; exact Hyl.out, ?_, ?_, ?_⟩, by simp [intOf] <;> omega⟩
                      · intro t ht
                        rcases List.mem_or_eq_of_mem_set ht with h | rfl
                        · exact Hy24.out t h
                        · show (putAt l.cells q p.cells).length ≤ 24
                          rw [putAt_length _ _ _ (by rw [Hn1.out, Hn2.out]; have := He2.out; omega), Hn1.out]; exact hl24
                      · have := Hfin.out
                        rw [List.set_set] at this
                        exact this.mono (fun b _ h => h.1)
                      · exact (((Keeps.of_sees (F := fun _ => False) S7.out).trans' Hki.out (fun c hc e => by have := e.1; omega)).sees_end (fun _ _ h => h)).setCell (p := ⟨b, i * 2 + 1, none⟩) HFb'.out.1 _
              · have hz := isz_no (cs := l.cells) (k := e2) (by rw [Hn1.out]; omega)
                have Htorn : Hid (torn zc l.cells q p.cells.length = false) := by unfold Hid torn; rw [Hn2.out, ← He2.out, hz, Hcc.out, ew]; simp
                have d3 : ¬ (e2 : Int) < n1 := by omega
                clear hz
                go_wp2_with fail
                refine (row_any _ p.cells _ (Ht.out.sees (T3.out.trans S6.out)) ((X3.out.sees Hs6.out).rdCells) (by rw [Hn2.out]; omega)).mono ?_
                rintro e w7 ⟨rfl, t7⟩
                have S7 := Lib.hid (S6.out.trans t7)
                have Hs7 := Lib.hid (Hs6.out.trans t7)
                have K0 := Lib.hid (t7.cell K0'.out)
                have K1 := Lib.hid (t7.cell K1'.out)
                have K2 := Lib.hid (t7.cell K2'.out)
                have K3 := Lib.hid (t7.cell K3'.out)
                have Z0 := Lib.hid (t7.cell Z0'.out)
                clear t7 k0 k1 k2 z0
                rcases bool_cases (rowOk p.cells) with er | er
                case inr =>
                  have Hf := Lib.hid (Herr.out 12 (by decide) (ap1_m Hr.out Hl.out Hc.out (by rw [Hn1.out, Hn2.out]; have := He2.out; omega) (.inl er)))
                  go_wp2_with fail
                  refine (KA.out 12 _ S7.out Hf.out).mono ?_
                  rintro e w8 ⟨rfl, t8⟩
                  go_wp2_with fail
                  refine (KN.out _ ((T3.out.trans S7.out).trans t8)).mono ?_
                  rintro e w9 ⟨rfl, t9⟩
                  go_wp2
                  go_ret
                  exact ⟨rfl, ((T3.out.trans S7.out).trans t8).trans t9⟩
                case inl =>
                  have HA := Lib.hid (Hmore.out _ (ap1_ok Hr.out Hl.out Hc.out (by rw [Hn1.out, Hn2.out]; have := He2.out; omega) ⟨er, Htorn.out⟩))
                  have HO7 := Lib.hid (Ho.out.cut.sees Hs7.out)
                  have HX7 := Lib.hid (X3.out.sees Hs7.out)
                  go_wp2
                  obtain ⟨wo, rfl⟩ : ∃ wo : World, wo = wr := ⟨_, rfl⟩
                  go_loopw [13] (fun t W => ∃ k0 : Nat, k0 ≤ n2 ∧ t = .int .i64 k0 ∧ lnEl.Own (fun b => w3.heap.size ≤ b ∧ b < wo.heap.size) W (.slice (some ⟨b, 0, none⟩) n c7) (y.set i ⟨putAt l.cells q (p.cells.take k0), l.soft⟩) ∧ Keeps (fun b => w3.heap.size ≤ b ∧ b < wo.heap.size) w7 W ∧ W.cell? ⟨b, i * 2, none⟩ = some (.slice (some ⟨g2, 0, none⟩) n1 c2)) (fun t _ => n2 - (intOf t).toNat)
                  case atStart => exact ⟨0, by omega, rfl, by rw [List.take_zero, putAt_nil, set_same Hl.out]; exact HO7.out, Keeps.refl _ _, Z0.out⟩
                  case round =>
                    obtain ⟨k0, hk0, rfl, ho, hk, hz⟩ := hrel
                    have hno : ¬ (w3.heap.size ≤ wo.heap.size ∧ wo.heap.size < wo.heap.size) := by omega
                    have Hoi := Lib.hid ho
                    have Hki := Lib.hid hk
                    have K1i := Lib.hid (hk.cell (a := ⟨wo.heap.size, 1, none⟩) hno K1.out)
                    have K2i := Lib.hid (hk.cell (a := ⟨wo.heap.size, 2, none⟩) hno K2.out)
                    have k2i := K2i.out
                    have Zi := Lib.hid hz
                    clear ho hk hz
                    by_cases hkl : k0 < n2
                    case pos =>
                      obtain ⟨b5, o5, d, ha1, hb5, hd, hcd⟩ := (HX7.out.keeps Hki.out (fun b hb h => by have := T3.out.size; omega)).cell hkl
                      subst ha1
                      have Hd := Lib.hid hd
                      have Hcd := Lib.hid hcd
                      obtain ⟨s, hs⟩ : ∃ s : Nat, s = q + k0 := ⟨_, rfl⟩
                      have hsw : IntKind.i64.wrap ((q : Int) + (k0 : Int)) = (s : Int) := by rw [hs]; exact IntWalk.i64_in _ (by omega)
                      have hsn : s < n1 := by have := He2.out; omega
                      have Hlen : Hid ((putAt l.cells q (p.cells.take k0)).length = n1) := by unfold Hid; rw [putAt_length, Hn1.out]; rw [List.length_take, Hn1.out, Hn2.out]; have := He2.out; omega
                      have Hset := Lib.hid (putAt_set (cs := l.cells) (q := q) (by rw [Hn1.out, Hn2.out]; have := He2.out; omega) Hd.out)
                      rw [← hs] at Hset
                      obtain ⟨b', a2', c2', e1, hFb', hx1, hx2, hx3, hz', hx4, hx5, hx6, hst⟩ := own_line Hoi.out (set_at Hl.out _)
                      cases e1
                      clear hx1 hx2 hx3 hx4 hx5 hx6
                      have hz2 := Zi.out
                      rw [hz'] at hz2
                      have hge := hst s (by show s < (putAt l.cells q (p.cells.take k0)).length; rw [Hlen.out]; exact hsn)
                      have ha2' : a2' = some ⟨g2, 0, none⟩ := by injection hz2 with h; injection h
                      obtain ⟨g', ha2'', hFg, hgb, hx1, hx2⟩ := hge
                      clear hx1 hx2
                      rw [ha2'] at ha2''
                      have hgg : g2 = g' := by injection ha2'' with h; injection h
                      have HFg : Hid (w3.heap.size ≤ g2 ∧ g2 < wo.heap.size) := by rw [hgg]; exact hFg
                      have Hgb : Hid (g2 ≠ b) := by rw [hgg]; exact hgb
                      clear hst hz2 ha2' ha2'' hFg hgb hgg hz' hFb'
                      have HST : Hid (∀ W, Sees wr W → ∃ W', (Instr.storeAt 46 (.pointer (some ⟨g2, s * 16, none⟩)) d.val).run Tryd.prog W = .ok () W' ∧ lnEl.Own (fun b => w3.heap.size ≤ b ∧ b < wo.heap.size) W' (.slice (some ⟨b, 0, none⟩) n c7) (y.set i ⟨putAt l.cells q (p.cells.take (k0 + 1)), l.soft⟩) ∧ Keeps (fun c => c = g2) W W') := fun W hs => by
                        obtain ⟨b', a2', c2', e1, _, _, _, _, hz', _, _, _, hst⟩ := own_line (Hoi.out.sees hs) (set_at Hl.out _)
                        cases e1
                        have hz2 := hs.cell Zi.out
                        rw [hz'] at hz2
                        obtain ⟨g', e, _, _, hst1, _⟩ := hst s (by show s < (putAt l.cells q (p.cells.take k0)).length; rw [Hlen.out]; exact hsn)
                        have ha2' : a2' = some ⟨g2, 0, none⟩ := by injection hz2 with h; injection h
                        rw [ha2'] at e
                        have hgg : g2 = g' := by injection e with h; injection h
                        obtain ⟨W', q1, q2, q3⟩ := hst1 d
                        rw [← hgg] at q1 q3
                        have q2' : lnEl.Own _ W' _ ((y.set i ⟨putAt l.cells q (p.cells.take k0), l.soft⟩).set i ⟨(putAt l.cells q (p.cells.take k0)).set s d, l.soft⟩) := q2
                        rw [List.set_set, Hset.out] at q2'
                        exact ⟨W', q1, q2', q3⟩
                      have hs0 : ¬ ((s : Int) < 0) := by omega
                      have hs1 : ¬ ((n1 : Int) ≤ s) := by omega
                      have hk00 : ¬ ((k0 : Int) < 0) := by omega
                      have hk01 : ¬ ((n2 : Int) ≤ k0) := by omega
                      clear hs
                      go_wp2
                      refine wpFrom_go (by kernel_rfl) (by kernel_rfl) (fun hB w9 hw9 => ?_)
                      have hst : segStay (Sees w9) [.is (.slice (some ⟨g2, 0, none⟩) n1 c2), .is (.pointer (some ⟨wo.heap.size, 1, none⟩)), .is (.int .i64 (q : Int)), .is (.int .i64 (k0 : Int)), .is (.int .i64 (s : Int)), .is (.pointer (some ⟨wo.heap.size, 2, none⟩)), .is (.slice (some ⟨b5, o5, none⟩) n2 m1), .is (.int .i64 (k0 : Int)), .is (.pointer (some ⟨b5, o5 + k0 * 16, none⟩)), .is d.val, .is (.pointer (some ⟨g2, s * 16, none⟩))] := trivial
                      have hval : ∀ x v, (Spec.is x).val v = x := fun _ _ => rfl
                      have hval2 : ∀ V v, (Spec.so V).val v = v := fun _ _ => rfl
                      refine wpFrom_any 11 _ hB (by kernel_rfl) rfl hst (by simp only [List.cons_append, List.nil_append, List.drop_succ_cons, List.drop_zero, List.take_succ_cons, List.take_zero, Nat.reduceSub]; rfl) ?_
                      refine ⟨fun vs W hI hV => .inl ⟨by clear hI hV hst; go_simp, .inl (by clear hI hV hst; (try simp only [Act.put, hval, hval2, List.setIfInBounds_toArray, List.set_cons_zero, List.set_cons_succ]); go_simp)⟩, ?_⟩
                      refine ⟨fun vs W hI hV => .inl ⟨by clear hI hV hst; go_simp, .inl (by clear hI hV hst; (try simp only [Act.put, hval, hval2, List.setIfInBounds_toArray, List.set_cons_zero, List.set_cons_succ]); go_simp)⟩, ?_⟩
                      refine ⟨fun vs W hI hV => .inl ⟨by clear hI hV hst; go_simp, .inl (by have q1 := (hw9.trans hI).cell K1i.out; clear hI hV hst; (try simp only [Act.put, hval, hval2, List.setIfInBounds_toArray, List.set_cons_zero, List.set_cons_succ]); go_simp)⟩, ?_⟩
                      refine ⟨fun vs W hI hV => .inl ⟨by clear hI hV hst; go_simp, .inl (by clear hI hV hst; (try simp only [Act.put, hval, hval2, List.setIfInBounds_toArray, List.set_cons_zero, List.set_cons_succ]); go_simp)⟩, ?_⟩
                      refine ⟨fun vs W hI hV => .inl ⟨by clear hI hV hst; go_simp, .inl (by clear hI hV hst; (try simp only [Act.put, hval, hval2, List.setIfInBounds_toArray, List.set_cons_zero, List.set_cons_succ]); go_simp)⟩, ?_⟩
                      refine ⟨fun vs W hI hV => .inl ⟨by clear hI hV hst; go_simp, .inl (by clear hI hV hst; (try simp only [Act.put, hval, hval2, List.setIfInBounds_toArray, List.set_cons_zero, List.set_cons_succ]); go_simp)⟩, ?_⟩
                      refine ⟨fun vs W hI hV => .inl ⟨by clear hI hV hst; go_simp, .inl (by have q1 := (hw9.trans hI).cell K2i.out; clear hI hV hst; (try simp only [Act.put, hval, hval2, List.setIfInBounds_toArray, List.set_cons_zero, List.set_cons_succ]); go_simp)⟩, ?_⟩
                      refine ⟨fun vs W hI hV => .inl ⟨by clear hI hV hst; go_simp, .inl (by clear hI hV hst; (try simp only [Act.put, hval, hval2, List.setIfInBounds_toArray, List.set_cons_zero, List.set_cons_succ]); go_simp)⟩, ?_⟩
                      refine ⟨fun vs W hI hV => .inl ⟨by clear hI hV hst; go_simp, .inl (by clear hI hV hst; (try simp only [Act.put, hval, hval2, List.setIfInBounds_toArray, List.set_cons_zero, List.set_cons_succ]); go_simp)⟩, ?_⟩
                      refine ⟨fun vs W hI hV => .inl ⟨by clear hI hV hst; (try simp only [Act.put, hval, hval2, List.setIfInBounds_toArray, List.set_cons_zero, List.set_cons_succ]); go_simp, .inl (exec_load rfl (by clear hI hV hst; (try simp only [Act.put, hval, hval2, List.setIfInBounds_toArray, List.set_cons_zero, List.set_cons_succ]); go_simp) (run_loadCell (c := d) (Hcd.out.sees (hw9.trans hI))))⟩, ?_⟩
                      refine ⟨fun vs W hI hV => .inl ⟨by clear hI hV hst; go_simp, .inl (by clear hI hV hst; (try simp only [Act.put, hval, hval2, List.setIfInBounds_toArray, List.set_cons_zero, List.set_cons_succ]); go_simp)⟩, ?_⟩
                      intro vs w10 hI hV
                      have hs10 := hw9.trans hI
                      obtain ⟨w11, hrun, ho11, hk11⟩ := HST.out w10 hs10
                      have Hs10 := Lib.hid hs10
                      have Hrun := Lib.hid hrun
                      have Ho11 := Lib.hid ho11
                      have Hk11 := Lib.hid hk11
                      clear hI hV hst hs10 hw9 hrun ho11 hk11
                      (try simp only [Act.put, hval, hval2, List.setIfInBounds_toArray, List.set_cons_zero, List.set_cons_succ])
                      refine wpFrom_to 12 hB (fun _ _ _ _ _ h => h) (by kernel_rfl) (by simp only [List.cons_append, List.nil_append, List.drop_succ_cons, List.drop_zero, List.take_succ_cons, List.take_zero, Nat.reduceSub]; rfl) ?_
                      refine wpList_skip rfl (exec_store (x := .tmp 182) (y := .tmp 181) rfl (by go_simp) (by go_simp) Hrun.out) (fun K hK => hK _ _ ?_)
                      clear hK K
                      refine wpFrom_end rfl ?_; go_wp2
                      refine ⟨⟨k0 + 1, by omega, by go_num, Ho11.out, Hki.out.trans ((Keeps.of_sees Hs10.out).trans (Hk11.out.mono (fun c _ e => by have e : c = g2 := e; rw [e]; exact HFg.out))), Hk11.out.cell (fun e => Hgb.out (Eq.symm e)) (Hs10.out.cell Zi.out)⟩, by simp [intOf] <;> omega⟩
                    obtain rfl : k0 = n2 := by omega
                    have K0i := Hki.out.cell (a := ⟨wo.heap.size, 0, none⟩) hno K0.out
                    have K3i := Hki.out.cell (a := ⟨wo.heap.size, 3, none⟩) hno K3.out
                    have HO : Hid (lnEl.Own (fun b => w3.heap.size ≤ b ∧ b < wo.heap.size) wr (.slice (some ⟨b, 0, none⟩) n c7) (y.set i ⟨putAt l.cells q p.cells, l.soft⟩)) := by
                      have := Hoi.out
                      rwa [List.take_of_length_le (by rw [Hn2.out]; exact Nat.le_refl _)] at this
                    obtain ⟨b', a2', c2', e1, hFb', hx1, hx2, hx3, hx4, z1, hx5, hsoft, hx6⟩ := own_line HO.out (set_at Hl.out _)
                    cases e1
                    clear hx1 hx2 hx3 hx4 hx5 hx6
                    have hsf := hsoft p.soft
                    have f1 := hsf.1
                    have Hfin := Lib.hid hsf.2
                    have HFb' := Lib.hid hFb'
                    clear hsf hsoft hFb' Hoi
                    go_wp2
                    refine ⟨⟨j + 1, _, by omega, by go_num, HA.out, by rw [List.length_set]; exact Hyl.out, ?_, ?_, ?_⟩, by simp [intOf] <;> omega⟩
                    · intro t ht
                      rcases List.mem_or_eq_of_mem_set ht with h | rfl
                      · exact Hy24.out t h
                      · show (putAt l.cells q p.cells).length ≤ 24
                        rw [putAt_length _ _ _ (by rw [Hn1.out, Hn2.out]; have := He2.out; omega), Hn1.out]; exact hl24
                    · have := Hfin.out
                      rw [List.set_set] at this
                      exact this.mono (fun b _ h => h.1)
                    · exact (((Keeps.of_sees (F := fun _ => False) S7.out).trans' Hki.out (fun c hc e => by have := e.1; omega)).sees_end (fun _ _ h => h)).setCell (p := ⟨b, i * 2 + 1, none⟩) HFb'.out.1 _
        · obtain rfl : j = k := by omega
          have HE : Hid (apP zc rowOk xs ps = (0, y)) := by
            have := Hap.out
            rwa [List.take_of_length_le (by rw [← Hnb.out]; exact Nat.le_refl _)] at this
          have HR : Hid (apR xs ps = (0, y)) := by unfold Hid apR; rw [if_pos Hsd.out]; exact HE.out
          clear hj hjl
          go_wp2_with fail
          have KB := applies_any _ _ _ _ _ _ xs wr ps y 0 (Ht.out.sees (T3.out.trans HS.out)) (HX3.out.rd.sees HS.out) (Hb.out.sees (T3.out.trans HS.out)) Ho.out.rd (by rw [← Hna.out]; omega) (fun l hl => by have := B1.out.2 l hl; omega) (by rw [← Hnb.out]; omega) (fun p hp => by have := HL.out p hp; omega) Hcol.out
          rw [HR.out] at KB
          simp only [decide_true, beq_self_eq_true, Bool.and_self] at KB
          refine KB.mono ?_
          clear KB
          rintro e w7 ⟨rfl, t7⟩
          have S7 := Lib.hid (HS.out.trans t7)
          clear t7
          go_wp2_with fail
          refine (apply_any _ _ _ _ xs w7 ps (Ht.out.sees (T3.out.trans S7.out)) (HX3.out.rd.sees S7.out) (Hb.out.sees (T3.out.trans S7.out)) (by rw [← Hna.out]; omega) (fun l hl => by have := B1.out.2 l hl; omega) (by rw [← Hnb.out]; omega) (fun p hp => by have := HL.out p hp; omega) Hcol.out).mono ?_
          rw [HR.out]
          rintro e w8 ⟨v8, rfl, ho8, t8⟩
          have S8 := Lib.hid (S7.out.trans t8)
          obtain ⟨a8, c8, hv8, _⟩ := ho8.slice
          simp only at hv8 ho8
          rw [Hyl.out] at hv8
          subst hv8
          have HO8 := Lib.hid ho8
          have T8 := Lib.hid t8
          clear ho8 t8 Hy24 Ho HS Hap HO4 T4
          go_wp2
          obtain ⟨wo, rfl⟩ : ∃ wo : World, wo = wr := ⟨_, rfl⟩
          go_loopw [16] (fun i W => ∃ (i0 : Nat) (z : List Ln), i0 ≤ n ∧ i = .int .i64 i0 ∧ z.length = n ∧ (∀ l ∈ z, l.cells.length ≤ 1000000) ∧ lnEl.Own (fun b => w7.heap.size ≤ b) W (.slice a8 n c8) z ∧ Sees w7 W) (fun i _ => n - (intOf i).toNat)
          case atStart => exact ⟨0, y, by omega, rfl, Hyl.out, fun l hl => by have := (apR_len xs ps).2; rw [HR.out] at this; exact this l hl, HO8.out, T8.out⟩
          case round =>
            obtain ⟨i0, z, hi0, rfl, hzl, hz24, ho, hS⟩ := hrel
            have Hzl := Lib.hid hzl
            have Hz24 := Lib.hid hz24
            have Ho := Lib.hid ho
            have HS := Lib.hid hS
            clear hzl hz24 ho hS
            by_cases hil : i0 < n
            · obtain ⟨l, hl⟩ : ∃ l, z[i0]? = some l := ⟨_, List.getElem?_eq_getElem (by have := Hzl.out; omega)⟩
              have hlM := Hz24.out l (List.mem_iff_getElem?.2 ⟨_, hl⟩)
              have Hl := Lib.hid hl
              clear hl
              obtain ⟨n5, hn5⟩ : ∃ n5, n5 = l.cells.length := ⟨_, rfl⟩
              rw [← hn5] at hlM
              have Hn5 := Lib.hid hn5
              clear hn5
              go_wp2
              obtain ⟨wp, rfl⟩ : ∃ wp : World, wp = wr := ⟨_, rfl⟩
              go_loopw [17] (fun t W => ∃ (k0 : Nat) (z : List Ln) (l : Ln), k0 ≤ n5 ∧ t = .int .i64 k0 ∧ z.length = n ∧ (∀ l ∈ z, l.cells.length ≤ 1000000) ∧ z[i0]? = some l ∧ l.cells.length = n5 ∧ lnEl.Own (fun b => w7.heap.size ≤ b) W (.slice a8 n c8) z ∧ Sees w7 W) (fun t _ => n5 - (intOf t).toNat)
              case atStart => exact ⟨0, z, l, by omega, rfl, Hzl.out, Hz24.out, Hl.out, Hn5.out.symm, Ho.out, HS.out⟩
              case round =>
                clear Hzl Hz24 Ho HS Hl Hn5
                obtain ⟨k0, z, l, hk0, rfl, hzl, hz24, hl, hn5, ho, hS⟩ := hrel
                obtain ⟨b, a2, c2, ha8, hFb, hx1, hx2, hc2, z0, z1, hx3, hx4, hst⟩ := own_line ho hl
                clear hx1 hx2 hx3 hx4 z1
                rw [hn5] at z0
                have Hzl := Lib.hid hzl
                have Hz24 := Lib.hid hz24
                have HS := Lib.hid hS
                have Hl := Lib.hid hl
                have Hn5 := Lib.hid hn5
                have Ho := Lib.hid ho
                clear hzl hz24 hS hl hn5 ho
                by_cases hkl : k0 < n5
                · obtain ⟨g, ha2, hFg, hgb, hx1, hru⟩ := hst k0 (by rw [Hn5.out]; exact hkl)
                  obtain ⟨x, hx, hcx, hfx, hox⟩ := hru 7
                  have Hox := Lib.hid hox
                  have HFg := Lib.hid hFg
                  have hk00 : ¬ ((k0 : Int) < 0) := by omega
                  have hk01 : ¬ ((n5 : Int) ≤ k0) := by omega
                  have hi00 : ¬ ((i0 : Int) < 0) := by omega
                  have hi01 : ¬ ((n : Int) ≤ i0) := by omega
                  clear hx1 hru hox hst hx hFg
                  cases ha2
                  cases ha8
                  go_wp2
                  refine ⟨⟨k0 + 1, _, ⟨l.cells.set k0 { x with rune := 7 }, l.soft⟩, by omega, by go_num, by rw [List.length_set]; exact Hzl.out, fun t ht => ?_, set_at Hl.out _, by rw [List.length_set]; exact Hn5.out, Hox.out, HS.out.setCell (p := ⟨g, k0 * 16, none⟩) HFg.out _⟩, by simp [intOf] <;> omega⟩
                  rcases List.mem_or_eq_of_mem_set ht with h | rfl
                  · exact Hz24.out t h
                  · show (l.cells.set k0 _).length ≤ 1000000
                    rw [List.length_set, Hn5.out]; exact hlM
                · obtain rfl : k0 = n5 := by omega
                  cases ha8
                  go_wp2
                  refine ⟨⟨i0 + 1, z, by omega, by go_num, Hzl.out, Hz24.out, Ho.out, HS.out⟩, by simp [intOf] <;> omega⟩
            · obtain rfl : i0 = n := by omega
              have KL := lines45_any _ _ _ _ xs xs wr (HX3.out.rd.sees (S7.out.trans HS.out)) (Ha.out.sees (T3.out.trans (S7.out.trans HS.out))) (by rw [← Hna.out]; omega) (fun l hl => by have := B1.out.2 l hl; omega)
              rw [decide_eq_true (show xs = xs from rfl)] at KL
              have HKL := Lib.hid KL
              clear KL
              go_wp2_with fail
              refine HKL.out.mono ?_
              rintro e w9 ⟨rfl, t9⟩
              go_wp2_with fail
              refine (KN.out _ ((T3.out.trans (S7.out.trans HS.out)).trans t9)).mono ?_
              rintro e w10 ⟨rfl, t10⟩
              go_wp2
              go_ret
              exact ⟨rfl, ((T3.out.trans (S7.out.trans HS.out)).trans t9).trans t10⟩
end Go.Proofs.YtonlmlmjglaoiaaDoor
