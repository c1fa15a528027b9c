/- The delta of any two screens, held against the statement's own. The tables hold what the program's text lays. -/
import Derived.Test.YtonlmlmjglaoiaaDoorDlZ
import Derived.Test.YtonlmlmjglaoiaaDoorDlX
namespace Go.Proofs.YtonlmlmjglaoiaaDoor
set_option linter.unusedVariables false
set_option linter.unusedSimpArgs false
open Go.RowKit

/-- A patch of one's own, at a place: a cell's rune is stored. -/
theorem own_patch {F : Nat → Prop} {W : World} {a : Option Addr} {n c : Nat} {ls : List Pt} (h : ptEl.Own F W (.slice a n c) ls) {i : Nat} {l : Pt} (hl : ls[i]? = some l) : ∃ b a2 c2, a = some ⟨b, 0, none⟩ ∧ F b ∧ n = ls.length ∧ n ≤ c ∧ l.cells.length ≤ c2 ∧ W.cell? ⟨b, i * 4 + 2, none⟩ = some (.slice a2 l.cells.length c2) ∧
    (∀ k, k < l.cells.length → ∃ g, a2 = some ⟨g, 0, none⟩ ∧ F g ∧ g ≠ b ∧
      (∀ r : Int, ∃ x, l.cells[k]? = some x ∧ W.cell? ⟨g, k * 16, none⟩ = some (.int .i32 x.rune) ∧ W.frozen? ⟨g, k * 16, none⟩ = false ∧ ptEl.Own F (W.setCell ⟨g, k * 16, none⟩ (.int .i32 r)) (.slice a n c) (ls.set i { l with cells := l.cells.set k { x with rune := r } }))) := by
  obtain ⟨b, cap, Fx, sv, hv, hcap, hFb, hFx, hown, hat, hback⟩ := and_inner (E := cellEl) h hl
  cases hv
  have hat : ∀ (j : Nat) u, ([.int .i64 l.row, .int .i64 l.col] ++ sv :: [.bool l.soft])[j]? = some u → W.cell? ⟨b, i * 4 + j, none⟩ = some u := hat
  have hown : cellEl.Own Fx W sv l.cells := hown
  obtain ⟨a2, c2, rfl, hc2⟩ := hown.slice
  refine ⟨b, a2, c2, rfl, hFb, rfl, hcap, hc2, hat 2 _ rfl, fun k hk => ?_⟩
  obtain ⟨g, x, rfl, hFg, _, _, hx, hcx, hfx, _⟩ := own_rune hown hk 0
  refine ⟨g, rfl, (hFx g hFg).1, (hFx g hFg).2, fun r => ?_⟩
  obtain ⟨g', x', e, _, _, _, hx', hc', hf', ho⟩ := own_rune hown hk r
  cases e
  exact ⟨x', hx', hc', hf', hback (fun c => c = g) _ { l with cells := l.cells.set k { x' with rune := r } } (Keeps.setCell (F := fun c => c = g) (Keeps.refl _ W) (p := ⟨g, k * 16, none⟩) (fun _ => rfl) _) (fun c e => by subst e; exact hFg) ho rfl rfl⟩
theorem chk_bad {a b : List Ln} (h : scrD a = false ∨ scrD b = false) : chk a b = 2 := by
  unfold chk
  rcases h with h | h <;> rw [h] <;> simp
theorem chk_two {a b : List Ln} (ha : scrD a = true) (hb : scrD b = true) : chk a b = if (a.length == b.length) && (cols a == cols b) then 0 else 3 := by
  unfold chk; rw [ha, hb]; rfl

set_option maxRecDepth 1000000 in
set_option maxHeartbeats 8000000 in
theorem deltaOf_any (F G : Nat → Prop) (v u : Value) (xs ys : List Ln) (w : World) (ht : Tabs w) (ha : lnEl.Rd F w v xs) (hb : lnEl.Rd G w u ys) :
    Calls Tryd.prog 3 #[v, u] w fun e w' => e = .returned (.bool true) ∧ Sees w w' := by
  have K1 := Lib.hid (fun W (hs : Sees w W) => small45_any F v xs W (ha.sees hs))
  have K2 := Lib.hid (fun W (hs : Sees w W) => small45_any G u ys W (hb.sees hs))
  have KN := Lib.hid (fun W (hs : Sees w W) => known45 W (ht.sees hs))
  have Ht := Lib.hid ht
  have hw := Sees.refl w
  obtain ⟨ao, ca, rfl, hvx⟩ := ha.slice'
  obtain ⟨bo, cb, rfl, hvy⟩ := hb.slice'
  have Ha := Lib.hid ha
  have Hb := Lib.hid hb
  clear ht ha hb hvx hvy
  obtain ⟨n, hna⟩ : ∃ n, n = xs.length := ⟨_, rfl⟩
  obtain ⟨m, hnb⟩ : ∃ m, m = ys.length := ⟨_, rfl⟩
  rw [← hna] at Ha K1
  rw [← hnb] at Hb K2
  rw [← hna, ← hnb]
  have Hna := Lib.hid hna
  have Hnb := Lib.hid hnb
  clear hna hnb
  rcases bool_cases (smallB xs) with s1 | s1
  case inr =>
    go_enter Tryd.func3, Tryd.ntmps3
    go_wp2_with fail
    refine (K1.out _ hw).mono ?_
    rintro e w1 ⟨rfl, t1⟩
    go_wp2_with fail
    refine (KN.out _ t1).mono ?_
    rintro e w2 ⟨rfl, t2⟩
    go_wp2
    go_ret
    exact ⟨rfl, t1.trans t2⟩
  rcases bool_cases (smallB ys) with s2 | s2
  case inr =>
    go_enter Tryd.func3, Tryd.ntmps3
    go_wp2_with fail
    refine (K1.out _ hw).mono ?_
    rintro e w1 ⟨rfl, t1⟩
    go_wp2_with fail
    refine (K2.out _ t1).mono ?_
    rintro e w2 ⟨rfl, t2⟩
    go_wp2_with fail
    refine (KN.out _ (t1.trans t2)).mono ?_
    rintro e w3 ⟨rfl, t3⟩
    go_wp2
    go_ret
    exact ⟨rfl, (t1.trans t2).trans t3⟩
  have B1 := Lib.hid (smallB_ok s1)
  have B2 := Lib.hid (smallB_ok s2)
  have hn : n ≤ 10 := by rw [Hna.out]; exact B1.out.1
  have hm : m ≤ 10 := by rw [Hnb.out]; exact B2.out.1
  have KS1 := Lib.hid (fun W (hs : Sees w W) => screen45_any F _ xs W (Ht.out.sees hs) (Ha.out.sees hs) (by rw [← Hna.out]; omega) (fun l hl => by have := B1.out.2 l hl; omega))
  have KS2 := Lib.hid (fun W (hs : Sees w W) => screen45_any G _ ys W (Ht.out.sees hs) (Hb.out.sees hs) (by rw [← Hnb.out]; omega) (fun l hl => by have := B2.out.2 l hl; omega))
  -- what is asked where there is an error
  have KE : Hid (∀ (no : Int) W, Sees w W → chk xs ys = no → no ≠ 0 → Calls Tryd.prog 11 #[.slice ao n ca, .slice bo m cb, .slice none 0 0, .int .i64 no] W fun e w' => e = .returned (.bool true) ∧ Sees W w') := fun no W hs hc h0 => by
    have K := ofs_any F G (fun _ => True) _ _ _ xs ys W [] no (Ht.out.sees hs) (Ha.out.sees hs) (Hb.out.sees hs) (El.Rd.nil _ _) (by rw [← Hna.out]; omega) (fun l hl => by have := B1.out.2 l hl; omega) (by rw [← Hnb.out]; omega) (fun l hl => by have := B2.out.2 l hl; omega)
    have hof : ofR xs ys = [] := by unfold ofR; rw [if_neg (by rw [hc]; exact h0)]
    rw [hof, hc] at K
    simpa using K
  have KF : Hid (∀ (no : Int) W, Sees w W → chk xs ys = no → no ≠ 0 → Calls Tryd.prog 12 #[.slice ao n ca, .slice bo m cb, .bool false, .int .i64 no] W fun e w' => e = .returned (.bool true) ∧ Sees W w') := fun no W hs hc h0 => by
    have K := sames_any F G _ _ xs ys W false no (Ht.out.sees hs) (Ha.out.sees hs) (Hb.out.sees hs) (by rw [← Hna.out]; omega) (fun l hl => by have := B1.out.2 l hl; omega) (by rw [← Hnb.out]; omega) (fun l hl => by have := B2.out.2 l hl; omega)
    rw [hc, show (no == 0) = false by rw [beq_eq_false_iff_ne]; exact h0] at K
    simpa using K
  have hsd1 : scrD xs = scrB xs := by unfold scrD; rw [decide_eq_true (show xs.length ≤ 1000 by rw [← Hna.out]; omega), Bool.and_true]
  have hsd2 : scrD ys = scrB ys := by unfold scrD; rw [decide_eq_true (show ys.length ≤ 1000 by rw [← Hnb.out]; omega), Bool.and_true]
  have Hsd := Lib.hid (And.intro hsd1 hsd2)
  clear hsd1 hsd2
  rcases bool_cases (scrB xs) with c1 | c1
  case inr =>
    have Hc := Lib.hid (chk_bad (b := ys) (.inl (Hsd.out.1.trans c1)))
    go_enter Tryd.func3, Tryd.ntmps3
    go_wp2_with fail
    refine (K1.out _ hw).mono ?_
    rintro e w1 ⟨rfl, t1⟩
    go_wp2_with fail
    refine (K2.out _ t1).mono ?_
    rintro e w2 ⟨rfl, t2⟩
    have T2 := Lib.hid (t1.trans t2)
    clear t1 t2
    go_wp2_with fail
    refine (KS1.out _ T2.out).mono ?_
    rintro e w3 ⟨rfl, t3⟩
    have T3 := Lib.hid (T2.out.trans t3)
    go_wp2_with fail
    refine (KE.out 2 _ T3.out Hc.out (by decide)).mono ?_
    rintro e w5 ⟨rfl, t5⟩
    go_wp2_with fail
    refine (KF.out 2 _ (T3.out.trans t5) Hc.out (by decide)).mono ?_
    rintro e w6 ⟨rfl, t6⟩
    go_wp2_with fail
    refine (KN.out _ ((T3.out.trans t5).trans t6)).mono ?_
    rintro e w7 ⟨rfl, t7⟩
    go_wp2
    go_ret
    exact ⟨rfl, ((T3.out.trans t5).trans t6).trans t7⟩
  rcases bool_cases (scrB ys) with c2 | c2
  case inr =>
    have Hc := Lib.hid (chk_bad (a := xs) (.inr (Hsd.out.2.trans c2)))
    go_enter Tryd.func3, Tryd.ntmps3
    go_wp2_with fail
    refine (K1.out _ hw).mono ?_
    rintro e w1 ⟨rfl, t1⟩
    go_wp2_with fail
    refine (K2.out _ t1).mono ?_
    rintro e w2 ⟨rfl, t2⟩
    have T2 := Lib.hid (t1.trans t2)
    clear t1 t2
    go_wp2_with fail
    refine (KS1.out _ T2.out).mono ?_
    rintro e w3 ⟨rfl, t3⟩
    go_wp2_with fail
    refine (KS2.out _ (T2.out.trans t3)).mono ?_
    rintro e w4 ⟨rfl, t4⟩
    have T3 := Lib.hid ((T2.out.trans t3).trans t4)
    go_wp2_with fail
    refine (KE.out 2 _ T3.out Hc.out (by decide)).mono ?_
    rintro e w5 ⟨rfl, t5⟩
    go_wp2_with fail
    refine (KF.out 2 _ (T3.out.trans t5) Hc.out (by decide)).mono ?_
    rintro e w6 ⟨rfl, t6⟩
    go_wp2_with fail
    refine (KN.out _ ((T3.out.trans t5).trans t6)).mono ?_
    rintro e w7 ⟨rfl, t7⟩
    go_wp2
    go_ret
    exact ⟨rfl, ((T3.out.trans t5).trans t6).trans t7⟩
  have Hc2 := Lib.hid (chk_two (Hsd.out.1.trans c1) (Hsd.out.2.trans c2))
  by_cases hnm : n = m
  case neg =>
    have Hc : Hid (chk xs ys = 3) := by unfold Hid; rw [Hc2.out, ← Hna.out, ← Hnb.out, show (n == m) = false by simpa using hnm]; rfl
    have e2 : ((n : Int) != (m : Int)) = true := by rw [bne_iff_ne]; omega
    have e3 : (n != m) = true := by rw [bne_iff_ne]; exact hnm
    go_enter Tryd.func3, Tryd.ntmps3
    go_wp2_with fail
    refine (K1.out _ hw).mono ?_
    rintro e w1 ⟨rfl, t1⟩
    go_wp2_with fail
    refine (K2.out _ t1).mono ?_
    rintro e w2 ⟨rfl, t2⟩
    have T2 := Lib.hid (t1.trans t2)
    clear t1 t2
    go_wp2_with fail
    refine (KS1.out _ T2.out).mono ?_
    rintro e w3 ⟨rfl, t3⟩
    go_wp2_with fail
    refine (KS2.out _ (T2.out.trans t3)).mono ?_
    rintro e w4 ⟨rfl, t4⟩
    have T4 := Lib.hid ((T2.out.trans t3).trans t4)
    clear t3 t4
    go_wp2
    refine wp_region_quiet_below (by kernel_rfl) (by kernel_rfl) ?_
    repeat (first | go_big_quiet_skip | (go_big_quiet_want; go_big_quiet_op; go_big_quiet_on))
    refine wpQuiet_nil ?_; intro w2 hw2'; have hw2 := regrown_sees hw2'; clear hw2'
    have T3 := Lib.hid (T4.out.trans hw2)
    clear hw2
    go_wp2_with fail
    refine (KE.out 3 _ T3.out Hc.out (by decide)).mono ?_
    rintro e w5 ⟨rfl, t5⟩
    go_wp2_with fail
    refine (KF.out 3 _ (T3.out.trans t5) Hc.out (by decide)).mono ?_
    rintro e w6 ⟨rfl, t6⟩
    go_wp2_with fail
    refine (KN.out _ ((T3.out.trans t5).trans t6)).mono ?_
    rintro e w7 ⟨rfl, t7⟩
    go_wp2
    go_ret
    exact ⟨rfl, ((T3.out.trans t5).trans t6).trans t7⟩
  subst hnm
  have e2 : ((n : Int) != (n : Int)) = false := by simp
  have e3 : (n != n) = false := by simp
  rcases Nat.eq_zero_or_pos n with h0 | h0
  · have d0 : decide ((n : Int) > 0) = false := decide_eq_false (by omega)
    have d1 : ¬ (0 : Int) < n := by omega
    have d2 : ¬ 0 < n := by omega
    have Hc : Hid (chk xs ys = 0) := by
      have h1 : xs = [] := List.eq_nil_of_length_eq_zero (by rw [← Hna.out]; exact h0)
      have h2 : ys = [] := List.eq_nil_of_length_eq_zero (by rw [← Hnb.out]; exact h0)
      unfold Hid; rw [Hc2.out, h1, h2]; rfl
    clear h0
    go_enter Tryd.func3, Tryd.ntmps3
    go_wp2_with fail
    refine (K1.out _ hw).mono ?_
    rintro e w1 ⟨rfl, t1⟩
    go_wp2_with fail
    refine (K2.out _ t1).mono ?_
    rintro e w2 ⟨rfl, t2⟩
    have T2 := Lib.hid (t1.trans t2)
    clear t1 t2
    go_wp2_with fail
    refine (KS1.out _ T2.out).mono ?_
    rintro e w3 ⟨rfl, t3⟩
    go_wp2_with fail
    refine (KS2.out _ (T2.out.trans t3)).mono ?_
    rintro e w4 ⟨rfl, t4⟩
    have T4 := Lib.hid ((T2.out.trans t3).trans t4)
    clear t3 t4
    go_wp2
    refine wp_region_quiet_below (by kernel_rfl) (by kernel_rfl) ?_
    repeat (first | go_big_quiet_skip | (go_big_quiet_want; go_big_quiet_op; go_big_quiet_on))
    refine wpQuiet_nil ?_; intro w2 hw2'; have hw2 := regrown_sees hw2'; clear hw2'
    have T3 := Lib.hid (T4.out.trans hw2)
    clear hw2
    go_wp2_with fail
    refine (copied45_any F _ xs _ (Ha.out.sees T3.out) (by rw [← Hna.out]; omega) (fun l hl => by have := B1.out.2 l hl; omega)).mono ?_
    rintro e w5 ⟨v5, rfl, ho5, t5⟩
    obtain ⟨a6, c6, hv5, hvx⟩ := ho5.slice
    rw [← Hna.out] at hv5
    subst hv5
    have HX5 := Lib.hid ho5.rd
    have U5 := Lib.hid (T3.out.trans t5)
    clear ho5 t5 hvx
    go_wp2_with fail
    refine (copied45_any G _ ys _ (Hb.out.sees U5.out) (by rw [← Hnb.out]; omega) (fun l hl => by have := B2.out.2 l hl; omega)).mono ?_
    rintro e w6 ⟨v6, rfl, ho6, t6⟩
    obtain ⟨a7, c7, hv6, hvx⟩ := ho6.slice
    rw [← Hnb.out] at hv6
    subst hv6
    have HX6 := Lib.hid (HX5.out.sees t6)
    have HY6 := Lib.hid ho6.rd
    have U6 := Lib.hid (U5.out.trans t6)
    clear ho6 t6 hvx HX5
    go_wp2_with fail
    refine (between_any F G _ _ xs ys _ (Ha.out.sees U6.out) (Hb.out.sees U6.out) Hc.out).mono ?_
    rintro e w7 ⟨v7, rfl, ho7, t7⟩
    obtain ⟨a8, c8, hv7, hvx⟩ := ho7.slice
    obtain ⟨L, hL⟩ : ∃ L, L = (ofP zc xs ys).length := ⟨_, rfl⟩
    rw [← hL] at hv7
    subst hv7
    have HX7 := Lib.hid (HX6.out.sees t7)
    have HY7 := Lib.hid (HY6.out.sees t7)
    have HW7 := Lib.hid ho7.rd
    have U7 := Lib.hid (U6.out.trans t7)
    have HRP : Hid (ofR xs ys = ofP zc xs ys) := by unfold Hid ofR; rw [if_pos Hc.out]
    have HL := Lib.hid hL
    have hLb : L ≤ 1000000000 := by rw [hL, ← HRP.out]; exact (ofR_len xs ys).1
    clear ho7 t7 hvx HX6 HY6 hL
    obtain ⟨lb, hlb⟩ : ∃ lb, ((L : Int) == 0) = lb := ⟨_, rfl⟩
    have Hlb : Hid (((ofR xs ys).length == 0) = lb) := by
      unfold Hid; rw [HRP.out, ← HL.out, ← hlb, Bool.eq_iff_iff]; simp
    go_wp2_with fail
    have KA := ofs_any _ _ _ _ _ _ xs ys w7 (ofP zc xs ys) 0 (Ht.out.sees U7.out) HX7.out HY7.out HW7.out (by rw [← Hna.out]; omega) (fun l hl => by have := B1.out.2 l hl; omega) (by rw [← Hnb.out]; omega) (fun l hl => by have := B2.out.2 l hl; omega)
    rw [HRP.out, Hc.out] at KA
    simp only [decide_true, beq_self_eq_true, Bool.and_self] at KA
    refine KA.mono ?_
    clear KA
    rintro e w8 ⟨rfl, t8⟩
    have HX8 := Lib.hid (HX7.out.sees t8)
    have HY8 := Lib.hid (HY7.out.sees t8)
    have U8 := Lib.hid (U7.out.trans t8)
    clear t8 HX7 HY7 HW7
    go_wp2_with fail
    have KS := sames_any _ _ _ _ xs ys w8 lb 0 (Ht.out.sees U8.out) HX8.out HY8.out (by rw [← Hna.out]; omega) (fun l hl => by have := B1.out.2 l hl; omega) (by rw [← Hnb.out]; omega) (fun l hl => by have := B2.out.2 l hl; omega)
    rw [Hc.out, Hlb.out] at KS
    simp only [beq_self_eq_true, Bool.true_and, Bool.and_self] at KS
    refine KS.mono ?_
    clear KS
    rintro e w9 ⟨rfl, t9⟩
    have HX9 := Lib.hid (HX8.out.sees t9)
    have HY9 := Lib.hid (HY8.out.sees t9)
    have U9 := Lib.hid (U8.out.trans t9)
    clear t9 HX8 HY8 hlb
    go_wp2_with fail
    refine (of_any _ _ _ _ xs ys w9 (Ht.out.sees U9.out) HX9.out HY9.out (by rw [← Hna.out]; omega) (fun l hl => by have := B1.out.2 l hl; omega) (by rw [← Hnb.out]; omega) (fun l hl => by have := B2.out.2 l hl; omega)).mono ?_
    rw [Hc.out, HRP.out]
    rintro e w10 ⟨v10, rfl, ho10, t10⟩
    obtain ⟨a10, c10, hv10, hvx⟩ := ho10.slice
    rw [← HL.out] at hv10
    subst hv10
    have HO := Lib.hid ho10
    have TO := Lib.hid t10
    clear ho10 t10 hvx
    go_wp2
    go_loopw [11] (fun i W => ∃ (i0 : Nat) (z : List Pt), i0 ≤ L ∧ i = .int .i64 i0 ∧ z.length = L ∧ (∀ l ∈ z, l.cells.length ≤ 1000000) ∧ ptEl.Own (fun b => w9.heap.size ≤ b) W (.slice a10 L c10) z ∧ Sees w9 W) (fun i _ => L - (intOf i).toNat)
    case atStart => exact ⟨0, _, by omega, rfl, HL.out.symm, fun l hl => by have := (ofR_len xs ys).2; rw [HRP.out] at this; exact this l hl, HO.out, TO.out⟩
    case round =>
      obtain ⟨i0, z, hi0, rfl, hzl, hz24, ho, hS⟩ := hrel
      have Hzl := Lib.hid hzl
      have Hz24 := Lib.hid hz24
      have Ho := Lib.hid ho
      have HS := Lib.hid hS
      clear hzl hz24 ho hS
      by_cases hil : i0 < L
      · obtain ⟨l, hl⟩ : ∃ l, z[i0]? = some l := ⟨_, List.getElem?_eq_getElem (by have := Hzl.out; omega)⟩
        have hlM := Hz24.out l (List.mem_iff_getElem?.2 ⟨_, hl⟩)
        have Hl := Lib.hid hl
        clear hl
        obtain ⟨n5, hn5⟩ : ∃ n5, n5 = l.cells.length := ⟨_, rfl⟩
        rw [← hn5] at hlM
        have Hn5 := Lib.hid hn5
        clear hn5
        go_wp2
        obtain ⟨wp, rfl⟩ : ∃ wp : World, wp = wr := ⟨_, rfl⟩
        go_loopw [12] (fun t W => ∃ (k0 : Nat) (z : List Pt) (l : Pt), k0 ≤ n5 ∧ t = .int .i64 k0 ∧ z.length = L ∧ (∀ l ∈ z, l.cells.length ≤ 1000000) ∧ z[i0]? = some l ∧ l.cells.length = n5 ∧ ptEl.Own (fun b => w9.heap.size ≤ b) W (.slice a10 L c10) z ∧ Sees w9 W) (fun t _ => n5 - (intOf t).toNat)
        case atStart => exact ⟨0, z, l, by omega, rfl, Hzl.out, Hz24.out, Hl.out, Hn5.out.symm, Ho.out, HS.out⟩
        case round =>
          clear Hzl Hz24 Ho HS Hl Hn5
          obtain ⟨k0, z, l, hk0, rfl, hzl, hz24, hl, hn5, ho, hS⟩ := hrel
          obtain ⟨b, a2, c2, ha8, hFb, hx1, hx2, hc2, z0, hst⟩ := own_patch ho hl
          clear hx1 hx2
          rw [hn5] at z0
          have Hzl := Lib.hid hzl
          have Hz24 := Lib.hid hz24
          have HS := Lib.hid hS
          have Hl := Lib.hid hl
          have Hn5 := Lib.hid hn5
          have Ho := Lib.hid ho
          clear hzl hz24 hS hl hn5 ho
          by_cases hkl : k0 < n5
          · obtain ⟨g, ha2, hFg, hgb, hru⟩ := hst k0 (by rw [Hn5.out]; exact hkl)
            obtain ⟨x, hx, hcx, hfx, hox⟩ := hru 7
            have Hox := Lib.hid hox
            have HFg := Lib.hid hFg
            have hk00 : ¬ ((k0 : Int) < 0) := by omega
            have hk01 : ¬ ((n5 : Int) ≤ k0) := by omega
            have hi00 : ¬ ((i0 : Int) < 0) := by omega
            have hi01 : ¬ ((L : Int) ≤ i0) := by omega
            clear hru hox hst hx hFg
            cases ha2
            cases ha8
            go_wp2
            refine ⟨⟨k0 + 1, _, { l with cells := l.cells.set k0 { x with rune := 7 } }, by omega, by go_num, by rw [List.length_set]; exact Hzl.out, fun t ht => ?_, set_at Hl.out _, by rw [List.length_set]; exact Hn5.out, Hox.out, HS.out.setCell (p := ⟨g, k0 * 16, none⟩) HFg.out _⟩, by simp [intOf] <;> omega⟩
            rcases List.mem_or_eq_of_mem_set ht with h | rfl
            · exact Hz24.out t h
            · show (l.cells.set k0 _).length ≤ 1000000
              rw [List.length_set, Hn5.out]; exact hlM
          · obtain rfl : k0 = n5 := by omega
            cases ha8
            go_wp2
            refine ⟨⟨i0 + 1, z, by omega, by go_num, Hzl.out, Hz24.out, Ho.out, HS.out⟩, by simp [intOf] <;> omega⟩
      · obtain rfl : i0 = L := by omega
        have KL := Lib.hid (fun W (hs : Sees w9 W) => lines45_any _ _ _ _ xs xs W (HX9.out.sees hs) (Ha.out.sees (U9.out.trans hs)) (by rw [← Hna.out]; omega) (fun l hl => by have := B1.out.2 l hl; omega))
        have KM := Lib.hid (fun W (hs : Sees w9 W) => lines45_any _ _ _ _ ys ys W (HY9.out.sees hs) (Hb.out.sees (U9.out.trans hs)) (by rw [← Hnb.out]; omega) (fun l hl => by have := B2.out.2 l hl; omega))
        simp only [decide_true] at KL KM
        go_wp2_with fail
        refine (KL.out _ HS.out).mono ?_
        rintro e w11 ⟨rfl, t11⟩
        go_wp2_with fail
        refine (KM.out _ (HS.out.trans t11)).mono ?_
        rintro e w12 ⟨rfl, t12⟩
        go_wp2_with fail
        refine (KN.out _ (U9.out.trans ((HS.out.trans t11).trans t12))).mono ?_
        rintro e w13 ⟨rfl, t13⟩
        go_wp2
        go_ret
        exact ⟨rfl, (U9.out.trans ((HS.out.trans t11).trans t12)).trans t13⟩
  have d0 : decide ((n : Int) > 0) = true := decide_eq_true (by omega)
  have d1 : (0 : Int) < n := by omega
  obtain ⟨b1, o1, x, a1, m1, hao, hu1, hx, hu2, x1, x2, x3⟩ := Ha.out.line h0
  obtain ⟨b2, o2, y, a2, m2, hbo, hu3, hy, hu4, y1, y2, y3⟩ := Hb.out.line h0
  subst hao
  subst hbo
  rw [Nat.zero_mul, Nat.add_zero] at x1 y1
  have X1 := Lib.hid x1
  have Y1 := Lib.hid y1
  have Hcx := Lib.hid (And.intro (cols_of hx) (cols_of hy))
  clear hu1 hu2 hu3 hu4 hx hy x1 x2 x3 y1 y2 y3
  generalize hl1 : x.cells.length = n1 at *
  generalize hl2 : y.cells.length = n2 at *
  clear hl1 hl2
  by_cases hcc : n1 = n2
  · have Hc : Hid (chk xs ys = 0) := by unfold Hid; rw [Hc2.out, Hcx.out.1, Hcx.out.2, ← Hna.out, ← Hnb.out, hcc]; simp
    subst hcc
    have e4 : ((n1 : Int) != (n1 : Int)) = false := by simp
    have e5 : (n1 != n1) = false := by simp
    go_enter Tryd.func3, Tryd.ntmps3
    go_wp2_with fail
    refine (K1.out _ hw).mono ?_
    rintro e w1 ⟨rfl, t1⟩
    go_wp2_with fail
    refine (K2.out _ t1).mono ?_
    rintro e w2 ⟨rfl, t2⟩
    have T2 := Lib.hid (t1.trans t2)
    clear t1 t2
    go_wp2_with fail
    refine (KS1.out _ T2.out).mono ?_
    rintro e w3 ⟨rfl, t3⟩
    go_wp2_with fail
    refine (KS2.out _ (T2.out.trans t3)).mono ?_
    rintro e w4 ⟨rfl, t4⟩
    have T4 := Lib.hid ((T2.out.trans t3).trans t4)
    clear t3 t4
    have x1 := T4.out.cell X1.out
    have y1 := T4.out.cell Y1.out
    have g1 := fun d os => (sees_grow w4 d os).cell x1
    have g2 := fun d os => (sees_grow w4 d os).cell y1
    clear x1 y1
    go_wp2
    refine wp_region_quiet_below (by kernel_rfl) (by kernel_rfl) ?_
    repeat (first | go_big_quiet_skip | (go_big_quiet_want; go_big_quiet_op; go_big_quiet_on))
    refine wpQuiet_nil ?_; intro w2 hw2'; have hw2 := regrown_sees hw2'; clear hw2'
    have T3 := Lib.hid (T4.out.trans hw2)
    clear hw2 g1 g2
    go_wp2_with fail
    refine (copied45_any F _ xs _ (Ha.out.sees T3.out) (by rw [← Hna.out]; omega) (fun l hl => by have := B1.out.2 l hl; omega)).mono ?_
    rintro e w5 ⟨v5, rfl, ho5, t5⟩
    obtain ⟨a6, c6, hv5, hvx⟩ := ho5.slice
    rw [← Hna.out] at hv5
    subst hv5
    have HX5 := Lib.hid ho5.rd
    have U5 := Lib.hid (T3.out.trans t5)
    clear ho5 t5 hvx
    go_wp2_with fail
    refine (copied45_any G _ ys _ (Hb.out.sees U5.out) (by rw [← Hnb.out]; omega) (fun l hl => by have := B2.out.2 l hl; omega)).mono ?_
    rintro e w6 ⟨v6, rfl, ho6, t6⟩
    obtain ⟨a7, c7, hv6, hvx⟩ := ho6.slice
    rw [← Hnb.out] at hv6
    subst hv6
    have HX6 := Lib.hid (HX5.out.sees t6)
    have HY6 := Lib.hid ho6.rd
    have U6 := Lib.hid (U5.out.trans t6)
    clear ho6 t6 hvx HX5
    go_wp2_with fail
    refine (between_any F G _ _ xs ys _ (Ha.out.sees U6.out) (Hb.out.sees U6.out) Hc.out).mono ?_
    rintro e w7 ⟨v7, rfl, ho7, t7⟩
    obtain ⟨a8, c8, hv7, hvx⟩ := ho7.slice
    obtain ⟨L, hL⟩ : ∃ L, L = (ofP zc xs ys).length := ⟨_, rfl⟩
    rw [← hL] at hv7
    subst hv7
    have HX7 := Lib.hid (HX6.out.sees t7)
    have HY7 := Lib.hid (HY6.out.sees t7)
    have HW7 := Lib.hid ho7.rd
    have U7 := Lib.hid (U6.out.trans t7)
    have HRP : Hid (ofR xs ys = ofP zc xs ys) := by unfold Hid ofR; rw [if_pos Hc.out]
    have HL := Lib.hid hL
    have hLb : L ≤ 1000000000 := by rw [hL, ← HRP.out]; exact (ofR_len xs ys).1
    clear ho7 t7 hvx HX6 HY6 hL
    obtain ⟨lb, hlb⟩ : ∃ lb, ((L : Int) == 0) = lb := ⟨_, rfl⟩
    have Hlb : Hid (((ofR xs ys).length == 0) = lb) := by
      unfold Hid; rw [HRP.out, ← HL.out, ← hlb, Bool.eq_iff_iff]; simp
    go_wp2_with fail
    have KA := ofs_any _ _ _ _ _ _ xs ys w7 (ofP zc xs ys) 0 (Ht.out.sees U7.out) HX7.out HY7.out HW7.out (by rw [← Hna.out]; omega) (fun l hl => by have := B1.out.2 l hl; omega) (by rw [← Hnb.out]; omega) (fun l hl => by have := B2.out.2 l hl; omega)
    rw [HRP.out, Hc.out] at KA
    simp only [decide_true, beq_self_eq_true, Bool.and_self] at KA
    refine KA.mono ?_
    clear KA
    rintro e w8 ⟨rfl, t8⟩
    have HX8 := Lib.hid (HX7.out.sees t8)
    have HY8 := Lib.hid (HY7.out.sees t8)
    have U8 := Lib.hid (U7.out.trans t8)
    clear t8 HX7 HY7 HW7
    go_wp2_with fail
    have KS := sames_any _ _ _ _ xs ys w8 lb 0 (Ht.out.sees U8.out) HX8.out HY8.out (by rw [← Hna.out]; omega) (fun l hl => by have := B1.out.2 l hl; omega) (by rw [← Hnb.out]; omega) (fun l hl => by have := B2.out.2 l hl; omega)
    rw [Hc.out, Hlb.out] at KS
    simp only [beq_self_eq_true, Bool.true_and, Bool.and_self] at KS
    refine KS.mono ?_
    clear KS
    rintro e w9 ⟨rfl, t9⟩
    have HX9 := Lib.hid (HX8.out.sees t9)
    have HY9 := Lib.hid (HY8.out.sees t9)
    have U9 := Lib.hid (U8.out.trans t9)
    clear t9 HX8 HY8 hlb
    go_wp2_with fail
    refine (of_any _ _ _ _ xs ys w9 (Ht.out.sees U9.out) HX9.out HY9.out (by rw [← Hna.out]; omega) (fun l hl => by have := B1.out.2 l hl; omega) (by rw [← Hnb.out]; omega) (fun l hl => by have := B2.out.2 l hl; omega)).mono ?_
    rw [Hc.out, HRP.out]
    rintro e w10 ⟨v10, rfl, ho10, t10⟩
    obtain ⟨a10, c10, hv10, hvx⟩ := ho10.slice
    rw [← HL.out] at hv10
    subst hv10
    have HO := Lib.hid ho10
    have TO := Lib.hid t10
    clear ho10 t10 hvx
    go_wp2
    go_loopw [11] (fun i W => ∃ (i0 : Nat) (z : List Pt), i0 ≤ L ∧ i = .int .i64 i0 ∧ z.length = L ∧ (∀ l ∈ z, l.cells.length ≤ 1000000) ∧ ptEl.Own (fun b => w9.heap.size ≤ b) W (.slice a10 L c10) z ∧ Sees w9 W) (fun i _ => L - (intOf i).toNat)
    case atStart => exact ⟨0, _, by omega, rfl, HL.out.symm, fun l hl => by have := (ofR_len xs ys).2; rw [HRP.out] at this; exact this l hl, HO.out, TO.out⟩
    case round =>
      obtain ⟨i0, z, hi0, rfl, hzl, hz24, ho, hS⟩ := hrel
      have Hzl := Lib.hid hzl
      have Hz24 := Lib.hid hz24
      have Ho := Lib.hid ho
      have HS := Lib.hid hS
      clear hzl hz24 ho hS
      by_cases hil : i0 < L
      · obtain ⟨l, hl⟩ : ∃ l, z[i0]? = some l := ⟨_, List.getElem?_eq_getElem (by have := Hzl.out; omega)⟩
        have hlM := Hz24.out l (List.mem_iff_getElem?.2 ⟨_, hl⟩)
        have Hl := Lib.hid hl
        clear hl
        obtain ⟨n5, hn5⟩ : ∃ n5, n5 = l.cells.length := ⟨_, rfl⟩
        rw [← hn5] at hlM
        have Hn5 := Lib.hid hn5
        clear hn5
        go_wp2
        obtain ⟨wp, rfl⟩ : ∃ wp : World, wp = wr := ⟨_, rfl⟩
        go_loopw [12] (fun t W => ∃ (k0 : Nat) (z : List Pt) (l : Pt), k0 ≤ n5 ∧ t = .int .i64 k0 ∧ z.length = L ∧ (∀ l ∈ z, l.cells.length ≤ 1000000) ∧ z[i0]? = some l ∧ l.cells.length = n5 ∧ ptEl.Own (fun b => w9.heap.size ≤ b) W (.slice a10 L c10) z ∧ Sees w9 W) (fun t _ => n5 - (intOf t).toNat)
        case atStart => exact ⟨0, z, l, by omega, rfl, Hzl.out, Hz24.out, Hl.out, Hn5.out.symm, Ho.out, HS.out⟩
        case round =>
          clear Hzl Hz24 Ho HS Hl Hn5
          obtain ⟨k0, z, l, hk0, rfl, hzl, hz24, hl, hn5, ho, hS⟩ := hrel
          obtain ⟨b, a2, c2, ha8, hFb, hx1, hx2, hc2, z0, hst⟩ := own_patch ho hl
          clear hx1 hx2
          rw [hn5] at z0
          have Hzl := Lib.hid hzl
          have Hz24 := Lib.hid hz24
          have HS := Lib.hid hS
          have Hl := Lib.hid hl
          have Hn5 := Lib.hid hn5
          have Ho := Lib.hid ho
          clear hzl hz24 hS hl hn5 ho
          by_cases hkl : k0 < n5
          · obtain ⟨g, ha2, hFg, hgb, hru⟩ := hst k0 (by rw [Hn5.out]; exact hkl)
            obtain ⟨x, hx, hcx, hfx, hox⟩ := hru 7
            have Hox := Lib.hid hox
            have HFg := Lib.hid hFg
            have hk00 : ¬ ((k0 : Int) < 0) := by omega
            have hk01 : ¬ ((n5 : Int) ≤ k0) := by omega
            have hi00 : ¬ ((i0 : Int) < 0) := by omega
            have hi01 : ¬ ((L : Int) ≤ i0) := by omega
            clear hru hox hst hx hFg
            cases ha2
            cases ha8
            go_wp2
            refine ⟨⟨k0 + 1, _, { l with cells := l.cells.set k0 { x with rune := 7 } }, by omega, by go_num, by rw [List.length_set]; exact Hzl.out, fun t ht => ?_, set_at Hl.out _, by rw [List.length_set]; exact Hn5.out, Hox.out, HS.out.setCell (p := ⟨g, k0 * 16, none⟩) HFg.out _⟩, by simp [intOf] <;> omega⟩
            rcases List.mem_or_eq_of_mem_set ht with h | rfl
            · exact Hz24.out t h
            · show (l.cells.set k0 _).length ≤ 1000000
              rw [List.length_set, Hn5.out]; exact hlM
          · obtain rfl : k0 = n5 := by omega
            cases ha8
            go_wp2
            refine ⟨⟨i0 + 1, z, by omega, by go_num, Hzl.out, Hz24.out, Ho.out, HS.out⟩, by simp [intOf] <;> omega⟩
      · obtain rfl : i0 = L := by omega
        have KL := Lib.hid (fun W (hs : Sees w9 W) => lines45_any _ _ _ _ xs xs W (HX9.out.sees hs) (Ha.out.sees (U9.out.trans hs)) (by rw [← Hna.out]; omega) (fun l hl => by have := B1.out.2 l hl; omega))
        have KM := Lib.hid (fun W (hs : Sees w9 W) => lines45_any _ _ _ _ ys ys W (HY9.out.sees hs) (Hb.out.sees (U9.out.trans hs)) (by rw [← Hnb.out]; omega) (fun l hl => by have := B2.out.2 l hl; omega))
        simp only [decide_true] at KL KM
        go_wp2_with fail
        refine (KL.out _ HS.out).mono ?_
        rintro e w11 ⟨rfl, t11⟩
        go_wp2_with fail
        refine (KM.out _ (HS.out.trans t11)).mono ?_
        rintro e w12 ⟨rfl, t12⟩
        go_wp2_with fail
        refine (KN.out _ (U9.out.trans ((HS.out.trans t11).trans t12))).mono ?_
        rintro e w13 ⟨rfl, t13⟩
        go_wp2
        go_ret
        exact ⟨rfl, (U9.out.trans ((HS.out.trans t11).trans t12)).trans t13⟩
  · have Hc : Hid (chk xs ys = 3) := by unfold Hid; rw [Hc2.out, Hcx.out.1, Hcx.out.2, ← Hna.out, ← Hnb.out, show (n1 == n2) = false by simpa using hcc]; simp
    have e4 : ((n1 : Int) != (n2 : Int)) = true := by rw [bne_iff_ne]; omega
    have e5 : (n1 != n2) = true := by rw [bne_iff_ne]; exact hcc
    clear hcc
    go_enter Tryd.func3, Tryd.ntmps3
    go_wp2_with fail
    refine (K1.out _ hw).mono ?_
    rintro e w1 ⟨rfl, t1⟩
    go_wp2_with fail
    refine (K2.out _ t1).mono ?_
    rintro e w2 ⟨rfl, t2⟩
    have T2 := Lib.hid (t1.trans t2)
    clear t1 t2
    go_wp2_with fail
    refine (KS1.out _ T2.out).mono ?_
    rintro e w3 ⟨rfl, t3⟩
    go_wp2_with fail
    refine (KS2.out _ (T2.out.trans t3)).mono ?_
    rintro e w4 ⟨rfl, t4⟩
    have T4 := Lib.hid ((T2.out.trans t3).trans t4)
    clear t3 t4
    have x1 := T4.out.cell X1.out
    have y1 := T4.out.cell Y1.out
    have g1 := fun d os => (sees_grow w4 d os).cell x1
    have g2 := fun d os => (sees_grow w4 d os).cell y1
    clear x1 y1
    go_wp2
    refine wp_region_quiet_below (by kernel_rfl) (by kernel_rfl) ?_
    repeat (first | go_big_quiet_skip | (go_big_quiet_want; go_big_quiet_op; go_big_quiet_on))
    refine wpQuiet_nil ?_; intro w2 hw2'; have hw2 := regrown_sees hw2'; clear hw2'
    have T3 := Lib.hid (T4.out.trans hw2)
    clear hw2 g1 g2
    go_wp2_with fail
    refine (KE.out 3 _ T3.out Hc.out (by decide)).mono ?_
    rintro e w5 ⟨rfl, t5⟩
    go_wp2_with fail
    refine (KF.out 3 _ (T3.out.trans t5) Hc.out (by decide)).mono ?_
    rintro e w6 ⟨rfl, t6⟩
    go_wp2_with fail
    refine (KN.out _ ((T3.out.trans t5).trans t6)).mono ?_
    rintro e w7 ⟨rfl, t7⟩
    go_wp2
    go_ret
    exact ⟨rfl, ((T3.out.trans t5).trans t6).trans t7⟩
end Go.Proofs.YtonlmlmjglaoiaaDoor
