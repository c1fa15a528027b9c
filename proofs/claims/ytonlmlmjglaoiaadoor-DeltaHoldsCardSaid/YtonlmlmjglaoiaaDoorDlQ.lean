/- The theorem of stage 45. The tables hold what the program's text lays. -/
import Derived.Test.YtonlmlmjglaoiaaDoorDlN
namespace Go.Proofs.YtonlmlmjglaoiaaDoor
set_option linter.unusedVariables false
set_option linter.unusedSimpArgs false
open Go.RowKit

theorem ways31 (t a b c : Bool) : (t = false ∧ a = true ∧ b = true ∧ c = true) ∨ (t = false ∧ a = true ∧ b = true ∧ c = false) ∨ (t = false ∧ a = true ∧ b = false) ∨ (t = false ∧ a = false) ∨ t = true := by
  cases t <;> cases a <;> cases b <;> cases c <;> simp
/-- Is a place in one of the patches? -/
def inPt (p : Pt) (i k : Nat) : Bool := (p.row == (i : Int)) && decide (p.col ≤ (k : Int)) && decide ((k : Int) < p.col + p.cells.length)
def cov (ps : List Pt) (i k : Nat) : Bool := ps.any fun p => inPt p i k
theorem cov_more {ps : List Pt} {j i k : Nat} {p : Pt} (h : ps[j]? = some p) : cov (ps.take (j + 1)) i k = (cov (ps.take j) i k || inPt p i k) := by
  unfold cov; rw [List.take_add_one, h]; simp
theorem parts_col (row : Int) (is : List Bool) (b : List Cell) (s : Bool) : ∀ k, ∀ p ∈ parts row is b s k, 0 ≤ p.col ∧ p.col ≤ k
  | 0 => by intro p h; cases h
  | k + 1 => by
    intro p h
    have ih := parts_col row is b s k
    rw [parts] at h
    split at h
    · split at h
      · rcases List.eq_nil_or_concat (parts row is b s k) with e | ⟨l, q, e⟩
        · rw [e] at h; cases h
        · rw [List.concat_eq_append] at e
          rw [e, extLast_snoc] at h
          rw [e] at ih
          rcases List.mem_append.1 h with h | h
          · have := ih p (by simp [h]); omega
          · simp at h; subst h; have := ih q (by simp); simp; omega
      · rcases List.mem_append.1 h with h | h
        · have := ih p h; omega
        · simp at h; subst h; simp; omega
    · have := ih p h; omega
theorem ofUp_col {a b : List Ln} (h : ∀ x ∈ a, x.cells.length ≤ 1000) : ∀ k, ∀ p ∈ ofUp zc a b k, 0 ≤ p.col ∧ p.col ≤ 1000
  | 0 => by intro p h; cases h
  | k + 1 => by
    intro p hp
    rw [ofUp] at hp
    split at hp
    · rename_i x y hx hy
      rcases List.mem_append.1 hp with hp | hp
      · exact ofUp_col (b := b) h k p hp
      · have hx1 := h x (List.mem_iff_getElem?.2 ⟨_, hx⟩)
        unfold rowP at hp
        split at hp
        · simp at hp; subst hp; simp
        · have := parts_col _ _ _ _ _ p hp; omega
    · exact ofUp_col (b := b) h k p hp
/-- What holds of the delta of two screens. -/
theorem of_all {a b : List Ln} (h : chk a b = 0) : apR a (ofR a b) = (0, b) ∧ (ofR a b = [] ↔ a = b) ∧ (∀ p ∈ ofR a b, 0 ≤ p.col ∧ p.col ≤ 1000) ∧
    ∀ (i k : Nat) (x y : Ln), a[i]? = some x → b[i]? = some y → cov (ofR a b) i k = false → k < x.cells.length → x.cells[k]? = y.cells[k]? := by
  obtain ⟨s1, s2, hn, hl, hc⟩ := chk_ok h
  have hg : ∀ (i : Nat) x y, a[i]? = some x → b[i]? = some y → GoodRow zc rowOk x.cells y.cells := fun i x y hx hy => (chk_rows h hx hy).1
  have hx : ∀ x ∈ a, x.cells.length ≤ 1000 := fun x hx => (lnOk_row (scrB_len s1 hx).2.1).2
  have hd : scrD a = true := by unfold scrD; rw [s1]; simpa using hn
  unfold ofR apR
  rw [if_pos h, if_pos hd]
  refine ⟨of_apply hl rfl hg, of_nil hl rfl hg, ofUp_col hx a.length, fun i k x y hxi hyi hcv hk => ?_⟩
  by_cases he : x.cells[k]? = y.cells[k]?
  · exact he
  · obtain ⟨p, hp, h1, h2, h3⟩ := of_cover (z := zc) hxi hyi (hg i x y hxi hyi).len hk he
    unfold cov at hcv
    rw [List.any_eq_false] at hcv
    have := hcv p hp
    exfalso; apply this
    unfold inPt
    simp [h1, h2, h3]

set_option maxRecDepth 1000000 in
set_option maxHeartbeats 8000000 in
theorem deltaHolds_any (F G : Nat → Prop) (v u : Value) (xs ys : List Ln) (w : World) (ht : Tabs w) (ha : lnEl.Rd F w v xs) (hb : lnEl.Rd G w u ys) :
    Calls Tryd.prog 6 #[v, u] w fun e w' => e = .returned (.bool true) ∧ Sees w w' := by
  have K1 := Lib.hid (fun W (hs : Sees w W) => small45_any F v xs W (ha.sees hs))
  have K2 := Lib.hid (fun W (hs : Sees w W) => small45_any G u ys W (hb.sees hs))
  have KN := Lib.hid (fun W (hs : Sees w W) => known45 W (ht.sees hs))
  have KO := Lib.hid (fun W (hs : Sees w W) => of_any F G v u xs ys W (ht.sees hs) (ha.sees hs) (hb.sees hs))
  have Ht := Lib.hid ht
  have hw := Sees.refl w
  obtain ⟨ao, ca, rfl, _⟩ := ha.slice'
  obtain ⟨bo, cb, rfl, _⟩ := hb.slice'
  have Ha := Lib.hid ha
  have Hb := Lib.hid hb
  clear ht ha hb
  obtain ⟨n, hna⟩ : ∃ n, n = xs.length := ⟨_, rfl⟩
  obtain ⟨m, hnb⟩ : ∃ m, m = ys.length := ⟨_, rfl⟩
  rw [← hna] at Ha K1 KO
  rw [← hnb] at Hb K2 KO
  rw [← hna, ← hnb]
  have Hna := Lib.hid hna
  have Hnb := Lib.hid hnb
  clear hna hnb
  rcases bool_cases (smallB xs) with s1 | s1
  case inr =>
    go_enter Tryd.func6, Tryd.ntmps6
    go_wp2_with fail
    refine (K1.out _ hw).mono ?_
    rintro e w1 ⟨rfl, t1⟩
    go_wp2_with fail
    refine (KN.out _ t1).mono ?_
    rintro e w2 ⟨rfl, t2⟩
    go_wp2
    go_ret
    exact ⟨rfl, t1.trans t2⟩
  rcases bool_cases (smallB ys) with s2 | s2
  case inr =>
    go_enter Tryd.func6, Tryd.ntmps6
    go_wp2_with fail
    refine (K1.out _ hw).mono ?_
    rintro e w1 ⟨rfl, t1⟩
    go_wp2_with fail
    refine (K2.out _ t1).mono ?_
    rintro e w2 ⟨rfl, t2⟩
    go_wp2_with fail
    refine (KN.out _ (t1.trans t2)).mono ?_
    rintro e w3 ⟨rfl, t3⟩
    go_wp2
    go_ret
    exact ⟨rfl, (t1.trans t2).trans t3⟩
  have B1 := Lib.hid (smallB_ok s1)
  have B2 := Lib.hid (smallB_ok s2)
  have hn : n ≤ 10 := by rw [Hna.out]; exact B1.out.1
  have hm : m ≤ 10 := by rw [Hnb.out]; exact B2.out.1
  by_cases hc : chk xs ys = 0
  case neg =>
    have hof : ofR xs ys = [] := by unfold ofR; rw [if_neg hc]
    have hc' : (chk xs ys != 0) = true := by simpa using hc
    have Hof := Lib.hid hof
    clear hof hc
    go_enter Tryd.func6, Tryd.ntmps6
    go_wp2_with fail
    refine (K1.out _ hw).mono ?_
    rintro e w1 ⟨rfl, t1⟩
    go_wp2_with fail
    refine (K2.out _ t1).mono ?_
    rintro e w2 ⟨rfl, t2⟩
    go_wp2_with fail
    refine (KO.out _ (t1.trans t2) (by omega) (fun l hl => by have := B1.out.2 l hl; omega) (by omega) (fun l hl => by have := B2.out.2 l hl; omega)).mono ?_
    rintro e w3 ⟨v5, rfl, h5, t3⟩
    obtain ⟨a5, c5, hv5, _⟩ := h5.slice
    rw [Hof.out] at hv5
    subst hv5
    clear h5
    go_wp2_with fail
    refine (KN.out _ ((t1.trans t2).trans t3)).mono ?_
    rintro e w4 ⟨rfl, t4⟩
    go_wp2
    go_ret
    exact ⟨rfl, ((t1.trans t2).trans t3).trans t4⟩
  have HA := Lib.hid (of_all hc)
  have hL := Lib.hid (ofR_len xs ys)
  have Hc := Lib.hid hc
  have Hnm := Lib.hid ((chk_ok hc).2.2.2.1)
  have HX := Lib.hid (fun (i : Nat) x y (h1 : xs[i]? = some x) (h2 : ys[i]? = some y) => (chk_rows hc h1 h2).1.len)
  clear hc
  obtain ⟨R, hR⟩ : ∃ R, R = ofR xs ys := ⟨_, rfl⟩
  obtain ⟨c, hcc⟩ : ∃ c, c = chk xs ys := ⟨_, rfl⟩
  rw [← hR, ← hcc] at KO
  have HR := Lib.hid hR
  have Hcc := Lib.hid hcc
  have hc0 : c = 0 := by rw [hcc]; exact Hc.out
  subst hc0
  clear hR hcc
  obtain ⟨L, hLL⟩ : ∃ L, L = R.length := ⟨_, rfl⟩
  have HLL := Lib.hid hLL
  have hLb : L ≤ 1000000000 := by rw [hLL, HR.out]; exact hL.out.1
  clear hLL
  have he : ((L : Int) == 0) = decide (xs = ys) := by
    have h1 := HA.out.2.1
    rw [← HR.out] at h1
    by_cases hxy : xs = ys
    · rw [decide_eq_true hxy, beq_iff_eq, HLL.out, h1.2 hxy]; rfl
    · rw [decide_eq_false hxy, beq_eq_false_iff_ne]
      intro h0
      exact hxy (h1.1 (List.eq_nil_of_length_eq_zero (by have := HLL.out; omega)))
  have He := Lib.hid he
  clear he
  go_enter Tryd.func6, Tryd.ntmps6
  go_wp2_with fail
  refine (K1.out _ hw).mono ?_
  rintro e w1 ⟨rfl, t1⟩
  go_wp2_with fail
  refine (K2.out _ t1).mono ?_
  rintro e w2 ⟨rfl, t2⟩
  go_wp2_with fail
  refine (KO.out _ (t1.trans t2) (by omega) (fun l hl => by have := B1.out.2 l hl; omega) (by omega) (fun l hl => by have := B2.out.2 l hl; omega)).mono ?_
  rintro e w3 ⟨v5, rfl, h5, t3⟩
  obtain ⟨a5, c5, hv5, _⟩ := h5.slice
  rw [← HLL.out] at hv5
  subst hv5
  have H5 := Lib.hid h5.rd
  have T3 := Lib.hid ((t1.trans t2).trans t3)
  clear h5 t1 t2 t3 K1 K2 KO hw
  go_wp2_with fail
  have hap : (decide ((apR xs R).2 = ys) && ((apR xs R).1 == 0)) = true := by rw [HR.out, HA.out.1]; simp
  have KA := applies_any F (fun b => w2.heap.size ≤ b) G _ _ _ xs w3 R ys 0 (Ht.out.sees T3.out) (Ha.out.sees T3.out) H5.out (Hb.out.sees T3.out) (by rw [← Hna.out]; omega) (fun l hl => by have := B1.out.2 l hl; omega) (by rw [HR.out]; exact hL.out.1) (by rw [HR.out]; exact hL.out.2) (fun p hp => by rw [HR.out] at hp; have := HA.out.2.2.1 p hp; omega)
  rw [hap] at KA
  refine KA.mono ?_
  clear KA hap
  rintro e w4 ⟨rfl, t4⟩
  have T4 := Lib.hid (T3.out.trans t4)
  have H54 := Lib.hid (H5.out.sees t4)
  clear t4 H5 T3
  have hsm : ((chk xs ys == 0) && ((ofR xs ys).length == 0)) = decide (xs = ys) := by
    rw [← He.out, ← Hcc.out, ← HR.out, ← HLL.out, Bool.eq_iff_iff]; simp
  have Hsm := Lib.hid hsm
  clear hsm
  rcases bool_cases (decide (xs = ys)) with exy | exy
  all_goals
    have he := He.out
    rw [exy] at he
    go_wp2_with fail
    have KS := sames_any F G _ _ xs ys w4 (decide (xs = ys)) 0 (Ht.out.sees T4.out) (Ha.out.sees T4.out) (Hb.out.sees T4.out) (by rw [← Hna.out]; omega) (fun l hl => by have := B1.out.2 l hl; omega) (by rw [← Hnb.out]; omega) (fun l hl => by have := B2.out.2 l hl; omega)
    rw [Hsm.out, ← Hcc.out, exy] at KS
    refine KS.mono ?_
    clear KS
    rintro e w5 ⟨rfl, t5⟩
    have T5 := Lib.hid (T4.out.trans t5)
    have H55 := Lib.hid (H54.out.sees t5)
    clear t5
    go_wp2_with fail
    have KL := lines45_any F G _ _ xs ys w5 (Ha.out.sees T5.out) (Hb.out.sees T5.out) (by rw [← Hna.out]; omega) (fun l hl => by have := B1.out.2 l hl; omega)
    rw [exy] at KL
    refine KL.mono ?_
    clear KL
    rintro e w6 ⟨rfl, t6⟩
    have T6 := Lib.hid (T5.out.trans t6)
    have H56 := Lib.hid (H55.out.sees t6)
    clear t6 H55 T5
    go_wp2
    clear he exy H54
    as_aux_lemma =>
    go_loopw [7] (fun i W => ∃ i0 : Nat, i0 ≤ n ∧ i = .int .i64 i0 ∧ Sees w W ∧ ptEl.Rd (fun b => w2.heap.size ≤ b) W (.slice a5 L c5) R) (fun i _ => n - (intOf i).toNat)
    case atStart => exact ⟨0, by omega, rfl, T6.out, H56.out⟩
    case round =>
      obtain ⟨i0, hi, rfl, hS, hR5⟩ := hrel
      have HS := Lib.hid hS
      have HR5 := Lib.hid hR5
      clear hS hR5
      by_cases hil : i0 < n
      · obtain ⟨bx, ox, x, ax, mx, rfl, _, hx, _, x1, x2, x3⟩ := Ha.out.line hil
        obtain ⟨by', oy, y, ay, my, rfl, _, hy, _, y1, y2, y3⟩ := Hb.out.line (show i0 < m by have := Hnm.out; have := Hna.out; have := Hnb.out; omega)
        have him : i0 < m := by have := Hnm.out; have := Hna.out; have := Hnb.out; omega
        have hx24 := B1.out.2 x (List.mem_iff_getElem?.2 ⟨_, hx⟩)
        have Hxy := Lib.hid (HX.out i0 x y hx hy)
        have HC := Lib.hid (fun k => HA.out.2.2.2 i0 k x y hx hy)
        have X1 := Lib.hid x1
        have Y1 := Lib.hid y1
        have X3 := Lib.hid x3
        have Y3 := Lib.hid y3
        clear hx hy x1 x2 x3 y1 y2 y3
        generalize hl1 : x.cells.length = n1 at *
        have Hn1 := Lib.hid hl1
        rw [← Hxy.out] at Y1 Y3
        clear hl1
        go_wp2
        obtain ⟨wa, rfl⟩ : ∃ wa : World, wa = wr := ⟨_, rfl⟩
        go_loopw [8] (fun k W => ∃ k0 : Nat, k0 ≤ n1 ∧ k = .int .i64 k0 ∧ Sees w W ∧ ptEl.Rd (fun b => w2.heap.size ≤ b) W (.slice a5 L c5) R) (fun k _ => n1 - (intOf k).toNat)
        case atStart => exact ⟨0, by omega, rfl, HS.out, HR5.out⟩
        case round =>
          obtain ⟨k0, hk, rfl, hS, hR5⟩ := hrel
          have HS := Lib.hid hS
          have HR5 := Lib.hid hR5
          have x1 := hS.cell X1.out
          clear hS hR5
          by_cases hkl : k0 < n1
          · go_wp2
            clear x1
            obtain ⟨wb, rfl⟩ : ∃ wb : World, wb = wr := ⟨_, rfl⟩
            go_loopw [9, 10] (fun t j W => ∃ j0 : Nat, j0 ≤ L ∧ j = .int .i64 j0 ∧ t = .bool (cov (R.take j0) i0 k0) ∧ Sees w W ∧ ptEl.Rd (fun b => w2.heap.size ≤ b) W (.slice a5 L c5) R) (fun _ j _ => L - (intOf j).toNat)
            case atStart => exact ⟨0, by omega, rfl, rfl, HS.out, HR5.out⟩
            case round =>
              obtain ⟨j0, hj, rfl, rfl, hS, hR5⟩ := hrel
              have HS := Lib.hid hS
              have HR5 := Lib.hid hR5
              by_cases hjl : j0 < L
              · obtain ⟨bp, op, p, ap, mp, hbp, _, hp, _, ⟨p0, p1, p2, p4⟩, _⟩ := hR5.patch hjl
                subst hbp
                have Hcm := Lib.hid (cov_more (i := i0) (k := k0) hp)
                have hpc := HA.out.2.2.1 p (by rw [← HR.out]; exact List.mem_iff_getElem?.2 ⟨_, hp⟩)
                have hpl := hL.out.2 p (by rw [← HR.out]; exact List.mem_iff_getElem?.2 ⟨_, hp⟩)
                obtain ⟨t, htt⟩ : ∃ t, t = cov (R.take j0) i0 k0 := ⟨_, rfl⟩
                rw [← htt] at Hcm ⊢
                have g0 := fun d os => (sees_grow wr d os).cell p0
                have g1 := fun d os => (sees_grow wr d os).cell p1
                have g2 := fun d os => (sees_grow wr d os).cell p2
                clear htt p0 p1 p2 p4 hp hS hR5
                generalize hpn : p.cells.length = pn at *
                have Hpt : Hid (inPt p i0 k0 = ((p.row == (i0 : Int)) && decide (p.col ≤ (k0 : Int)) && decide ((k0 : Int) < p.col + pn))) := by unfold Hid inPt; rw [hpn]
                clear hpn
                rcases ways31 t (p.row == (i0 : Int)) (decide (p.col ≤ (k0 : Int))) (decide ((k0 : Int) < p.col + pn)) with ⟨rfl, e2, e3, e4⟩ | ⟨rfl, e2, e3, e4⟩ | ⟨rfl, e2, e3⟩ | ⟨rfl, e2⟩ | rfl
                all_goals
                  (try have e3' : decide ((k0 : Int) ≥ p.col) = _ := e3)
                  go_wp2
                  refine wp_region_quiet_below (by kernel_rfl) (by kernel_rfl) ?_
                  repeat (first | go_big_quiet_skip | (go_big_quiet_want; go_big_quiet_op; go_big_quiet_on))
                  refine wpQuiet_nil ?_; intro w2 hw2'; have hw2 := regrown_sees hw2'; clear hw2'
                  go_wp2
                  refine ⟨⟨j0 + 1, by omega, by go_num, ?_, HS.out.trans hw2, HR5.out.sees hw2⟩, by simp [intOf] <;> omega⟩
                  rw [Hcm.out, Hpt.out]
                  first | rfl | (simp only [e2, e3, e4]; rfl) | (simp only [e2, e3]; rfl) | (simp only [e2]; rfl) | (simp only [Bool.true_or]; done) | (simp; done)
              · obtain rfl : j0 = L := by omega
                have Hcv : Hid (cov (R.take j0) i0 k0 = cov (ofR xs ys) i0 k0) := by unfold Hid; rw [List.take_of_length_le (by rw [← HLL.out]; exact Nat.le_refl _), HR.out]
                obtain ⟨t, htt⟩ : ∃ t, t = cov (R.take j0) i0 k0 := ⟨_, rfl⟩
                rw [← htt] at Hcv ⊢
                clear htt
                have x1 := hS.cell X1.out
                have y1 := hS.cell Y1.out
                have g0 := fun d os => (sees_grow wr d os).cell x1
                have g1 := fun d os => (sees_grow wr d os).cell y1
                cases t with
                | true =>
                  clear hS hR5 x1 y1
                  go_wp2
                  refine wp_region_quiet_below (by kernel_rfl) (by kernel_rfl) ?_
                  repeat (first | go_big_quiet_skip | (go_big_quiet_want; go_big_quiet_op; go_big_quiet_on))
                  refine wpQuiet_nil ?_; intro w2 hw2'; have hw2 := regrown_sees hw2'; clear hw2'
                  go_wp2
                  refine ⟨⟨k0 + 1, by omega, by go_num, HS.out.trans hw2, HR5.out.sees hw2⟩, by simp [intOf] <;> omega⟩
                | false =>
                  obtain ⟨b3, o3, cc, ha3, _, hcc, hca⟩ := (X3.out.sees hS).cell hkl
                  obtain ⟨b4, o4, dd, ha4, _, hdd, hda⟩ := (Y3.out.sees hS).cell hkl
                  subst ha3
                  subst ha4
                  have hcd := HC.out k0 Hcv.out.symm hkl
                  rw [hcc, hdd] at hcd
                  obtain rfl := Option.some.inj hcd
                  have F1 := Lib.hid hca
                  have F2 := Lib.hid hda
                  clear hS hR5 x1 y1 hcd hcc hdd hca hda
                  go_wp2
                  refine wp_region_quiet_below (by kernel_rfl) (by kernel_rfl) ?_
                  repeat (first | go_big_quiet_skip | (go_big_quiet_want; go_big_quiet_op; go_big_quiet_on))
                  go_big_quiet_want; refine quiet_run (cc).val (fun W hW => exec_load rfl rfl (run_loadCell (F1.out.sees (regrown_sees hW)))) ?_; simp only [Act.put, List.setIfInBounds_toArray, List.set_cons_zero, List.set_cons_succ]; go_big_quiet_on
                  repeat (first | go_big_quiet_skip | (go_big_quiet_want; go_big_quiet_op; go_big_quiet_on))
                  go_big_quiet_want; refine quiet_run (cc).val (fun W hW => exec_load rfl rfl (run_loadCell (F2.out.sees (regrown_sees hW)))) ?_; simp only [Act.put, List.setIfInBounds_toArray, List.set_cons_zero, List.set_cons_succ]; go_big_quiet_on
                  go_big_quiet_want; refine quiet_run (.bool false) (fun W hW => exec_bin rfl rfl rfl (guard_neqCell _ _ cc cc W) ((run_neqCell cc cc W).trans (by simp))) ?_; simp only [Act.put, List.setIfInBounds_toArray, List.set_cons_zero, List.set_cons_succ]; go_big_quiet_on
                  repeat (first | go_big_quiet_skip | (go_big_quiet_want; go_big_quiet_op; go_big_quiet_on))
                  refine wpQuiet_nil ?_; intro w2 hw2'; have hw2 := regrown_sees hw2'; clear hw2'
                  go_wp2
                  refine ⟨⟨k0 + 1, by omega, by go_num, HS.out.trans hw2, HR5.out.sees hw2⟩, by simp [intOf] <;> omega⟩
          · obtain rfl : k0 = n1 := by omega
            go_wp2
            refine ⟨⟨i0 + 1, by omega, by go_num, HS.out, HR5.out⟩, by simp [intOf] <;> omega⟩
      · obtain rfl : i0 = n := by omega
        go_wp2_with fail
        refine (KN.out _ HS.out).mono ?_
        rintro e w9 ⟨rfl, t9⟩
        go_wp2
        go_ret
        exact ⟨rfl, HS.out.trans t9⟩
end Go.Proofs.YtonlmlmjglaoiaaDoor
