/- The error of two screens. The tables hold what the program's text lays. -/
import Derived.Test.YtonlmlmjglaoiaaDoorDlD
namespace Go.Proofs.YtonlmlmjglaoiaaDoor
set_option linter.unusedVariables false
set_option linter.unusedSimpArgs false
open Go.RowKit

def chk (a b : List Ln) : Int := if scrD a && scrD b then (if (a.length == b.length) && (cols a == cols b) then 0 else 3) else 2
theorem chk_eq {a b : List Ln} {x y z t : Bool} (h1 : scrD a = x) (h2 : scrD b = y) (h3 : (a.length == b.length) = z) (h4 : (cols a == cols b) = t) : chk a b = if x && y then (if z && t then 0 else 3) else 2 := by
  unfold chk; rw [h1, h2, h3, h4]

set_option maxHeartbeats 2000000 in
theorem check_any (F G : Nat → Prop) (v u : Value) (xs ys : List Ln) (w : World) (ht : Tabs w) (ha : lnEl.Rd F w v xs) (hb : lnEl.Rd G w u ys) (hn : xs.length ≤ 1000000) (hnc : ∀ l ∈ xs, l.cells.length ≤ 1000000) (hn2 : ys.length ≤ 1000000) (hnc2 : ∀ l ∈ ys, l.cells.length ≤ 1000000) :
    Calls Tryd.prog 27 #[v, u] w fun e w' => e = .returned (.int .i64 (chk xs ys)) ∧ Sees w w' := by
  have H1 := screenD_any F v xs
  have H2 := screenD_any G u ys
  obtain ⟨x, hx⟩ : ∃ x, scrD xs = x := ⟨_, rfl⟩
  obtain ⟨y, hy⟩ : ∃ y, scrD ys = y := ⟨_, rfl⟩
  have hw := Sees.refl w
  rw [hx] at H1
  rw [hy] at H2
  have K1 := Lib.hid (fun W (hs : Sees w W) => H1 W (ht.sees hs) (ha.sees hs) hn hnc)
  have K2 := Lib.hid (fun W (hs : Sees w W) => H2 W (ht.sees hs) (hb.sees hs) hn2 hnc2)
  clear H1 H2 hn hn2 hnc hnc2 ht
  obtain ⟨ao, ca, rfl, _⟩ := ha.slice'
  obtain ⟨bo, cb, rfl, _⟩ := hb.slice'
  have Ha := Lib.hid ha
  have Hb := Lib.hid hb
  obtain ⟨n, hna⟩ : ∃ n, n = xs.length := ⟨_, rfl⟩
  obtain ⟨m, hnb⟩ : ∃ m, m = ys.length := ⟨_, rfl⟩
  clear ha hb
  have Hc := Lib.hid (fun z t => chk_eq (z := z) (t := t) hx hy)
  clear hx hy
  rw [← hna] at Ha K1
  rw [← hnb] at Hb K2
  rw [← hna, ← hnb] at Hc ⊢
  have Hna := Lib.hid hna
  have Hnb := Lib.hid hnb
  clear hna hnb
  cases x with
  | false =>
    have hf := Hc.out _ _ rfl rfl
    have Hf := Lib.hid hf
    clear hf
    go_enter Tryd.func27, Tryd.ntmps27
    go_wp2_with fail
    refine (K1.out _ hw).mono ?_
    rintro e w1 ⟨rfl, s1⟩
    go_wp2
    go_ret
    exact ⟨by rw [Hf.out]; rfl, s1⟩
  | true =>
    cases y with
    | false =>
      have hf := Hc.out _ _ rfl rfl
      have Hf := Lib.hid hf
      clear hf
      go_enter Tryd.func27, Tryd.ntmps27
      go_wp2_with fail
      refine (K1.out _ hw).mono ?_
      rintro e w1 ⟨rfl, s1⟩
      go_wp2_with fail
      refine (K2.out _ s1).mono ?_
      rintro e w2 ⟨rfl, s2⟩
      go_wp2
      go_ret
      exact ⟨by rw [Hf.out]; rfl, s1.trans s2⟩
    | true =>
      by_cases hnm : n = m
      · subst hnm
        rcases Nat.eq_zero_or_pos n with h0 | h0
        · subst h0
          have hf := Hc.out true true (by simp) (by
            have h1 : xs = [] := List.eq_nil_of_length_eq_zero Hna.out.symm
            have h2 : ys = [] := List.eq_nil_of_length_eq_zero Hnb.out.symm
            rw [h1, h2]; rfl)
          have Hf := Lib.hid hf
          clear hf
          go_enter Tryd.func27, Tryd.ntmps27
          go_wp2_with fail
          refine (K1.out _ hw).mono ?_
          rintro e w1 ⟨rfl, s1⟩
          go_wp2_with fail
          refine (K2.out _ s1).mono ?_
          rintro e w2 ⟨rfl, s2⟩
          go_wp2
          refine wp_region_quiet_below (by kernel_rfl) (by kernel_rfl) ?_
          repeat (first | go_big_quiet_skip | (go_big_quiet_want; go_big_quiet_op; go_big_quiet_on))
          refine wpQuiet_nil ?_; intro w2 hw2'; have hw2 := regrown_sees hw2'; clear hw2'
          go_wp2
          go_ret
          exact ⟨by rw [Hf.out]; rfl, (s1.trans s2).trans hw2⟩
        · obtain ⟨b1, o1, x, a1, m1, rfl, _, hx, _, x1, x2, x3⟩ := Ha.out.line h0
          obtain ⟨b2, o2, y, a2, m2, rfl, _, hy, _, y1, y2, y3⟩ := Hb.out.line h0
          rw [Nat.zero_mul, Nat.add_zero] at x1 y1
          have hf := Hc.out true (x.cells.length == y.cells.length) (by simp) (by rw [cols_of hx, cols_of hy])
          have Hf := Lib.hid hf
          have h0' : (0 : Int) < n := by omega
          have e0 : decide ((n : Int) > 0) = true := decide_eq_true (by omega)
          have X1 := Lib.hid x1
          have Y1 := Lib.hid y1
          clear hf hx hy x2 x3 y2 y3 Ha Hb x1 y1
          generalize hl1 : x.cells.length = n1 at *
          generalize hl2 : y.cells.length = n2 at *
          clear hl1 hl2
          rcases bool_cases (n1 == n2) with e1 | e1
          all_goals
            have e2 : ((n1 : Int) != (n2 : Int)) = !(n1 == n2) := by rw [bne]; congr 1; rw [Bool.eq_iff_iff]; simp; omega
            rw [e1] at e2
            go_enter Tryd.func27, Tryd.ntmps27
            go_wp2_with fail
            refine (K1.out _ hw).mono ?_
            rintro e w1 ⟨rfl, s1⟩
            go_wp2_with fail
            refine (K2.out _ s1).mono ?_
            rintro e w2 ⟨rfl, s2⟩
            have s3 := s1.trans s2
            have x1 := s3.cell X1.out
            have y1 := s3.cell Y1.out
            have g1 := fun d os => (sees_grow w2 d os).cell x1
            have g2 := fun d os => (sees_grow w2 d os).cell y1
            clear x1 y1
            go_wp2
            refine wp_region_quiet_below (by kernel_rfl) (by kernel_rfl) ?_
            repeat (first | go_big_quiet_skip | (go_big_quiet_want; go_big_quiet_op; go_big_quiet_on))
            refine wpQuiet_nil ?_; intro w2 hw2'; have hw2 := regrown_sees hw2'; clear hw2'
            go_wp2
            go_ret
            exact ⟨by rw [Hf.out, e1]; rfl, s3.trans hw2⟩
      · have hf := Hc.out false _ (by simpa using hnm) rfl
        have Hf := Lib.hid hf
        have e2 : ((n : Int) != (m : Int)) = true := by rw [bne_iff_ne]; omega
        clear hf
        go_enter Tryd.func27, Tryd.ntmps27
        go_wp2_with fail
        refine (K1.out _ hw).mono ?_
        rintro e w1 ⟨rfl, s1⟩
        go_wp2_with fail
        refine (K2.out _ s1).mono ?_
        rintro e w2 ⟨rfl, s2⟩
        go_wp2
        refine wp_region_quiet_below (by kernel_rfl) (by kernel_rfl) ?_
        repeat (first | go_big_quiet_skip | (go_big_quiet_want; go_big_quiet_op; go_big_quiet_on))
        refine wpQuiet_nil ?_; intro w2 hw2'; have hw2 := regrown_sees hw2'; clear hw2'
        go_wp2
        go_ret
        exact ⟨by rw [Hf.out]; rfl, (s1.trans s2).trans hw2⟩
end Go.Proofs.YtonlmlmjglaoiaaDoor
