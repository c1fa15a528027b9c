/- The calls of layer 8's statement: few, looks; the ring's calls as the statement's helpers see them. The calls of layer 8 as data, and the ring and the reference side by side: what 'does' needs. No condition. -/
import Derived.Test.YthjcnhgfagefjaaDoorRpG
import Derived.Test.YthjcnhgfagefjaaDoorStF
import Derived.Test.YthjcnhgfagefjaaDoorRiQ
namespace Go.Proofs.YthjcnhgfagefjaaDoor
set_option linter.unusedVariables false
set_option linter.unusedSimpArgs false
open Go.RowKit

/-- A call of a ring. -/
structure Act8 where
  what : Int
  num : Int
  upto : Int
  cells : List Cell
  soft : Bool
def act8El : El Act8 := sliceAnd cellEl 38 5 (·.cells) (fun p => [.int .i64 p.what, .int .i64 p.num, .int .i64 p.upto]) (fun p => [.bool p.soft]) (by decide) (fun _ => rfl) (by intro x v hv; simp at hv; rcases hv with rfl | rfl | rfl | rfl <;> rfl)
section
variable {F G : Nat → Prop} {w W : World} {v : Value}
/-- A call at a place. -/
theorem El.Rd.act8 {ao : Option Addr} {n c k : Nat} {ls : List Act8} (h : act8El.Rd F w (.slice ao n c) ls) (hk : k < n) : ∃ b o l a m, ao = some ⟨b, o, none⟩ ∧ F b ∧ ls[k]? = some l ∧ l.cells.length ≤ m ∧
    (w.cell? ⟨b, o + k * 5, none⟩ = some (.int .i64 l.what) ∧ w.cell? ⟨b, o + k * 5 + 1, none⟩ = some (.int .i64 l.num) ∧ w.cell? ⟨b, o + k * 5 + 2, none⟩ = some (.int .i64 l.upto) ∧ w.cell? ⟨b, o + k * 5 + 3, none⟩ = some (.slice a l.cells.length m) ∧ w.cell? ⟨b, o + k * 5 + 4, none⟩ = some (.bool l.soft)) ∧ cellEl.Rd F w (.slice a l.cells.length m) l.cells := by
  obtain ⟨b, o, l, vs, e, hb, hl, ⟨sv, rfl, hr⟩, h6⟩ := h.at_ hk
  obtain ⟨a, m, rfl, hm⟩ := hr.slice'
  exact ⟨b, o, l, a, m, e, hb, hl, hm, ⟨h6 0 _ rfl, h6 1 _ rfl, h6 2 _ rfl, h6 3 _ rfl, h6 4 _ rfl⟩, hr⟩
end
/-- At most 40 calls with at most 20 cells each. -/
def few8B (ls : List Act8) : Bool := decide (ls.length ≤ 40) && ls.all fun l => decide (l.cells.length ≤ 20)
theorem few8B_ok {ls : List Act8} (h : few8B ls = true) : ls.length ≤ 40 ∧ ∀ l ∈ ls, l.cells.length ≤ 20 := by
  unfold few8B at h
  simpa using h
set_option maxHeartbeats 1000000 in
theorem few8_any (F : Nat → Prop) (v : Value) (xs : List Act8) (w : World) (ha : act8El.Rd F w v xs) :
    Calls Tryd.prog 7 #[v] w fun e w' => e = .returned (.bool (few8B xs)) ∧ Sees w w' := by
  obtain ⟨ao, ca, rfl, hca⟩ := ha.slice'
  have hw := Sees.refl w
  obtain ⟨n, hna⟩ : ∃ n, n = xs.length := ⟨_, rfl⟩
  rw [← hna] at ha
  rw [← hna]
  have Hna := Lib.hid hna
  have Ha := Lib.hid ha
  clear hna ha hca
  go_enter Tryd.func7, Tryd.ntmps7
  go_wp2
  go_loop [3] (fun i => ∃ k : Nat, k ≤ n ∧ k ≤ 41 ∧ i = .int .i64 k ∧ (∀ (j : Nat) x, j < k → xs[j]? = some x → x.cells.length ≤ 20)) (fun i => n - (intOf i).toNat)
  case atStart => exact ⟨0, by omega, by omega, rfl, fun j x h => by omega⟩
  case round =>
    obtain ⟨k, hk, hk2, rfl, hm⟩ := hrel
    have Hm := Lib.hid hm; clear hm
    by_cases hlt : k < n
    · by_cases h41 : k < 41
      · obtain ⟨b1, o1, x, a1, m1, rfl, _, hx, _, ⟨x0, x4, x5, x1, x2⟩, x3⟩ := Ha.out.act8 hlt
        have Hx := Lib.hid hx
        have HW := Lib.hid hw
        generalize hl1 : x.cells.length = n1 at *
        have H1 := Lib.hid hl1
        clear hx x3 Ha hl1 hw
        by_cases h20 : n1 ≤ 20
        · have e1 : decide ((n1 : Int) > 20) = false := decide_eq_false (by omega)
          have e2 : decide ((20 : Int) < n1) = false := decide_eq_false (by omega)
          go_wp2
          go_round
          case rel => exact ⟨k + 1, by omega, by omega, by go_num, fun j y hj hy => by
            rcases Nat.lt_or_ge j k with h | h
            · exact Hm.out j y h hy
            · obtain rfl : j = k := by omega
              rw [Hx.out] at hy; cases hy; rw [H1.out]; exact h20⟩
          case measure => simp [intOf]; omega
        · have e1 : decide ((n1 : Int) > 20) = true := decide_eq_true (by omega)
          have e2 : decide ((20 : Int) < n1) = true := decide_eq_true (by omega)
          have Hf : Hid (few8B xs = false) := Bool.eq_false_iff.2 fun h => by
            have := (few8B_ok h).2 x (List.mem_iff_getElem?.2 ⟨_, Hx.out⟩)
            rw [H1.out] at this; omega
          go_wp2
          go_ret
          exact ⟨ret_bool Hf.out.symm, HW.out⟩
      · have Hf : Hid (few8B xs = false) := Bool.eq_false_iff.2 fun h => by
          have := (few8B_ok h).1; have := Hna.out; omega
        have e1 : decide (n ≤ 40) = false := decide_eq_false (by omega)
        have e2 : decide ((n : Int) ≤ 40) = false := decide_eq_false (by omega)
        go_wp2
        go_ret
        exact ⟨by rw [Hf.out]; first | rfl | (simp; omega), hw⟩
    · obtain rfl : k = n := by omega
      have Hf : Hid (few8B xs = decide (k ≤ 40)) := by
        have h : xs.all (fun l => decide (l.cells.length ≤ 20)) = true := by
          rw [List.all_eq_true]
          intro x hx
          obtain ⟨j, hj⟩ := List.mem_iff_getElem?.1 hx
          exact decide_eq_true (Hm.out j x (by have := Hna.out; have := (List.getElem?_eq_some_iff.1 hj).1; omega) hj)
        unfold Hid few8B; rw [h, ← Hna.out]; simp
      go_wp2
      go_ret
      exact ⟨by rw [Hf.out]; first | rfl | (simp; omega), hw⟩

section
variable {w1 W : World} {F G H : Nat → Prop} {r : Nat} {mo pg fi : Int} {ls : List Ln} {g : List (Int × Nat)} {vl vp : Value}
theorem RgF.rangesF (h : RgF w1 F W r mo pg fi ls g) (G : Nat → Prop) (x y : Int) (hl : ls.length ≤ 1000) (u : Value) (hu : lnEl.Rd G W u (segD8 fi ls x y)) :
    Calls Tryd.prog 13 #[.pointer (some ⟨r, 0, none⟩), .int .i64 x, .int .i64 y, .int .i64 (errB fi ls.length x y), u] W fun e w' => e = .returned (.bool true) ∧ Sees W w' := by
  have hlen : (segD8 fi ls x y).length ≤ 1000 := by
    unfold segD8; split
    · have := seg_length (x - fi).toNat (y - fi).toNat ls; omega
    · simp
  have hcells : ∀ l ∈ segD8 fi ls x y, l.cells.length ≤ 1000000 := by
    intro l hl
    unfold segD8 at hl; split at hl
    · exact h.lenc l (by unfold seg at hl; exact List.mem_of_mem_take (List.mem_of_mem_drop hl))
    · cases hl
  refine rranges_true G _ x y _ u (segD8 fi ls x y) W hu.rdl (by omega) hcells (fun V hs => ?_)
  rcases errB_cases fi ls.length x y with ⟨hh, he⟩ | ⟨hh, hx, he⟩ | ⟨hh, he⟩
  · refine ((h.sees hs).range_err x y 3 (.inl ⟨hh, rfl⟩)).mono ?_
    rintro e w' ⟨rfl, hs'⟩
    rw [he]
    exact ⟨_, rfl, by rw [show segD8 fi ls x y = [] by unfold segD8; rw [if_neg (by rw [he]; decide)]]; exact (El.Rd.nil (E := lnEl) _ _).rdl, hs'⟩
  · refine ((h.sees hs).range_err x y 14 (.inr ⟨hh.1, hh.2.1, hh.2.2, hx, rfl⟩)).mono ?_
    rintro e w' ⟨rfl, hs'⟩
    rw [he]
    exact ⟨_, rfl, by rw [show segD8 fi ls x y = [] by unfold segD8; rw [if_neg (by rw [he]; decide)]]; exact (El.Rd.nil (E := lnEl) _ _).rdl, hs'⟩
  · refine ((h.sees hs).range x y (x - fi).toNat (y - fi).toNat (by omega) (by omega) (by omega) (by omega)).mono ?_
    rintro e w' ⟨v, rfl, ho, hs'⟩
    rw [he]
    exact ⟨v, rfl, by rw [show segD8 fi ls x y = seg (x - fi).toNat (y - fi).toNat ls by unfold segD8; rw [if_pos he]]; exact ho.rd.all.rdl, hs'⟩
theorem RgF.getsF (h : RgF w1 F W r mo pg fi ls g) (x : Int) (u : Value) (hu : RdCells W u (getD8 fi ls x).cells) :
    Calls Tryd.prog 12 #[.pointer (some ⟨r, 0, none⟩), .int .i64 x, .agg #[u, .bool (getD8 fi ls x).soft], .int .i64 (errA fi ls.length x)] W fun e w' => e = .returned (.bool true) ∧ Sees W w' := by
  rcases errA_cases fi ls.length x with ⟨hh, he⟩ | ⟨hh, hx, he⟩ | ⟨hh, he⟩
  · have e : getD8 fi ls x = ⟨[], false⟩ := by unfold getD8; rw [if_neg (by rw [he]; decide)]
    rw [e] at hu ⊢
    rw [he]
    refine rgets_true _ x 3 u ⟨[], false⟩ W hu (by simp) (fun V hs => ?_)
    refine ((h.sees hs).get_err x 3 (.inl ⟨hh, rfl⟩)).mono ?_
    rintro e w' ⟨rfl, hs'⟩
    exact ⟨_, rfl, rnil _, hs'⟩
  · have e : getD8 fi ls x = ⟨[], false⟩ := by unfold getD8; rw [if_neg (by rw [he]; decide)]
    rw [e] at hu ⊢
    rw [he]
    refine rgets_true _ x 14 u ⟨[], false⟩ W hu (by simp) (fun V hs => ?_)
    refine ((h.sees hs).get_err x 14 (.inr ⟨hh.1, hx, rfl⟩)).mono ?_
    rintro e w' ⟨rfl, hs'⟩
    exact ⟨_, rfl, rnil _, hs'⟩
  · have hi : (x - fi).toNat < ls.length := by omega
    have hg : ls[(x - fi).toNat]? = some (getD8 fi ls x) := by
      unfold getD8; rw [if_pos he, List.getElem?_eq_getElem hi]; rfl
    rw [he]
    exact h.gets x (x - fi).toNat (getD8 fi ls x) (by omega) hg u hu

set_option maxRecDepth 100000 in
set_option maxHeartbeats 4000000 in
theorem looks8_any (h : RgF w1 F W r mo pg fi ls g) (hl : ls.length ≤ 1000) (hv : RrRd G W vl vp ls g) :
    Calls Tryd.prog 9 #[.pointer (some ⟨r, 0, none⟩), rrV mo pg fi vl vp] W fun e w' => e = .returned (.bool true) ∧ Sees W w' := by
  have H := Lib.hid h
  have HV := Lib.hid hv
  have hb := h.b8
  have HBB := Lib.hid hb
  obtain ⟨a, c, rfl, -⟩ := hv.l.slice'
  obtain ⟨ap, cp, rfl, -⟩ := hv.p.slice'
  obtain ⟨n, hn⟩ : ∃ n, n = ls.length := ⟨_, rfl⟩
  obtain ⟨np, hnp⟩ : ∃ n, n = g.length := ⟨_, rfl⟩
  rw [← hn] at HV hl ⊢
  rw [← hnp] at HV ⊢
  have Hn := Lib.hid hn
  have Hnp := Lib.hid hnp
  obtain ⟨nx, hnx⟩ : ∃ nx, nx = fi + (n : Int) := ⟨_, rfl⟩
  have Hnx := Lib.hid hnx
  have h0 := hb.fi0
  have h1 := hb.fi1
  have KN := Lib.hid (fun W => refNext08 mo pg fi nx a ap n c np cp W h0 (by omega) (by omega) hnx)
  have Hl := Lib.hid hl
  clear h hv hb hn hnp hnx h0 h1 hl
  have hw := Sees.refl W
  go_enter Tryd.func9, Tryd.ntmps9
  go_wp2_with fail
  refine wp_world (fun w1' hw1 => ?_)
  have A1 : RrAt w1' W.heap.size mo pg fi (.slice a n c) (.slice ap np cp) := by subst hw1; exact RrAt.new rfl
  have S1 : Sees W w1' := by subst hw1; exact hw.alloc _
  have P1 := Lib.hid (H.out.sees S1)
  clear hw1 hw
  have HA1 := Lib.hid A1
  have HS1 := Lib.hid S1
  obtain ⟨x0, x1, x2, x3, x4⟩ := A1.c
  have g0 := fun d os => (sees_grow w1' d os).cell x0
  have g1 := fun d os => (sees_grow w1' d os).cell x1
  have g2 := fun d os => (sees_grow w1' d os).cell x2
  have g3 := fun d os => (sees_grow w1' d os).cell x3
  have g4 := fun d os => (sees_grow w1' d os).cell x4
  clear x0 x1 x2 x3 x4 A1 S1
  have e1 : (fi != fi) = false := by simp
  have e2 : (nx != nx) = false := by simp
  have e3 : ((n : Int) != (n : Int)) = false := by simp
  have e4 : (mo != mo) = false := by simp
  have e5 : ((np : Int) != (np : Int)) = false := by simp
  refine wp_region_quiet_below (by kernel_rfl) (by kernel_rfl) ?_
  repeat (first | go_big_quiet_skip | (go_big_quiet_want; go_big_quiet_op; go_big_quiet_on))
  go_big_quiet_want; go_big_quiet_op; apply Exists.intro; refine ⟨fun p => Calls.regrown_of ((P1.out.sees (sees_grow _ _ _)).rgfirst), ?_⟩; go_big_quiet_on
  repeat (first | go_big_quiet_skip | (go_big_quiet_want; go_big_quiet_op; go_big_quiet_on))
  go_big_quiet_want; go_big_quiet_op; apply Exists.intro; refine ⟨fun p => Calls.regrown_of ((P1.out.sees (sees_grow _ _ _)).rgnext nx (by rw [Hnx.out, Hn.out])), ?_⟩; go_big_quiet_on
  repeat (first | go_big_quiet_skip | (go_big_quiet_want; go_big_quiet_op; go_big_quiet_on))
  go_big_quiet_want; go_big_quiet_op; apply Exists.intro; refine ⟨fun p => Calls.regrown_of (KN.out _), ?_⟩; go_big_quiet_on
  repeat (first | go_big_quiet_skip | (go_big_quiet_want; go_big_quiet_op; go_big_quiet_on))
  go_big_quiet_want; go_big_quiet_op; apply Exists.intro; refine ⟨fun p => Calls.regrown_of ((P1.out.sees (sees_grow _ _ _)).rglen (n : Int) (by rw [Hn.out])), ?_⟩; go_big_quiet_on
  repeat (first | go_big_quiet_skip | (go_big_quiet_want; go_big_quiet_op; go_big_quiet_on))
  go_big_quiet_want; go_big_quiet_op; apply Exists.intro; refine ⟨fun p => Calls.regrown_of ((P1.out.sees (sees_grow _ _ _)).rgmost), ?_⟩; go_big_quiet_on
  repeat (first | go_big_quiet_skip | (go_big_quiet_want; go_big_quiet_op; go_big_quiet_on))
  go_big_quiet_want; go_big_quiet_op; apply Exists.intro; refine ⟨fun p => Calls.regrown_of ((P1.out.sees (sees_grow _ _ _)).rgpages (np : Int) (by rw [Hnp.out])), ?_⟩; go_big_quiet_on
  repeat (first | go_big_quiet_skip | (go_big_quiet_want; go_big_quiet_op; go_big_quiet_on))
  refine wpQuiet_nil ?_; intro w2 hw2'; have hw2 := regrown_sees hw2'; clear hw2'
  have HS2 := Lib.hid (HS1.out.trans hw2)
  have HA2 := Lib.hid (HA1.out.sees hw2)
  clear e1 e2 e3 e4 e5 g0 g1 g2 g3 g4 hw2 P1 HA1 HS1
  go_wp2_with fail
  refine wpH_go (fun _ => False) 11 (by kernel_rfl) (by kernel_rfl) (by rfl) (fun hB w3 hs3 => ?_)
  have E3 := Lib.hid (HA2.out.sees hs3)
  have HS3 := Lib.hid (HS2.out.trans hs3)
  clear hs3 HA2 HS2
  have hS0 : Keeps (fun _ => False) w3 w3 := Keeps.refl _ w3
  refine wpH_take (i := 0) (v := .pointer (some ⟨r, 0, none⟩)) hB (by rfl) (by kernel_rfl) (fun _ _ _ _ _ h => h) (by rfl) hS0 (fun W hI => by clear hI; go_simp) ?_; (try simp only [Act.put, List.setIfInBounds_toArray, List.set_cons_zero, List.set_cons_succ])
  refine wpH_take (i := 1) (v := .pointer (some ⟨W.heap.size, 2, none⟩)) hB (by rfl) (by kernel_rfl) (fun _ _ _ _ _ h => h) (by rfl) hS0 (fun W hI => by clear hI; go_simp) ?_; (try simp only [Act.put, List.setIfInBounds_toArray, List.set_cons_zero, List.set_cons_succ])
  refine wpH_take (i := 2) (v := .int .i64 fi) hB (by rfl) (by kernel_rfl) (fun _ _ _ _ _ h => h) (by rfl) hS0 (fun W hI => by have q := (E3.out.keeps hI (fun h => h)).c; obtain ⟨q0, q1, q2, q3, q4⟩ := q; go_simp) ?_; (try simp only [Act.put, List.setIfInBounds_toArray, List.set_cons_zero, List.set_cons_succ])
  refine wpH_take (i := 3) (v := rrV mo pg fi (.slice a n c) (.slice ap np cp)) hB (by rfl) (by kernel_rfl) (fun _ _ _ _ _ h => h) (by rfl) hS0 (fun W hI => by have q := (E3.out.keeps hI (fun h => h)).c; obtain ⟨q0, q1, q2, q3, q4⟩ := q; go_simp) ?_; (try simp only [Act.put, List.setIfInBounds_toArray, List.set_cons_zero, List.set_cons_succ])
  refine wpH_one (i := 4) (by kernel_rfl) (wpOp_enter (fn := 26) (args := #[rrV mo pg fi (.slice a n c) (.slice ap np cp)]) (by rfl) (by rfl) (by go_simp) ((KN.out w3).mono ?_))
  rintro e w4 ⟨rfl, hs4⟩
  refine ⟨_, rfl, Keeps.of_sees hs4, ?_⟩
  (try simp only [Act.put, List.setIfInBounds_toArray, List.set_cons_zero, List.set_cons_succ])
  refine wpH_one (i := 5) (by kernel_rfl) (wpOp_enter (fn := 35) (args := #[.pointer (some ⟨r, 0, none⟩), .int .i64 fi, .int .i64 nx]) (by rfl) (by rfl) (by go_simp) (((H.out.sees (HS3.out.trans hs4)).range fi nx 0 n (by simp) (Hnx.out) (Nat.zero_le _) (by rw [Hn.out]; exact Nat.le_refl _)).mono ?_))
  rintro e w5 ⟨v5, rfl, ho5, hs5⟩
  refine ⟨_, rfl, Keeps.of_sees (hs4.trans hs5), ?_⟩
  have hseg : seg 0 n ls = ls := by unfold seg; rw [List.drop_zero, List.take_of_length_le (by rw [Hn.out]; exact Nat.le_refl _)]
  rw [hseg] at ho5
  obtain ⟨a5, c5, rfl, -⟩ := ho5.slice
  rw [← Hn.out] at ho5 ⊢
  (try simp only [Act.put, List.setIfInBounds_toArray, List.set_cons_zero, List.set_cons_succ])
  have HO5 := Lib.hid ho5
  have HS5 := Lib.hid (HS3.out.trans (hs4.trans hs5))
  have E5 := Lib.hid (E3.out.sees (hs4.trans hs5))
  have hS0 : Keeps (fun _ => False) w3 w5 := Keeps.of_sees (hs4.trans hs5)
  have Hz4 := Lib.hid (show W.heap.size + 1 ≤ w4.heap.size by have := E3.out.lt; have := hs4.size; omega)
  clear ho5 hs4 hs5 hseg E3
  refine wpH_take (i := 6) (v := .tuple #[.slice a5 n c5, .int .i64 0]) hB (by rfl) (by kernel_rfl) (fun _ _ _ _ _ h => h) (by rfl) hS0 (fun W hI => by clear hI; go_simp) ?_; (try simp only [Act.put, List.setIfInBounds_toArray, List.set_cons_zero, List.set_cons_succ])
  refine wpH_take (i := 7) (v := .slice a5 n c5) hB (by rfl) (by kernel_rfl) (fun _ _ _ _ _ h => h) (by rfl) hS0 (fun W hI => by clear hI; go_simp) ?_; (try simp only [Act.put, List.setIfInBounds_toArray, List.set_cons_zero, List.set_cons_succ])
  refine wpH_take (i := 8) (v := .int .i64 0) hB (by rfl) (by kernel_rfl) (fun _ _ _ _ _ h => h) (by rfl) hS0 (fun W hI => by clear hI; go_simp) ?_; (try simp only [Act.put, List.setIfInBounds_toArray, List.set_cons_zero, List.set_cons_succ])
  refine wpH_take (i := 9) (v := .slice a5 n c5) hB (by rfl) (by kernel_rfl) (fun _ _ _ _ _ h => h) (by rfl) hS0 (fun W hI => by clear hI; go_simp) ?_; (try simp only [Act.put, List.setIfInBounds_toArray, List.set_cons_zero, List.set_cons_succ])
  refine wpH_take (i := 10) (v := .int .i64 0) hB (by rfl) (by kernel_rfl) (fun _ _ _ _ _ h => h) (by rfl) hS0 (fun W hI => by clear hI; go_simp) ?_; (try simp only [Act.put, List.setIfInBounds_toArray, List.set_cons_zero, List.set_cons_succ])
  refine wpH_end (by kernel_rfl) ?_
  clear hB hS0
  obtain ⟨x0, x1, x2, x3, x4⟩ := E5.out.c
  go_wp2_with fail
  refine (all_true _ _ _ _ ls ls w5 HO5.out.rd.rdl (HV.out.l.sees HS5.out).rdl (by have := Hl.out; rw [← Hn.out]; omega) H.out.lenc rfl).mono ?_
  rintro e w6 ⟨rfl, hs6⟩
  have E6 := Lib.hid (E5.out.sees hs6)
  have HS6 := Lib.hid (HS5.out.trans hs6)
  have HT0 : Hid (ls ≠ [] → ∃ b, a5 = some ⟨b, 0, none⟩ ∧ StF (fun b => w4.heap.size ≤ b) w6 b ls 0) := Lib.hid (fun h0 => by
    obtain ⟨b, e, hst⟩ := StF.of (own_ownl HO5.out) h0
    exact ⟨b, e, hst.sees hs6⟩)
  clear hs6 HO5 x0 x1 x2 x3 x4 E5
  have hnn : n ≤ 1000 := Hl.out
  go_wp2_with fail
  go_loopw [63] (fun i X => ∃ k : Nat, k ≤ n ∧ i = .int .i64 k ∧ Keeps (fun b => w4.heap.size ≤ b) w6 X ∧ (ls ≠ [] → ∃ b, a5 = some ⟨b, 0, none⟩ ∧ StF (fun b => w4.heap.size ≤ b) X b ls k)) (fun i _ => n - (intOf i).toNat)
  case atStart => exact ⟨0, by omega, rfl, Keeps.refl _ _, HT0.out⟩
  case round =>
    obtain ⟨k, hk, rfl, hW, hT⟩ := hrel
    have HW := Lib.hid hW
    have HT := Lib.hid hT
    clear hW hT
    by_cases hlk : k < n
    · have hkl : k < ls.length := by have := Hn.out; omega
      obtain ⟨b, rfl, hst⟩ := HT.out (fun e => by rw [e] at hkl; exact absurd hkl (Nat.not_lt_zero _))
      obtain ⟨a6, c6, x0, x1, ho, hb, hkeep⟩ := hst.step (List.getElem?_eq_getElem hkl)
      have Hl6 := Lib.hid (H.out.lenc _ (List.getElem_mem hkl))
      generalize ls[k] = l at *
      have Hkp2 := Lib.hid hkeep
      have Hb := Lib.hid hb
      have Ho := Lib.hid ho
      clear hkl hst hkeep ho hb HT
      go_wp2_with fail
      refine (stain_own 0 _ l.cells _ Ho.out (by have := Hl6.out; omega)).mono ?_
      rintro e w7 ⟨rfl, hk7⟩
      have HS7 := Lib.hid (HW.out.trans (hk7.mono (fun b _ e => Hb.out b e)))
      have HT7 := Lib.hid (Hkp2.out _ hk7)
      clear hk7 x0 x1
      go_wp2
      go_roundw
      case rel => exact ⟨k + 1, by omega, by go_num, HS7.out, fun _ => ⟨_, rfl, HT7.out⟩⟩
      case measure => simp [intOf] <;> omega
    · obtain rfl : n = k := by omega
      have HSX := Lib.hid (show Sees W wr from ((Keeps.of_sees (F := fun _ => False) HS6.out).trans' HW.out (fun b hb e => by have e : w4.heap.size ≤ b := e; have := Hz4.out; omega)).sees_end (fun _ _ h => h))
      have EX := Lib.hid (E6.out.keeps HW.out (by have := Hz4.out; omega))
      clear HT HW
      go_wp2_with fail
      refine wpH_go (fun _ => False) 9 (by kernel_rfl) (by kernel_rfl) (by rfl) (fun hB w8 hs8 => ?_)
      have E8 := Lib.hid (EX.out.sees hs8)
      have HS8 := Lib.hid (HSX.out.trans hs8)
      clear hs8 EX HSX
      have hS0 : Keeps (fun _ => False) w8 w8 := Keeps.refl _ w8
      refine wpH_take (i := 0) (v := .pointer (some ⟨r, 0, none⟩)) hB (by rfl) (by kernel_rfl) (fun _ _ _ _ _ h => h) (by rfl) hS0 (fun W hI => by clear hI; go_simp) ?_; (try simp only [Act.put, List.setIfInBounds_toArray, List.set_cons_zero, List.set_cons_succ])
      refine wpH_take (i := 1) (v := .pointer (some ⟨W.heap.size, 2, none⟩)) hB (by rfl) (by kernel_rfl) (fun _ _ _ _ _ h => h) (by rfl) hS0 (fun W hI => by clear hI; go_simp) ?_; (try simp only [Act.put, List.setIfInBounds_toArray, List.set_cons_zero, List.set_cons_succ])
      refine wpH_take (i := 2) (v := .int .i64 fi) hB (by rfl) (by kernel_rfl) (fun _ _ _ _ _ h => h) (by rfl) hS0 (fun W hI => by have q := (E8.out.keeps hI (fun h => h)).c; obtain ⟨q0, q1, q2, q3, q4⟩ := q; go_simp) ?_; (try simp only [Act.put, List.setIfInBounds_toArray, List.set_cons_zero, List.set_cons_succ])
      refine wpH_take (i := 3) (v := rrV mo pg fi (.slice a n c) (.slice ap np cp)) hB (by rfl) (by kernel_rfl) (fun _ _ _ _ _ h => h) (by rfl) hS0 (fun W hI => by have q := (E8.out.keeps hI (fun h => h)).c; obtain ⟨q0, q1, q2, q3, q4⟩ := q; go_simp) ?_; (try simp only [Act.put, List.setIfInBounds_toArray, List.set_cons_zero, List.set_cons_succ])
      refine wpH_take (i := 5) (v := .pointer (some ⟨W.heap.size, 3, none⟩)) hB (by rfl) (by kernel_rfl) (fun _ _ _ _ _ h => h) (by rfl) hS0 (fun W hI => by clear hI; go_simp) ?_; (try simp only [Act.put, List.setIfInBounds_toArray, List.set_cons_zero, List.set_cons_succ])
      refine wpH_take (i := 6) (v := .slice a n c) hB (by rfl) (by kernel_rfl) (fun _ _ _ _ _ h => h) (by rfl) hS0 (fun W hI => by have q := (E8.out.keeps hI (fun h => h)).c; obtain ⟨q0, q1, q2, q3, q4⟩ := q; go_simp) ?_; (try simp only [Act.put, List.setIfInBounds_toArray, List.set_cons_zero, List.set_cons_succ])
      refine wpH_one (i := 4) (by kernel_rfl) (wpOp_enter (fn := 26) (args := #[rrV mo pg fi (.slice a n c) (.slice ap np cp)]) (by rfl) (by rfl) (by go_simp) ((KN.out w8).mono ?_))
      rintro e w9 ⟨rfl, hs9⟩
      refine ⟨_, rfl, Keeps.of_sees hs9, ?_⟩
      (try simp only [Act.put, List.setIfInBounds_toArray, List.set_cons_zero, List.set_cons_succ])
      have hsg : segD8 fi ls fi nx = ls ∧ errB fi ls.length fi nx = 0 := by
        have h0 := HBB.out.fi0
        have e : errB fi ls.length fi nx = 0 := by
          have := Hnx.out
          have := Hn.out
          unfold errB
          rw [if_neg (by omega), if_neg (by omega)]
        refine ⟨?_, e⟩
        unfold segD8
        rw [if_pos e]
        unfold seg
        rw [show (fi - fi).toNat = 0 by omega, List.drop_zero, List.take_of_length_le (by have := Hnx.out; have := Hn.out; omega)]
      have K := (H.out.sees (HS8.out.trans hs9)).rangesF G fi nx (by have := Hl.out; rw [← Hn.out]; omega) (.slice a n c) (by rw [hsg.1]; exact HV.out.l.sees (HS8.out.trans hs9))
      rw [hsg.2] at K
      have HK := Lib.hid K
      clear K hsg
      refine wpH_one (i := 7) (by kernel_rfl) (wpOp_enter (fn := 13) (args := #[.pointer (some ⟨r, 0, none⟩), .int .i64 fi, .int .i64 nx, .int .i64 0, .slice a n c]) (by rfl) (by rfl) (by go_simp) (HK.out.mono ?_))
      rintro e w10 ⟨rfl, hs10⟩
      refine ⟨_, rfl, Keeps.of_sees (hs9.trans hs10), ?_⟩
      (try simp only [Act.put, List.setIfInBounds_toArray, List.set_cons_zero, List.set_cons_succ])
      have HS10 := Lib.hid (HS8.out.trans (hs9.trans hs10))
      have hS0 : Keeps (fun _ => False) w8 w10 := Keeps.of_sees (hs9.trans hs10)
      clear hs9 hs10
      refine wpH_take (i := 8) (v := .bool true) hB (by rfl) (by kernel_rfl) (fun _ _ _ _ _ h => h) (by rfl) hS0 (fun W hI => by clear hI; go_simp) ?_; (try simp only [Act.put, List.setIfInBounds_toArray, List.set_cons_zero, List.set_cons_succ])
      refine wpH_end (by kernel_rfl) ?_
      clear hB hS0
      go_wp2
      go_ret
      exact ⟨by simp, HS10.out⟩
end
end Go.Proofs.YthjcnhgfagefjaaDoor

namespace Go.Proofs.YthjcnhgfagefjaaDoor
set_option linter.unusedVariables false
set_option linter.unusedSimpArgs false
open Go.RowKit

/-- A call in memory. -/
def Ac8 (W : World) (b : Nat) (what num upto : Int) (u : Value) (soft : Bool) : Prop := W.heap[b]? = some (.cells #[.int .i64 what, .int .i64 num, .int .i64 upto, u, .bool soft] 38 (0, 0))
namespace Ac8
variable {W W' : World} {b : Nat} {what num upto : Int} {u : Value} {soft : Bool}
theorem sees (h : Ac8 W b what num upto u soft) (hs : Sees W W') : Ac8 W' b what num upto u soft := by
  unfold Ac8; rw [hs.block _ (Array.getElem?_eq_some_iff.1 h).1]; exact h
theorem keeps {F : Nat → Prop} (h : Ac8 W b what num upto u soft) (hk : Keeps F W W') (hF : ¬ F b) : Ac8 W' b what num upto u soft := by
  unfold Ac8; rw [hk.block _ (Array.getElem?_eq_some_iff.1 h).1 hF]; exact h
theorem new {n : Nat} (hn : n = W.heap.size) : Ac8 (W.alloc (.cells #[.int .i64 what, .int .i64 num, .int .i64 upto, u, .bool soft] 38)) n what num upto u soft := by subst hn; exact heap_alloc_new W _
theorem alloc (h : Ac8 W b what num upto u soft) (o : Obj) : Ac8 (W.alloc o) b what num upto u soft := h.sees ((Sees.refl W).alloc o)
theorem lt (h : Ac8 W b what num upto u soft) : b < W.heap.size := (Array.getElem?_eq_some_iff.1 h).1
theorem c (h : Ac8 W b what num upto u soft) : W.cell? ⟨b, 0, none⟩ = some (.int .i64 what) ∧ W.cell? ⟨b, 1, none⟩ = some (.int .i64 num) ∧ W.cell? ⟨b, 2, none⟩ = some (.int .i64 upto) ∧ W.cell? ⟨b, 3, none⟩ = some u ∧ W.cell? ⟨b, 4, none⟩ = some (.bool soft) := by
  rw [cell_of_row _ _ _ _ _ _ h, cell_of_row _ _ _ _ _ _ h, cell_of_row _ _ _ _ _ _ h, cell_of_row _ _ _ _ _ _ h, cell_of_row _ _ _ _ _ _ h]; exact ⟨rfl, rfl, rfl, rfl, rfl⟩
end Ac8

/-- What Push makes of a ring. -/
structure PushR (mo pg fi : Int) (ls : List Ln) (g : List (Int × Nat)) (l : Ln) (fi' : Int) (ls' : List Ln) (g' : List (Int × Nat)) (er : Int) : Prop where
  ok : lnOk l.cells = true → ∃ k : Nat, k = ls.length + 1 - mo.toNat ∧ fi' = fi + k ∧ ls' = (ls ++ [l]).drop k ∧ g' = dropG k (pushG pg g) ∧ er = 0
  no : lnOk l.cells = false → fi' = fi ∧ ls' = ls ∧ g' = g ∧ er = 2
/-- What Limit makes of a ring. -/
structure LimR (mo fi : Int) (ls : List Ln) (g : List (Int × Nat)) (x : Int) (mo' fi' : Int) (ls' : List Ln) (g' : List (Int × Nat)) (er : Int) : Prop where
  ok : 0 ≤ x → x ≤ 1048576 → ∃ k : Nat, k = ls.length - x.toNat ∧ mo' = x ∧ fi' = fi + k ∧ ls' = ls.drop k ∧ g' = dropG k g ∧ er = 0
  no : (x < 0 ∨ 1048576 < x) → mo' = mo ∧ fi' = fi ∧ ls' = ls ∧ g' = g ∧ er = 2
/-- What Set makes of a ring. -/
def setD (cs : List Cell) (soft : Bool) (fi : Int) (ls : List Ln) (x : Int) : List Ln := if errS cs fi ls.length x = 0 then ls.set (x - fi).toNat ⟨cs, soft⟩ else ls
theorem setD_len (cs : List Cell) (soft : Bool) (fi : Int) (ls : List Ln) (x : Int) : (setD cs soft fi ls x).length = ls.length := by
  unfold setD; split
  · rw [List.length_set]
  · rfl
/-- The line that Pop gives. -/
def popL8 (ls : List Ln) : Ln := (ls[ls.length - 1]?).getD ⟨[], false⟩
def popE8 (ls : List Ln) : Int := if ls = [] then 9 else 0

section
variable {w1 W : World} {F G H : Nat → Prop} {r : Nat} {mo pg fi : Int} {ls : List Ln} {g : List (Int × Nat)} {vl vp u : Value} {cs : List Cell} {soft : Bool}
theorem refPush8_any (hb : B8 mo pg fi ls g) (hfn : fi + ls.length < 1000000000) (h : RrRd G W vl vp ls g) (hu : RdCells W u cs) (hn : cs.length ≤ 1000000) :
    Calls Tryd.prog 25 #[rrV mo pg fi vl vp, .agg #[u, .bool soft]] W fun e w' => ∃ fi' ls' g' er vl' vp', e = .returned (.tuple #[rrV mo pg fi' vl' vp', .int .i64 er]) ∧ PushR mo pg fi ls g ⟨cs, soft⟩ fi' ls' g' er ∧ RrRd (wid G W) w' vl' vp' ls' g' ∧ Sees W w' := by
  rcases Bool.eq_false_or_eq_true (lnOk cs) with hok | hok
  · refine (refPush08 G mo pg fi vl vp u ls g cs soft W hb hfn h hu hok _ rfl).mono ?_
    rintro e w' ⟨vl', vp', rfl, h1, h2⟩
    exact ⟨_, _, _, _, vl', vp', rfl, ⟨fun _ => ⟨_, rfl, rfl, rfl, rfl, rfl⟩, fun h => (by rw [hok] at h; cases h)⟩, h1, h2⟩
  · obtain ⟨a, c, rfl, _⟩ := h.l.slice'
    obtain ⟨ap, cp, rfl, _⟩ := h.p.slice'
    refine (refPushArg08 mo pg fi a ap _ c _ cp u cs soft W hu hn hok).mono ?_
    rintro e w' ⟨rfl, h2⟩
    exact ⟨fi, ls, g, 2, _, _, rfl, ⟨fun h => (by rw [hok] at h; cases h), fun _ => ⟨rfl, rfl, rfl, rfl⟩⟩, (h.mono (fun b hb h => .inl ⟨h, hb⟩)).sees h2, h2⟩
theorem pushes8_any (h : RgF w1 F W r mo pg fi ls g) (ht : Tabs w1) (hfn : fi + ls.length < 1000000000) (hv : RdC H W u cs) (hH : ∀ b, H b → ¬ F b) (hn : cs.length ≤ 1000000) {fi' : Int} {ls' : List Ln} {g' : List (Int × Nat)} {er : Int} (hp : PushR mo pg fi ls g ⟨cs, soft⟩ fi' ls' g' er) (want : Int) (hw : want = if er = 0 then fi + ls.length else 0) :
    Calls Tryd.prog 15 #[.pointer (some ⟨r, 0, none⟩), .agg #[u, .bool soft], .int .i64 want, .int .i64 er] W fun e w' => e = .returned (.bool true) ∧ RgF w1 (fun b => F b ∨ W.heap.size ≤ b) w' r mo pg fi' ls' g' ∧ Keeps F W w' := by
  obtain ⟨a, c, hua, _⟩ := hv.rd
  refine rpushes_true F (fun X => RgF w1 (fun b => F b ∨ W.heap.size ≤ b) X r mo pg fi' ls' g') _ want er u soft W a cs.length c hua (fun X X' h hs => h.sees hs) (fun X hs => ?_)
  rcases Bool.eq_false_or_eq_true (lnOk cs) with hok | hok
  · obtain ⟨k, hk, rfl, rfl, rfl, rfl⟩ := hp.ok hok
    rw [if_pos rfl] at hw
    refine ((h.sees hs).push ht hfn u cs soft (hv.sees hs) hH hok k hk want hw.symm).mono ?_
    rintro e w' ⟨rfl, h1, h2⟩
    exact ⟨rfl, h2, h1.mono (fun b _ h => by have := hs.size; rcases h with h | h; exact .inl h; exact .inr (by omega)) (fun b hb => by have := h.see.size; rcases hb with hb | hb; exact h.low b hb; omega)⟩
  · obtain ⟨rfl, rfl, rfl, rfl⟩ := hp.no hok
    rw [if_neg (by decide)] at hw
    subst hw
    obtain ⟨av, ac, hr⟩ := (h.sees hs).words
    refine (rpush_arg X (ht.sees (h.see.trans hs)) r mo pg _ _ _ hr h.facts.2.2.1 u cs soft (hv.sees hs).rd hn hok).mono ?_
    rintro e w' ⟨rfl, h2⟩
    exact ⟨rfl, Keeps.of_sees h2, (h.sees (hs.trans h2)).mono (fun b _ h => .inl h) (fun b hb => by have := h.see.size; rcases hb with hb | hb; exact h.low b hb; omega)⟩
theorem refSet8_any (hb : B8 mo pg fi ls g) (x : Int) (hx : -9223372036854775808 ≤ x ∧ x ≤ 9223372036854775807) (h : RrRd G W vl vp ls g) (hu : RdCells W u cs) (hn : cs.length ≤ 1000000) :
    Calls Tryd.prog 29 #[rrV mo pg fi vl vp, .int .i64 x, .agg #[u, .bool soft]] W fun e w' => ∃ vl' vp', e = .returned (.tuple #[rrV mo pg fi vl' vp', .int .i64 (errS cs fi ls.length x)]) ∧ RrRd (wid G W) w' vl' vp' (setD cs soft fi ls x) g ∧ Sees W w' := by
  have h0 := hb.fi0
  have h1 := hb.fi1
  by_cases hz : errS cs fi ls.length x = 0
  · have hok : lnOk cs = true := by
      unfold errS at hz
      split at hz
      · assumption
      · cases hz
    have hz2 : errA fi ls.length x = 0 := by unfold errS at hz; rw [if_pos hok] at hz; exact hz
    have hr : 0 ≤ x ∧ fi ≤ x ∧ x < fi + ls.length := by
      rcases errA_cases fi ls.length x with ⟨_, e⟩ | ⟨_, _, e⟩ | ⟨e, _⟩
      · rw [e] at hz2; cases hz2
      · rw [e] at hz2; cases hz2
      · exact e
    refine (refSet08 G mo pg fi x (x - fi).toNat vl vp u ls g cs soft W hb (by omega) (by omega) h hu hok).mono ?_
    rintro e w' ⟨vl', vp', rfl, k1, k2⟩
    rw [hz, show setD cs soft fi ls x = ls.set (x - fi).toNat ⟨cs, soft⟩ by unfold setD; rw [if_pos hz]]
    exact ⟨vl', vp', rfl, k1, k2⟩
  · obtain ⟨a, c, rfl, _⟩ := h.l.slice'
    obtain ⟨ap, cp, rfl, _⟩ := h.p.slice'
    refine (refSetErr08 mo pg fi x _ a ap _ c _ cp u cs soft W h0 (by omega) (by omega) hu hn rfl hz).mono ?_
    rintro e w' ⟨rfl, h2⟩
    rw [show setD cs soft fi ls x = ls by unfold setD; rw [if_neg hz]]
    exact ⟨_, _, rfl, (h.mono (fun b hb h => .inl ⟨h, hb⟩)).sees h2, h2⟩
theorem set8_any (h : RgF w1 F W r mo pg fi ls g) (ht : Tabs w1) (x : Int) (hv : RdC H W u cs) (hH : ∀ b, H b → ¬ F b) (hn : cs.length ≤ 1000000) :
    Calls Tryd.prog 21 #[.pointer (some ⟨r, 0, none⟩), .int .i64 x, .agg #[u, .bool soft]] W fun e w' => e = .returned (.int .i64 (errS cs fi ls.length x)) ∧ RgF w1 (fun b => F b ∨ W.heap.size ≤ b) w' r mo pg fi (setD cs soft fi ls x) g ∧ Keeps F W w' := by
  have hlow : ∀ b, (F b ∨ W.heap.size ≤ b) → w1.heap.size ≤ b := fun b hb => by have := h.see.size; rcases hb with hb | hb; exact h.low b hb; omega
  obtain ⟨av, ac, hr⟩ := h.words
  rcases Bool.eq_false_or_eq_true (lnOk cs) with hok | hok
  · have hS : errS cs fi ls.length x = errA fi ls.length x := by unfold errS; rw [if_pos hok]
    rcases errA_cases fi ls.length x with ⟨hh, he⟩ | ⟨hh, hx, he⟩ | ⟨hh, he⟩
    · refine (rset_err W (ht.sees h.see) r mo pg _ _ _ hr h.facts.2.2.1 x 3 rfl u cs soft hv.rd hok (fun X hs => (h.sees hs).at_err x 3 (.inl ⟨hh, rfl⟩))).mono ?_
      rintro e w' ⟨rfl, h2⟩
      rw [hS, he, show setD cs soft fi ls x = ls by unfold setD; rw [if_neg (by rw [hS, he]; decide)]]
      exact ⟨rfl, (h.sees h2).mono (fun b _ h => .inl h) hlow, Keeps.of_sees h2⟩
    · refine (rset_err W (ht.sees h.see) r mo pg _ _ _ hr h.facts.2.2.1 x 14 rfl u cs soft hv.rd hok (fun X hs => (h.sees hs).at_err x 14 (.inr ⟨hh.1, hx, rfl⟩))).mono ?_
      rintro e w' ⟨rfl, h2⟩
      rw [hS, he, show setD cs soft fi ls x = ls by unfold setD; rw [if_neg (by rw [hS, he]; decide)]]
      exact ⟨rfl, (h.sees h2).mono (fun b _ h => .inl h) hlow, Keeps.of_sees h2⟩
    · refine (h.set ht x (x - fi).toNat (by omega) (by omega) u cs soft hv hH hok).mono ?_
      rintro e w' ⟨rfl, h1, h2⟩
      rw [hS, he, show setD cs soft fi ls x = ls.set (x - fi).toNat ⟨cs, soft⟩ by unfold setD; rw [if_pos (by rw [hS, he])]]
      exact ⟨rfl, h1, h2⟩
  · have hS : errS cs fi ls.length x = 2 := by unfold errS; rw [if_neg (by rw [hok]; decide)]
    refine (rset_arg W (ht.sees h.see) r mo pg _ _ _ hr h.facts.2.2.1 x u cs soft hv.rd hn hok).mono ?_
    rintro e w' ⟨rfl, h2⟩
    rw [hS, show setD cs soft fi ls x = ls by unfold setD; rw [if_neg (by rw [hS]; decide)]]
    exact ⟨rfl, (h.sees h2).mono (fun b _ h => .inl h) hlow, Keeps.of_sees h2⟩
theorem refLimit8_any (hb : B8 mo pg fi ls g) (x : Int) (h : RrRd G W vl vp ls g) :
    Calls Tryd.prog 30 #[rrV mo pg fi vl vp, .int .i64 x] W fun e w' => ∃ mo' fi' ls' g' er vl' vp', e = .returned (.tuple #[rrV mo' pg fi' vl' vp', .int .i64 er]) ∧ LimR mo fi ls g x mo' fi' ls' g' er ∧ RrRd (wid G W) w' vl' vp' ls' g' ∧ Sees W w' := by
  by_cases hx : 0 ≤ x ∧ x ≤ 1048576
  · refine (refLimit08 G mo pg fi x vl vp ls g W hb hx.1 hx.2 h _ rfl).mono ?_
    rintro e w' ⟨vl', vp', rfl, h1, h2⟩
    exact ⟨_, _, _, _, _, vl', vp', rfl, ⟨fun _ _ => ⟨_, rfl, rfl, rfl, rfl, rfl, rfl⟩, fun h => by omega⟩, h1, h2⟩
  · obtain ⟨a, c, rfl, _⟩ := h.l.slice'
    obtain ⟨ap, cp, rfl, _⟩ := h.p.slice'
    refine (refLimitArg08 mo pg fi x a ap _ c _ cp W (by omega)).mono ?_
    rintro e w' ⟨rfl, h2⟩
    exact ⟨mo, fi, ls, g, 2, _, _, rfl, ⟨fun h1 h2 => (by omega), fun _ => ⟨rfl, rfl, rfl, rfl, rfl⟩⟩, (h.mono (fun b hb h => .inl ⟨h, hb⟩)).sees h2, h2⟩
theorem limit8_any (h : RgF w1 F W r mo pg fi ls g) (x : Int) {mo' fi' : Int} {ls' : List Ln} {g' : List (Int × Nat)} {er : Int} (hp : LimR mo fi ls g x mo' fi' ls' g' er) :
    Calls Tryd.prog 20 #[.pointer (some ⟨r, 0, none⟩), .int .i64 x] W fun e w' => e = .returned (.int .i64 er) ∧ RgF w1 (fun b => F b ∨ W.heap.size ≤ b) w' r mo' pg fi' ls' g' ∧ Keeps F W w' := by
  by_cases hx : 0 ≤ x ∧ x ≤ 1048576
  · obtain ⟨k, hk, rfl, rfl, rfl, rfl, rfl⟩ := hp.ok hx.1 hx.2
    exact h.limit _ hx.1 hx.2 k hk
  · have hx' : x < 0 ∨ 1048576 < x := by omega
    obtain ⟨rfl, rfl, rfl, rfl, rfl⟩ := hp.no hx'
    obtain ⟨av, ac, hr⟩ := h.words
    have hd : decide (x < 0) = true ∨ (decide (x < 0) = false ∧ decide (x > 1048576) = true) := by
      by_cases h0 : x < 0
      · exact .inl (decide_eq_true h0)
      · exact .inr ⟨decide_eq_false h0, decide_eq_true (by omega)⟩
    refine (rlimit_arg W mo' pg _ _ _ hr h.facts.2.2.1 x hd).mono ?_
    rintro e w' ⟨rfl, h2⟩
    exact ⟨rfl, (h.sees h2).mono (fun b _ h => .inl h) (fun b hb => by have := h.see.size; rcases hb with hb | hb; exact h.low b hb; omega), Keeps.of_sees h2⟩
theorem refPop8_any (hb : B8 mo pg fi ls g) (h : RrRd G W vl vp ls g) :
    Calls Tryd.prog 28 #[rrV mo pg fi vl vp] W fun e w' => ∃ vl' vp' v', e = .returned (.tuple #[rrV mo pg fi vl' vp', .agg #[v', .bool (popL8 ls).soft], .int .i64 (popE8 ls)]) ∧ RrRd (wid G W) w' vl' vp' ls.dropLast (popG g) ∧ cellEl.Rd (wid G W) w' v' (popL8 ls).cells ∧ Sees W w' := by
  by_cases h0 : ls = []
  · subst h0
    have hg : g = [] := by
      have h1 := glen hb.gok
      rw [hb.sum] at h1
      exact List.eq_nil_of_length_eq_zero (by simpa using h1)
    subst hg
    obtain ⟨a, c, rfl, _⟩ := h.l.slice'
    obtain ⟨ap, cp, rfl, _⟩ := h.p.slice'
    refine (refPopNone08 mo pg fi a ap c _ cp W).mono ?_
    rintro e w' ⟨rfl, h2⟩
    exact ⟨_, _, _, rfl, (h.mono (fun b hb h => .inl ⟨h, hb⟩)).sees h2, El.Rd.nil _ _, h2⟩
  · obtain ⟨ls0, l, rfl⟩ : ∃ ls0 l, ls = ls0 ++ [l] := ⟨ls.dropLast, ls.getLast h0, (List.dropLast_concat_getLast h0).symm⟩
    have e1 : popL8 (ls0 ++ [l]) = l := by simp [popL8]
    have e2 : popE8 (ls0 ++ [l]) = 0 := by simp [popE8]
    rw [e1, e2, List.dropLast_concat]
    exact refPop08 G mo pg fi vl vp ls0 l g W hb h
theorem pops8_any (h : RgF w1 F W r mo pg fi ls g) (hv : cellEl.Rd H W u (popL8 ls).cells) (hH : ∀ b, H b → ¬ F b) (hFb : ∀ b, F b → b < W.heap.size) :
    Calls Tryd.prog 19 #[.pointer (some ⟨r, 0, none⟩), .agg #[u, .bool (popL8 ls).soft], .int .i64 (popE8 ls)] W fun e w' => e = .returned (.bool true) ∧ RgF w1 F w' r mo pg fi ls.dropLast (popG g) ∧ Keeps F W w' := by
  have hlen : (popL8 ls).cells.length ≤ 1000000 := by
    unfold popL8
    cases e : ls[ls.length - 1]? with
    | none => simp
    | some l => exact h.lenc l (List.mem_iff_getElem?.2 ⟨_, e⟩)
  refine rpops_true F (fun X => RgF w1 F X r mo pg fi ls.dropLast (popG g)) _ (popE8 ls) u (popL8 ls) W hv.rdCells hlen hFb (fun X X' h hs => h.sees hs) (fun X hs => ?_)
  by_cases h0 : ls = []
  · subst h0
    have hg : g = [] := by
      have h1 := glen h.b8.gok
      rw [h.b8.sum] at h1
      exact List.eq_nil_of_length_eq_zero (by simpa using h1)
    subst hg
    refine ((h.sees hs).pop_none).mono ?_
    rintro e w' ⟨rfl, h2⟩
    exact ⟨_, rfl, rnil _, (hv.sees (hs.trans h2)).rdCells, Keeps.of_sees h2, h.sees (hs.trans h2)⟩
  · obtain ⟨ls0, l, rfl⟩ : ∃ ls0 l, ls = ls0 ++ [l] := ⟨ls.dropLast, ls.getLast h0, (List.dropLast_concat_getLast h0).symm⟩
    have e1 : popL8 (ls0 ++ [l]) = l := by simp [popL8]
    have e2 : popE8 (ls0 ++ [l]) = 0 := by simp [popE8]
    rw [e1] at hv ⊢
    rw [e2, List.dropLast_concat]
    refine (RgF.pop l (h.sees hs)).mono ?_
    rintro e w' ⟨v', rfl, ho, _, h1, h2⟩
    refine ⟨v', rfl, ho.rd, ((hv.sees hs).keeps h2 hH).rdCells, h2, ?_⟩
    exact h1.mono (fun b _ h => h.1) (fun b hb => h.low b hb)
/-- A ring's copy. -/
theorem RgF.copy8 (h : RgF w1 F W r mo pg fi ls g) :
    Calls Tryd.prog 32 #[.pointer (some ⟨r, 0, none⟩)] W fun e w' => ∃ q, e = .returned (.pointer (some ⟨q, 0, none⟩)) ∧ RgF w1 (fun b => W.heap.size ≤ b) w' q mo pg fi ls g ∧ Sees W w' := by
  obtain ⟨d, h1, h2, h3⟩ := h
  refine (rcopy_ok h1 h2.ok).mono ?_
  rintro e w' ⟨q, rfl, k1, k2⟩
  exact ⟨q, rfl, ⟨d, ⟨h1.see.trans k2, k1.fr, fun b hb => by have := h1.see.size; have hb : W.heap.size ≤ b := hb; omega, k1.mem⟩, h2, h3⟩, k2⟩
end

/-- What 'does' gives. -/
def DoesP8 (w1 W : World) (F G : Nat → Prop) (top len : Int) (e : Ending) (w' : World) : Prop :=
  ∃ q mo' pg' fi' ls' g' vl' vp' F' G', e = .returned (.tuple #[.pointer (some ⟨q, 0, none⟩), rrV mo' pg' fi' vl' vp', .bool true]) ∧ RgF w1 F' w' q mo' pg' fi' ls' g' ∧ RrRd G' w' vl' vp' ls' g' ∧ (∀ b, G' b → ¬ F' b) ∧ Keeps F W w' ∧ (∀ b, F' b → F b ∨ W.heap.size ≤ b) ∧ (∀ b, G' b → G b ∨ W.heap.size ≤ b) ∧ fi' + (ls'.length : Int) ≤ top + 1 ∧ (ls'.length : Int) ≤ len + 1
/-- The state of 'does' before the ring is changed. -/
structure St8 (w1 W0 : World) (F G : Nat → Prop) (r : Nat) (mo pg fi : Int) (ls : List Ln) (g : List (Int × Nat)) (vl vp : Value) (what num upto : Int) (u : Value) (soft : Bool) (cs : List Cell) (ob : Nat) (ov : Value) (X : World) : Prop where
  ring : RgF w1 F X r mo pg fi ls g
  rr : RrRd G X vl vp ls g
  us : RdCells X u cs
  b0 : RrAt X W0.heap.size mo pg fi vl vp
  b1 : Ac8 X (W0.heap.size + 1) what num upto u soft
  b2 : RrAt X (W0.heap.size + 1 + 1) 0 0 0 (.slice none 0 0) (.slice none 0 0)
  own : OwnCells X (W0.heap.size + 3) ov cs
  ownlt : ∀ b, ov.ownBlock = some b → b < ob
  bo : LnAt X ob ov soft
  oz : W0.heap.size + 3 ≤ ob
  s : Sees W0 X
/-- The state behind. -/
structure Ed8 (w1 W0 : World) (F G F' G' : Nat → Prop) (q : Nat) (mo pg fi : Int) (ls : List Ln) (g : List (Int × Nat)) (vl vp : Value) (X : World) : Prop where
  ring : RgF w1 F' X q mo pg fi ls g
  rr : RrRd G' X vl vp ls g
  dis : ∀ b, G' b → ¬ F' b
  k : Keeps F W0 X
  f : ∀ b, F' b → F b ∨ W0.heap.size ≤ b
  gg : ∀ b, G' b → G b ∨ W0.heap.size ≤ b
  b2 : RrAt X (W0.heap.size + 1 + 1) 0 0 0 (.slice none 0 0) (.slice none 0 0)
  nF : ¬ F' (W0.heap.size + 1 + 1)
  nG : ¬ G' (W0.heap.size + 1 + 1)
  low : w1.heap.size ≤ W0.heap.size
section
variable {w1 W0 X X' : World} {F G F' G' : Nat → Prop} {r q : Nat} {mo pg fi mo' pg' fi' : Int} {ls ls' : List Ln} {g g' : List (Int × Nat)} {vl vp vl' vp' : Value} {what num upto : Int} {u : Value} {soft : Bool} {cs : List Cell} {ob : Nat} {ov : Value}
theorem St8.sees (h : St8 w1 W0 F G r mo pg fi ls g vl vp what num upto u soft cs ob ov X) (hs : Sees X X') : St8 w1 W0 F G r mo pg fi ls g vl vp what num upto u soft cs ob ov X' :=
  ⟨h.ring.sees hs, h.rr.sees hs, h.us.sees hs, h.b0.sees hs, h.b1.sees hs, h.b2.sees hs, OwnCells.sees h.own hs, h.ownlt, h.bo.sees hs, h.oz, h.s.trans hs⟩
theorem Ed8.sees (h : Ed8 w1 W0 F G F' G' q mo pg fi ls g vl vp X) (hs : Sees X X') : Ed8 w1 W0 F G F' G' q mo pg fi ls g vl vp X' :=
  ⟨h.ring.sees hs, h.rr.sees hs, h.dis, h.k.trans (Keeps.of_sees hs), h.f, h.gg, h.b2.sees hs, h.nF, h.nG, h.low⟩
/-- The ring has changed, and the reference's is there. -/
theorem St8.ed (h : St8 w1 W0 F G r mo pg fi ls g vl vp what num upto u soft cs ob ov X) (hF : ∀ b, F b → b < W0.heap.size) (hG : ∀ b, G b → b < W0.heap.size ∧ ¬ F b) {G2 : Nat → Prop} (h2 : RrRd G2 X vl' vp' ls' g') (hG2 : ∀ b, G2 b → G b ∨ W0.heap.size + 3 ≤ b)
    (hr : RgF w1 (fun b => F b ∨ X.heap.size ≤ b) X' q mo' pg' fi' ls' g') (hk : Keeps F X X') :
    Ed8 w1 W0 F G (fun b => (F b ∨ X.heap.size ≤ b) ∧ b < X'.heap.size) (fun b => G2 b ∧ b < X.heap.size) q mo' pg' fi' ls' g' vl' vp' X' ∧ OwnCells X' (W0.heap.size + 3) ov cs ∧ LnAt X' ob ov soft := by
  have hz := h.s.size
  have hb2 := h.b2.lt
  have hob := h.bo.lt
  have hoz := h.oz
  refine ⟨⟨hr.mono (fun b hb h => ⟨h, hb⟩) (fun b hb => hr.low b hb.1), (h2.mono (fun b hb h => ⟨h, hb⟩)).keeps hk (fun b hb hf => ?_), fun b hb hf => ?_, (Keeps.of_sees (F := F) h.s).trans hk, fun b hb => ?_, fun b hb => ?_, h.b2.keeps hk (fun hf => by have := hF _ hf; omega), fun hf => ?_, fun hf => ?_, by have := h.ring.see.size; have h1 := hF r (by obtain ⟨d, h1, _⟩ := h.ring; exact h1.fr); have := h.ring.low r (by obtain ⟨d, h1, _⟩ := h.ring; exact h1.fr); omega⟩, OwnCells.keeps h.own hk (fun b hb hf => by have := (El.rowLt h.own hb).1; have := hF _ hf; omega), h.bo.keeps hk (fun hf => by have := hF _ hf; omega)⟩
  · rcases hG2 b hb.1 with h1 | h1
    · exact (hG b h1).2 hf
    · have := hF b hf; omega
  · rcases hf.1 with h1 | h1
    · rcases hG2 b hb.1 with h3 | h3
      · exact (hG b h3).2 h1
      · have := hF b h1; omega
    · have := hb.2; omega
  · rcases hb.1 with h1 | h1
    · exact .inl h1
    · exact .inr (by omega)
  · rcases hG2 b hb.1 with h1 | h1
    · exact .inl h1
    · exact .inr (by omega)
  · rcases hf.1 with h1 | h1
    · have := hF _ h1; omega
    · omega
  · rcases hG2 _ hf.1 with h1 | h1
    · have := (hG _ h1).1; omega
    · omega
/-- Other blocks are written. -/
theorem Ed8.keeps {Z : Nat → Prop} (h : Ed8 w1 W0 F G F' G' q mo pg fi ls g vl vp X) (hk : Keeps Z X X') (hZ : ∀ b, Z b → W0.heap.size ≤ b) (hF : ∀ b, F' b → ¬ Z b) (hG : ∀ b, G' b → ¬ Z b) (h2 : ¬ Z (W0.heap.size + 1 + 1)) : Ed8 w1 W0 F G F' G' q mo pg fi ls g vl vp X' :=
  ⟨h.ring.keeps hk hF (fun b hb => by have := hZ b hb; have := h.low; omega), h.rr.keeps hk hG, h.dis, h.k.trans' hk (fun b hb e => by have := hZ b e; omega), h.f, h.gg, h.b2.keeps hk h2, h.nF, h.nG, h.low⟩
/-- The end: the answer's variable is written. -/
theorem Ed8.fin {top len : Int} (h : Ed8 w1 W0 F G F' G' q mo pg fi ls g vl vp X) (hk : Keeps (fun b => b = W0.heap.size + 1 + 1) X X') (h1 : fi + (ls.length : Int) ≤ top + 1) (h2 : (ls.length : Int) ≤ len + 1) : DoesP8 w1 W0 F G top len (.returned (.tuple #[.pointer (some ⟨q, 0, none⟩), rrV mo pg fi vl vp, .bool true])) X' :=
  ⟨q, mo, pg, fi, ls, g, vl, vp, F', G', rfl, h.ring.keeps hk (fun b hb e => h.nF (by have e : b = _ := e; rwa [← e])) (fun b e => by have e : b = _ := e; have := h.low; omega), h.rr.keeps hk (fun b hb e => h.nG (by have e : b = _ := e; rwa [← e])), h.dis, h.k.trans' hk (fun b hb e => by have e : b = _ := e; omega), h.f, h.gg, h1, h2⟩
end
end Go.Proofs.YthjcnhgfagefjaaDoor
