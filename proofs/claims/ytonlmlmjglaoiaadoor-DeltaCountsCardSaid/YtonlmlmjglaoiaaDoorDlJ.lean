/- What the statements ask of Of, Apply and Same. The tables hold what the program's text lays. -/
import Derived.Test.YtonlmlmjglaoiaaDoorDlH
import Derived.Test.YtonlmlmjglaoiaaDoorDlG
namespace Go.Proofs.YtonlmlmjglaoiaaDoor
set_option linter.unusedVariables false
set_option linter.unusedSimpArgs false
open Go.RowKit

def ofR (a b : List Ln) : List Pt := if chk a b = 0 then ofP zc a b else []
def apR (a : List Ln) (l : List Pt) : Int × List Ln := if scrD a = true then apP zc rowOk a l else (2, [])
theorem ofR_len (a b : List Ln) : (ofR a b).length ≤ 1000000000 ∧ ∀ p ∈ ofR a b, p.cells.length ≤ 1000000 := by
  unfold ofR
  by_cases h : chk a b = 0
  · rw [if_pos h]
    obtain ⟨s1, s2, hn, hl, hc⟩ := chk_ok h
    have hx : ∀ x ∈ a, x.cells.length ≤ 1000 := fun x hx => (lnOk_row (scrB_len s1 hx).2.1).2
    have h1 := ofUp_length 1001 (a := a) (b := b) (fun x h => by have := hx x h; omega) a.length
    have h2 : a.length * 1001 ≤ 1000 * 1001 := Nat.mul_le_mul_right 1001 hn
    exact ⟨by unfold ofP; omega, fun p hp => by have := ofUp_cells (b := b) hx a.length p hp; omega⟩
  · rw [if_neg h]; exact ⟨by simp, fun p hp => by cases hp⟩
theorem ap1_len {x : List Ln} {p : Pt} {M : Nat} (hM : ∀ l ∈ x, l.cells.length ≤ M) : (ap1 zc rowOk x p).2.length ≤ x.length ∧ ∀ l ∈ (ap1 zc rowOk x p).2, l.cells.length ≤ M := by
  unfold ap1
  split
  · exact ⟨by simp, fun l h => by cases h⟩
  · split
    · exact ⟨by simp, fun l h => by cases h⟩
    · rename_i t ht
      split
      · exact ⟨by simp, fun l h => by cases h⟩
      · rename_i hb
        split
        · exact ⟨by simp, fun l h => by cases h⟩
        · refine ⟨by simp, fun l h => ?_⟩
          rcases List.mem_or_eq_of_mem_set h with h | rfl
          · exact hM l h
          · show (putAt _ _ _).length ≤ M
            rw [putAt_length _ _ _ (by omega)]
            exact hM t (List.mem_iff_getElem?.2 ⟨_, ht⟩)
theorem apP_len {M : Nat} : ∀ {ps : List Pt} {x : List Ln}, (∀ l ∈ x, l.cells.length ≤ M) → (apP zc rowOk x ps).2.length ≤ x.length ∧ ∀ l ∈ (apP zc rowOk x ps).2, l.cells.length ≤ M
  | [], x, h => ⟨Nat.le_refl _, h⟩
  | p :: ps, x, h => by
    rw [apP]
    have h1 := ap1_len (p := p) h
    split
    · have h2 := apP_len (ps := ps) h1.2
      exact ⟨Nat.le_trans h2.1 h1.1, h2.2⟩
    · exact ⟨by simp, fun l h => by cases h⟩
theorem apR_len (a : List Ln) (l : List Pt) : (apR a l).2.length ≤ 1000000 ∧ ∀ x ∈ (apR a l).2, x.cells.length ≤ 1000000 := by
  unfold apR
  by_cases h : scrD a = true
  · rw [if_pos h]
    have hs : scrB a = true ∧ a.length ≤ 1000 := by unfold scrD at h; simpa using h
    have h2 := apP_len (ps := l) (M := 1000) (fun x hx => (lnOk_row (scrB_len hs.1 hx).2.1).2 : ∀ x ∈ a, x.cells.length ≤ 1000)
    exact ⟨by omega, fun x hx => by have := h2.2 x hx; omega⟩
  · rw [if_neg h]; exact ⟨by simp, fun x hx => by cases hx⟩

section
variable (F G H : Nat → Prop) (v u z : Value) (xs ys : List Ln) (w : World)
theorem of_any (ht : Tabs w) (ha : lnEl.Rd F w v xs) (hb : lnEl.Rd G w u ys) (hn : xs.length ≤ 1000000) (hnc : ∀ l ∈ xs, l.cells.length ≤ 1000000) (hn2 : ys.length ≤ 1000000) (hnc2 : ∀ l ∈ ys, l.cells.length ≤ 1000000) :
    Calls Tryd.prog 15 #[v, u] w fun e w' => ∃ v', e = .returned (.tuple #[v', .int .i64 (chk xs ys)]) ∧ ptEl.Own (fun b => w.heap.size ≤ b) w' v' (ofR xs ys) ∧ Sees w w' := by
  by_cases h : chk xs ys = 0
  · refine (of_ok F G v u xs ys w ht ha hb h).mono ?_
    rintro e w' ⟨v', rfl, ho, hs⟩
    exact ⟨v', by rw [h], by unfold ofR; rw [if_pos h]; exact ho, hs⟩
  · refine (of_bad F G v u xs ys w ht ha hb hn hnc hn2 hnc2 h).mono ?_
    rintro e w' ⟨rfl, hs⟩
    exact ⟨_, rfl, by unfold ofR; rw [if_neg h]; exact El.Own.nil _ _, hs⟩
theorem apply_any (ps : List Pt) (ht : Tabs w) (ha : lnEl.Rd F w v xs) (hb : ptEl.Rd G w u ps) (hn : xs.length ≤ 1000000) (hnc : ∀ l ∈ xs, l.cells.length ≤ 1000000) (hm : ps.length ≤ 1000000000) (hmc : ∀ p ∈ ps, p.cells.length ≤ 1000000) (hcol : ∀ p ∈ ps, -9223372036854775808 ≤ p.col ∧ p.col ≤ 9223372036854775807) :
    Calls Tryd.prog 19 #[v, u] w fun e w' => ∃ v', e = .returned (.tuple #[v', .int .i64 (apR xs ps).1]) ∧ lnEl.Own (fun b => w.heap.size ≤ b) w' v' (apR xs ps).2 ∧ Sees w w' := by
  by_cases h : scrD xs = true
  · refine (apply_ok F G v u xs ps w ht ha hb h hm hmc hcol).mono ?_
    rintro e w' ⟨v', rfl, ho, hs⟩
    unfold apR
    rw [if_pos h]
    exact ⟨v', rfl, ho, hs⟩
  · refine (apply_bad F G v u xs ps w ht ha hb hn hnc (by simpa using h)).mono ?_
    rintro e w' ⟨rfl, hs⟩
    unfold apR
    rw [if_neg h]
    exact ⟨_, rfl, El.Own.nil _ _, hs⟩

set_option maxHeartbeats 1000000 in
theorem ofs_any (ps : List Pt) (no : Int) (ht : Tabs w) (ha : lnEl.Rd F w v xs) (hb : lnEl.Rd G w u ys) (hc : ptEl.Rd H w z ps) (hn : xs.length ≤ 1000000) (hnc : ∀ l ∈ xs, l.cells.length ≤ 1000000) (hn2 : ys.length ≤ 1000000) (hnc2 : ∀ l ∈ ys, l.cells.length ≤ 1000000) :
    Calls Tryd.prog 11 #[v, u, z, .int .i64 no] w fun e w' => e = .returned (.bool (decide (ofR xs ys = ps) && (chk xs ys == no))) ∧ Sees w w' := by
  have K := Lib.hid (of_any F G v u xs ys w ht ha hb hn hnc hn2 hnc2)
  have Hc := Lib.hid hc
  have Hl := Lib.hid (ofR_len xs ys)
  obtain ⟨ao, ca, rfl, _⟩ := ha.slice'
  obtain ⟨bo, cb, rfl, _⟩ := hb.slice'
  obtain ⟨zo, cz, rfl, _⟩ := hc.slice'
  clear ht ha hb hc hn hnc hn2 hnc2
  generalize xs.length = n at *
  generalize ys.length = m at *
  generalize hk : ps.length = k at *
  generalize chk xs ys = c at *
  clear hk
  obtain ⟨R, hR⟩ : ∃ R, R = ofR xs ys := ⟨_, rfl⟩
  rw [← hR] at K Hl ⊢
  clear hR
  go_enter Tryd.func11, Tryd.ntmps11
  go_wp2_with fail
  refine K.out.mono ?_
  rintro e w1 ⟨v', rfl, ho, s1⟩
  have Ho := Lib.hid ho.rd
  clear ho
  go_wp2_with fail
  refine (patches45_any _ H _ _ R ps _ Ho.out (Hc.out.sees s1) Hl.out.1 Hl.out.2).mono ?_
  rintro e w2 ⟨rfl, s2⟩
  rcases bool_cases (decide (R = ps)) with e1 | e1
  all_goals
    go_wp2
    go_ret
    exact ⟨by rw [e1]; first | rfl | simp, s1.trans s2⟩
set_option maxHeartbeats 1000000 in
theorem applies_any (ps : List Pt) (ls : List Ln) (no : Int) (ht : Tabs w) (ha : lnEl.Rd F w v xs) (hb : ptEl.Rd G w u ps) (hc : lnEl.Rd H w z ls) (hn : xs.length ≤ 1000000) (hnc : ∀ l ∈ xs, l.cells.length ≤ 1000000) (hm : ps.length ≤ 1000000000) (hmc : ∀ p ∈ ps, p.cells.length ≤ 1000000) (hcol : ∀ p ∈ ps, -9223372036854775808 ≤ p.col ∧ p.col ≤ 9223372036854775807) :
    Calls Tryd.prog 17 #[v, u, z, .int .i64 no] w fun e w' => e = .returned (.bool (decide ((apR xs ps).2 = ls) && ((apR xs ps).1 == no))) ∧ Sees w w' := by
  have K := Lib.hid (apply_any F G v u xs w ps ht ha hb hn hnc hm hmc hcol)
  have Hc := Lib.hid hc
  have Hl := Lib.hid (apR_len xs ps)
  obtain ⟨ao, ca, rfl, _⟩ := ha.slice'
  obtain ⟨bo, cb, rfl, _⟩ := hb.slice'
  obtain ⟨zo, cz, rfl, _⟩ := hc.slice'
  clear ht ha hb hc hn hnc hm hmc hcol
  generalize xs.length = n at *
  generalize ps.length = m at *
  generalize hk : ls.length = k at *
  clear hk
  obtain ⟨R, hR⟩ : ∃ R, R = apR xs ps := ⟨_, rfl⟩
  rw [← hR] at K Hl ⊢
  clear hR
  obtain ⟨c, R⟩ := R
  go_enter Tryd.func17, Tryd.ntmps17
  go_wp2_with fail
  refine K.out.mono ?_
  rintro e w1 ⟨v', rfl, ho, s1⟩
  have Ho := Lib.hid ho.rd
  clear ho
  go_wp2_with fail
  refine (lines45_any _ H _ _ R ls _ Ho.out (Hc.out.sees s1) Hl.out.1 Hl.out.2).mono ?_
  rintro e w2 ⟨rfl, s2⟩
  rcases bool_cases (decide (R = ls)) with e1 | e1
  all_goals
    go_wp2
    go_ret
    exact ⟨by simp only [e1]; first | rfl | simp, s1.trans s2⟩
set_option maxHeartbeats 1000000 in
theorem same45_any (want : Bool) (no : Int) (ht : Tabs w) (ha : lnEl.Rd F w v xs) (hb : lnEl.Rd G w u ys) (hn : xs.length ≤ 1000000) (hnc : ∀ l ∈ xs, l.cells.length ≤ 1000000) (hn2 : ys.length ≤ 1000000) (hnc2 : ∀ l ∈ ys, l.cells.length ≤ 1000000) :
    Calls Tryd.prog 26 #[v, u] w fun e w' => e = .returned (.tuple #[.bool ((chk xs ys == 0) && ((ofR xs ys).length == 0)), .int .i64 (chk xs ys)]) ∧ Sees w w' := by
  have K := Lib.hid (of_any F G v u xs ys w ht ha hb hn hnc hn2 hnc2)
  obtain ⟨ao, ca, rfl, _⟩ := ha.slice'
  obtain ⟨bo, cb, rfl, _⟩ := hb.slice'
  clear ht ha hb hn hnc hn2 hnc2
  generalize xs.length = n at *
  generalize ys.length = m at *
  generalize chk xs ys = c at *
  obtain ⟨R, hR⟩ : ∃ R, R = ofR xs ys := ⟨_, rfl⟩
  rw [← hR] at K ⊢
  clear hR
  obtain ⟨k, hk0⟩ : ∃ k, R.length = k := ⟨_, rfl⟩
  rw [hk0]
  have Hk0 := Lib.hid hk0
  clear hk0
  go_enter Tryd.func26, Tryd.ntmps26
  go_wp2_with fail
  refine K.out.mono ?_
  rintro e w1 ⟨v', rfl, ho, s1⟩
  obtain ⟨a', c', hv', _⟩ := ho.slice
  rw [Hk0.out] at hv'
  subst hv'
  clear ho
  have hk : ((k : Int) == 0) = (k == 0) := by rw [Bool.eq_iff_iff]; simp
  have Hk := Lib.hid hk
  clear hk
  rcases bool_cases (c == 0) with e1 | e1
  all_goals
    go_wp2
    go_ret2
    exact ⟨by rw [← Hk.out, e1]; first | rfl | (simp; done), s1⟩
set_option maxHeartbeats 1000000 in
theorem sames_any (want : Bool) (no : Int) (ht : Tabs w) (ha : lnEl.Rd F w v xs) (hb : lnEl.Rd G w u ys) (hn : xs.length ≤ 1000000) (hnc : ∀ l ∈ xs, l.cells.length ≤ 1000000) (hn2 : ys.length ≤ 1000000) (hnc2 : ∀ l ∈ ys, l.cells.length ≤ 1000000) :
    Calls Tryd.prog 12 #[v, u, .bool want, .int .i64 no] w fun e w' => e = .returned (.bool (((chk xs ys == 0) && ((ofR xs ys).length == 0)) == want && (chk xs ys == no))) ∧ Sees w w' := by
  have K := Lib.hid (same45_any F G v u xs ys w want no ht ha hb hn hnc hn2 hnc2)
  obtain ⟨ao, ca, rfl, _⟩ := ha.slice'
  obtain ⟨bo, cb, rfl, _⟩ := hb.slice'
  clear ht ha hb hn hnc hn2 hnc2
  generalize xs.length = n at *
  generalize ys.length = m at *
  obtain ⟨t, htt⟩ : ∃ t, t = ((chk xs ys == 0) && ((ofR xs ys).length == 0)) := ⟨_, rfl⟩
  rw [← htt] at K ⊢
  clear htt
  generalize chk xs ys = c at *
  go_enter Tryd.func12, Tryd.ntmps12
  go_wp2_with fail
  refine K.out.mono ?_
  rintro e w1 ⟨rfl, s1⟩
  rcases bool_cases (t == want) with e1 | e1
  all_goals
    go_wp2
    go_ret
    exact ⟨by rw [e1]; first | rfl | simp, s1⟩
end
end Go.Proofs.YtonlmlmjglaoiaaDoor
