/- Screens: the tests of the program and of the statements. The tables hold what the program's text lays. -/
import Derived.Test.YtonlmlmjglaoiaaDoorDlB
namespace Go.Proofs.YtonlmlmjglaoiaaDoor
set_option linter.unusedVariables false
set_option linter.unusedSimpArgs false
open Go.RowKit

/-- Is a line one of a screen with so many columns? -/
def scrAt (n : Nat) (l : Ln) : Bool := lnOk l.cells && !(l.cells.length == 0) && (l.cells.length == n)
def cols (ls : List Ln) : Nat := match ls with | [] => 0 | l :: _ => l.cells.length
def scrB (ls : List Ln) : Bool := ls.all (scrAt (cols ls))
theorem cols_of {ls : List Ln} {x : Ln} (h : ls[0]? = some x) : cols ls = x.cells.length := by
  cases ls with
  | nil => cases h
  | cons l r => cases h; rfl
theorem scrB_bad {ls : List Ln} {k : Nat} {x : Ln} (h : ls[k]? = some x) (hb : scrAt (cols ls) x = false) : scrB ls = false := by
  unfold scrB
  rw [List.all_eq_false]
  exact ⟨x, List.mem_iff_getElem?.2 ⟨_, h⟩, by simp [hb]⟩
theorem scr_more {ls : List Ln} {k n : Nat} {x : Ln} (h : ls[k]? = some x) (hb : scrAt n x = true) (ha : (ls.take k).all (scrAt n) = true) : (ls.take (k + 1)).all (scrAt n) = true := by
  rw [List.take_add_one, List.all_append, ha, h]; simp [hb]
theorem scrB_len {ls : List Ln} (h : scrB ls = true) {x : Ln} (hx : x ∈ ls) : x.cells.length = cols ls ∧ lnOk x.cells = true ∧ 0 < x.cells.length := by
  unfold scrB at h
  have := List.all_eq_true.1 h x hx
  simp [scrAt] at this
  have h2 := this.1.2
  refine ⟨this.2, this.1.1, ?_⟩
  rcases Nat.eq_zero_or_pos x.cells.length with h3 | h3
  · exact absurd (List.eq_nil_of_length_eq_zero h3) h2
  · exact h3

set_option maxHeartbeats 2000000 in
theorem screen45_any (F : Nat → Prop) (v : Value) (xs : List Ln) (w : World) (ht : Tabs w) (ha : lnEl.Rd F w v xs) (hn : xs.length ≤ 1000000) (hnc : ∀ l ∈ xs, l.cells.length ≤ 1000000) :
    Calls Tryd.prog 10 #[v] w fun e w' => e = .returned (.bool (scrB xs)) ∧ Sees w w' := by
  have Hnc := Lib.hid hnc
  have Ht := Lib.hid ht
  obtain ⟨ao, ca, rfl, hca⟩ := ha.slice'
  have hw := Sees.refl w
  obtain ⟨n, hna⟩ : ∃ n, n = xs.length := ⟨_, rfl⟩
  rw [← hna] at ha hn
  rw [← hna]
  have Hna := Lib.hid hna
  have Ha := Lib.hid ha
  clear hna ha hca hnc ht
  go_enter Tryd.func10, Tryd.ntmps10
  go_wp2
  go_loopw [3] (fun i wr => ∃ k : Nat, k ≤ n ∧ i = .int .i64 k ∧ (xs.take k).all (scrAt (cols xs)) = true ∧ Sees w wr) (fun i _ => n - (intOf i).toNat)
  case atStart => exact ⟨0, by omega, rfl, by simp, Sees.refl _⟩
  case round =>
    obtain ⟨k, hk, rfl, hm, hS⟩ := hrel
    have Hm := Lib.hid hm; clear hm hw
    by_cases hlt : k < n
    · obtain ⟨b1, o1, x, a1, m1, rfl, _, hx, _, x1, x2, x3⟩ := (Ha.out.sees hS).line hlt
      obtain ⟨b2, o2, y, a2, m2, hb2, _, hy, _, y1, y2, y3⟩ := (Ha.out.sees hS).line (show 0 < n by omega)
      cases hb2
      rw [Nat.zero_mul, Nat.add_zero] at y1 y2
      have g1 := fun d os => (sees_grow wr d os).cell x1
      have g2 := fun d os => (sees_grow wr d os).cell x2
      have h1 := fun d os => (sees_grow wr d os).cell y1
      have X3 := Lib.hid x3
      have HT := Lib.hid (Ht.out.sees hS)
      have Hx := Lib.hid hx
      have Hxl := Lib.hid (Hnc.out x (List.mem_iff_getElem?.2 ⟨_, hx⟩))
      have hcols := cols_of hy
      have hv : ∀ b1 b2 b3, lnOk x.cells = b1 → ((x.cells.length : Int) == 0) = b2 → (x.cells.length == y.cells.length) = b3 → scrAt (cols xs) x = (b1 && !b2 && b3) := by
        rintro _ _ _ rfl rfl rfl
        unfold scrAt; rw [hcols]
        congr 2
        rw [Bool.eq_iff_iff]; simp
      have Hv := Lib.hid hv
      clear hx hy x1 x2 x3 y1 y2 y3 Ha hcols hv
      generalize hl1 : x.cells.length = n1 at *
      generalize hl2 : y.cells.length = n0 at *
      have H1 := Lib.hid hl1
      clear hl1 hl2
      have k0 : (0 : Nat) < n := by omega
      have k1 : (0 : Int) < n := by omega
      rcases ways3 (lnOk x.cells) (!((n1 : Int) == 0)) (n1 == n0) with ⟨e1, e2, e3⟩ | ⟨e1, e2, e3⟩ | ⟨e1, e2⟩ | e1
      all_goals
        (try (have e2' : ((n1 : Int) == 0) = _ := Bool.not_eq_eq_eq_not.1 e2))
        go_wp2
        refine wp_region_quiet_below (by kernel_rfl) (by kernel_rfl) ?_
        repeat (first | go_big_quiet_skip | (go_big_quiet_want; go_big_quiet_op; go_big_quiet_on))
        (go_big_quiet_want; go_big_quiet_op; apply Exists.intro; refine ⟨fun p => Calls.regrown_of (lineValid_any _ x.cells x.soft _ (HT.out.sees (sees_grow wr _ _)) (X3.out.sees (sees_grow wr _ _)).rdCells (by rw [H1.out]; exact Hxl.out)), ?_⟩; go_big_quiet_on)
        repeat (first | go_big_quiet_skip | (go_big_quiet_want; go_big_quiet_op; go_big_quiet_on))
        refine wpQuiet_nil ?_; intro w2 hw2'; have hw2 := regrown_sees hw2'; clear hw2'
        go_wp2
      · have := Hv.out true false true e1 (by simpa using e2) e3
        go_roundw
        case rel => exact ⟨k + 1, by omega, by go_num, scr_more Hx.out this Hm.out, hS.trans hw2⟩
        case measure => simp [intOf]; omega
      · have := scrB_bad Hx.out (Hv.out true false false e1 (by simpa using e2) e3)
        go_ret
        exact ⟨ret_bool this.symm, hS.trans hw2⟩
      · have := scrB_bad Hx.out ((Hv.out true true _ e1 (by simpa using e2) rfl).trans (by simp))
        go_ret
        exact ⟨ret_bool this.symm, hS.trans hw2⟩
      · have := scrB_bad Hx.out ((Hv.out false _ _ e1 rfl rfl).trans (by simp))
        go_ret
        exact ⟨ret_bool this.symm, hS.trans hw2⟩
    · obtain rfl : k = n := by omega
      have Hf : Hid (scrB xs = true) := by have := Hm.out; rwa [List.take_of_length_le (by rw [← Hna.out]; exact Nat.le_refl _)] at this
      go_wp2
      go_ret
      exact ⟨ret_bool Hf.out.symm, hS⟩
end Go.Proofs.YtonlmlmjglaoiaaDoor
