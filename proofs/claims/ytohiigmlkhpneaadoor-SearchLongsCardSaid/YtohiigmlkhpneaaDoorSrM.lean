/- search.before and found (42): where a place is. The tables hold what the program's text lays. -/
import Derived.Test.YtohiigmlkhpneaaDoorSrL
namespace Go.Proofs.YtohiigmlkhpneaaDoor
set_option linter.unusedVariables false
set_option linter.unusedSimpArgs false
open Go.RowKit Go.Shelf
attribute [local go_sem] Oper.semAt_some

/-- Is a place before another one? -/
def befB (l c l' c' : Int) : Bool := decide (l < l') || (l == l' && decide (c < c'))
theorem befB_beh (m : Mt) (l c : Int) : befB l c m.l0 m.c0 = m.beh l c := rfl
theorem befB_ahe (m : Mt) (l c : Int) : befB m.l0 m.c0 l c = m.ahe l c := rfl
set_option maxHeartbeats 1000000 in
theorem before_any (l c l' c' : Int) (w : World) :
    Calls Tryd.prog 34 #[.agg #[.int .i64 l, .int .i64 c], .agg #[.int .i64 l', .int .i64 c']] w fun e w' => e = .returned (.bool (befB l c l' c')) ∧ Sees w w' := by
  have hs : Sees w ((w.alloc (.cells #[.int .i64 l, .int .i64 c] 32)).alloc (.cells #[.int .i64 l', .int .i64 c'] 32)) := ((Sees.refl w).alloc _).alloc _
  have HS := Lib.hid hs
  clear hs
  go_enter Tryd.func34, Tryd.ntmps34
  rcases Bool.eq_false_or_eq_true (decide (l < l')) with h1 | h1
  · go_wp2
    go_ret
    exact ⟨ret_bool (by unfold befB; rw [h1]; rfl), HS.out⟩
  rcases Bool.eq_false_or_eq_true (l == l') with h2 | h2
  · rcases Bool.eq_false_or_eq_true (decide (c < c')) with h3 | h3
    all_goals
      go_wp2
      go_ret
      exact ⟨ret_bool (by unfold befB; rw [h1, h2, h3]; rfl), HS.out⟩
  · go_wp2
    go_ret
    exact ⟨ret_bool (by unfold befB; rw [h1, h2]; rfl), HS.out⟩
/-- What found answers. -/
def foB (ls : List Ln) (first l c : Int) : Bool := decide (l < first) || decide (l ≥ first + ls.length) || decide (c < 0) || decide (c ≥ (cols ls : Int))
def foR (ls : List Ln) (first : Int) (p : ByteArray) (l c : Int) : Int := if ckR ls first p = 0 then (if foB ls first l c then 3 else 0) else 2
theorem ckR_two (ls : List Ln) (first : Int) (p : ByteArray) : ckR ls first p = 0 ∨ ckR ls first p = 2 := by unfold ckR; split <;> simp
set_option maxHeartbeats 4000000 in
set_option maxRecDepth 100000 in
theorem found_any (F : Nat → Prop) (v : Value) (ls : List Ln) (w : World) (ht : Tabs w) (ha : lnEl.Rd F w v ls) (hn : ls.length ≤ 1000000) (hnc : ∀ x ∈ ls, x.cells.length ≤ 1000000) (first : Int) (p : ByteArray) (hp : p.size ≤ 1000000000) (l c : Int) :
    Calls Tryd.prog 33 #[v, .int .i64 first, .string p, .agg #[.int .i64 l, .int .i64 c]] w fun e w' => e = .returned (.int .i64 (foR ls first p l c)) ∧ Sees w w' := by
  have HS := Lib.hid (show Sees w (w.alloc (.cells #[.int .i64 l, .int .i64 c] 32)) from (Sees.refl w).alloc _)
  have HP := Lib.hid (heap_alloc_new w (.cells #[.int .i64 l, .int .i64 c] 32))
  have K := Lib.hid (check_any F v ls _ (ht.sees HS.out) (ha.sees HS.out) hn hnc first p hp)
  obtain ⟨ao, ca, rfl, hca⟩ := ha.slice'
  have Ha := Lib.hid ha
  have Hn := Lib.hid hn
  clear ht ha hnc hn hca
  go_enter Tryd.func33, Tryd.ntmps33
  rcases ckR_two ls first p with hk | hk
  · have Hfo : Hid (foR ls first p l c = if foB ls first l c then 3 else 0) := by unfold Hid foR; rw [if_pos hk]
    obtain ⟨f1, f2, f3, f4, _⟩ := ck_facts hk
    rw [hk] at K
    clear hk f2 f4
    obtain ⟨f3, f5⟩ := f3
    go_wp2_with fail
    refine K.out.mono ?_
    rintro e W1 ⟨rfl, s1⟩
    obtain ⟨d0, d1⟩ : W1.cell? ⟨w.heap.size, 0, none⟩ = some (.int .i64 l) ∧ W1.cell? ⟨w.heap.size, 1, none⟩ = some (.int .i64 c) := by
      have hh := (Keeps.of_sees (F := fun _ => False) s1).block w.heap.size (by simp) (fun h => h)
      rw [HP.out] at hh
      rw [cell_of_row _ _ _ _ _ _ hh, cell_of_row _ _ _ _ _ _ hh]; exact ⟨rfl, rfl⟩
    have HS1 := Lib.hid (HS.out.trans s1)
    have g0 := fun d os => (sees_grow W1 d os).cell d0
    have g1 := fun d os => (sees_grow W1 d os).cell d1
    clear s1
    have Hv : Hid (∀ b1 b2 b3 b4, decide (l < first) = b1 → decide (l ≥ first + (ls.length : Int)) = b2 → decide (c < 0) = b3 → decide (c ≥ (cols ls : Int)) = b4 → foB ls first l c = (b1 || b2 || b3 || b4)) := by
      unfold Hid; rintro _ _ _ _ rfl rfl rfl rfl; rfl
    have hlen : ∀ m : Nat, m = ls.length → m ≤ 1000 := by omega
    rcases Nat.eq_zero_or_pos ls.length with hz | hz
    · have hem : ls.length = 0 := hz
      rw [hz] at Hv Ha ⊢
      rcases Bool.eq_false_or_eq_true (decide (l < first)) with e1 | e1
      · go_wp2
        refine wp_region_quiet_below (by kernel_rfl) (by kernel_rfl) ?_
        repeat (first | go_big_quiet_skip | (go_big_quiet_want; go_big_quiet_op; go_big_quiet_on))
        refine wpQuiet_nil ?_; intro w2 hw2'; have hw2 := regrown_sees hw2'; clear hw2'
        go_wp2
        go_ret
        have hq := Hv.out true _ _ _ e1 rfl rfl rfl
        exact ⟨ret_int (by rw [Hfo.out, hq]; simp), HS1.out.trans hw2⟩
      · have e2 : decide (l ≥ first + ((0 : Nat) : Int)) = true := by have := of_decide_eq_false e1; rw [decide_eq_true_eq]; omega
        have e2' : decide (l ≥ first + 0) = true := by simpa using e2
        have e2'' : decide (l ≥ first) = true := by simpa using e2
        go_wp2
        refine wp_region_quiet_below (by kernel_rfl) (by kernel_rfl) ?_
        repeat (first | go_big_quiet_skip | (go_big_quiet_want; go_big_quiet_op; go_big_quiet_on))
        refine wpQuiet_nil ?_; intro w2 hw2'; have hw2 := regrown_sees hw2'; clear hw2'
        go_wp2
        go_ret
        have hq := Hv.out _ true _ _ e1 e2 rfl rfl
        exact ⟨ret_int (by rw [Hfo.out, hq]; simp), HS1.out.trans hw2⟩
    · obtain ⟨b2, o2, y, a2, m2, hb2, _, hy, _, y1, y2, y3⟩ := Ha.out.line hz
      cases hb2
      rw [Nat.zero_mul, Nat.add_zero] at y1 y2
      have Y1 := Lib.hid ((HS1.out).cell y1)
      have g3 := fun d os => (sees_grow W1 d os).cell Y1.out
      have hcols := cols_of hy
      rw [hcols] at Hv
      clear hy hcols y1 y2 y3 hlen
      generalize ls.length = n at *
      generalize y.cells.length = n0 at *
      have k1 : (0 : Int) < n := by omega
      rcases ways4 (!decide (l < first)) (!decide (l ≥ first + (n : Int))) (!decide (c < 0)) (!decide (c ≥ (n0 : Int))) with ⟨e1, e2, e3, e4⟩ | ⟨e1, e2, e3, e4⟩ | ⟨e1, e2, e3⟩ | ⟨e1, e2⟩ | e1
      all_goals
        (try replace e1 := Bool.not_eq_eq_eq_not.1 e1)
        (try replace e2 := Bool.not_eq_eq_eq_not.1 e2)
        (try replace e3 := Bool.not_eq_eq_eq_not.1 e3)
        (try replace e4 := Bool.not_eq_eq_eq_not.1 e4)
        try simp only [Bool.not_true, Bool.not_false] at e1
        try simp only [Bool.not_true, Bool.not_false] at e2
        try simp only [Bool.not_true, Bool.not_false] at e3
        try simp only [Bool.not_true, Bool.not_false] at e4
        go_wp2
        refine wp_region_quiet_below (by kernel_rfl) (by kernel_rfl) ?_
        repeat (first | go_big_quiet_skip | (go_big_quiet_want; go_big_quiet_op; go_big_quiet_on))
        refine wpQuiet_nil ?_; intro w2 hw2'; have hw2 := regrown_sees hw2'; clear hw2'
        go_wp2
        go_ret
      · have hq := Hv.out _ _ _ _ e1 e2 e3 e4
        exact ⟨ret_int (by rw [Hfo.out, hq]; simp), HS1.out.trans hw2⟩
      · have hq := Hv.out _ _ _ _ e1 e2 e3 e4
        exact ⟨ret_int (by rw [Hfo.out, hq]; simp), HS1.out.trans hw2⟩
      · have hq := Hv.out _ _ _ _ e1 e2 e3 rfl
        exact ⟨ret_int (by rw [Hfo.out, hq]; simp), HS1.out.trans hw2⟩
      · have hq := Hv.out _ _ _ _ e1 e2 rfl rfl
        exact ⟨ret_int (by rw [Hfo.out, hq]; simp), HS1.out.trans hw2⟩
      · have hq := Hv.out _ _ _ _ e1 rfl rfl rfl
        exact ⟨ret_int (by rw [Hfo.out, hq]; simp), HS1.out.trans hw2⟩
  · have Hfo : Hid (foR ls first p l c = 2) := by unfold Hid foR; rw [if_neg (by omega)]
    rw [hk] at K
    clear hk
    go_wp2_with fail
    refine K.out.mono ?_
    rintro e W1 ⟨rfl, s1⟩
    go_wp2
    go_ret
    exact ⟨ret_int Hfo.out.symm, HS.out.trans s1⟩
end Go.Proofs.YtohiigmlkhpneaaDoor
