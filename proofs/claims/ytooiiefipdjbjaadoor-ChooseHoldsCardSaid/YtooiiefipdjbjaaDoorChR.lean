/- The small functions of the statements about choices (41). The tables hold what the program's text lays. The words of the statements about choices (41). The tables hold what the program's text lays. Logical lines, places and choices of the statements about choices (41). The tables hold what the program's text lays. No condition. -/
import Derived.Test.YtooiiefipdjbjaaDoorChO
namespace Go.Proofs.YtooiiefipdjbjaaDoor
set_option linter.unusedVariables false
set_option linter.unusedSimpArgs false
open Go.RowKit Go.Shelf
attribute [local go_sem] Oper.semAt_some

set_option maxHeartbeats 2000000 in
theorem rows41_any (F : Nat → Prop) (v : Value) (xs : List Ln) (w : World) (ht : Tabs w) (ha : lnEl.Rd F w v xs) (hn : xs.length ≤ 1000000) (hnc : ∀ l ∈ xs, l.cells.length ≤ 1000000) (first : Int) :
    Calls Tryd.prog 11 #[v, .int .i64 first] w fun e w' => e = .returned (.bool (rowsOk xs first)) ∧ Sees w w' := by
  have Hnc := Lib.hid hnc
  have Ht := Lib.hid ht
  obtain ⟨ao, ca, rfl, hca⟩ := ha.slice'
  have hw := Sees.refl w
  obtain ⟨n, hna⟩ : ∃ n, n = xs.length := ⟨_, rfl⟩
  rw [← hna] at ha hn
  rw [← hna]
  have Hna := Lib.hid hna
  have Ha := Lib.hid ha
  clear hna ha hca hnc ht
  go_enter Tryd.func11, Tryd.ntmps11
  go_wp2
  go_loopw [5] (fun i wr => ∃ k : Nat, k ≤ n ∧ i = .int .i64 k ∧ (xs.take k).all (scrAt (cols xs)) = true ∧ Sees w wr) (fun i _ => n - (intOf i).toNat)
  case atStart => exact ⟨0, by omega, rfl, by simp, Sees.refl _⟩
  case round =>
    obtain ⟨k, hk, rfl, hm, hS⟩ := hrel
    have Hm := Lib.hid hm; clear hm hw
    by_cases hlt : k < n
    · obtain ⟨b1, o1, x, a1, m1, rfl, _, hx, _, x1, x2, x3⟩ := (Ha.out.sees hS).line hlt
      obtain ⟨b2, o2, y, a2, m2, hb2, _, hy, _, y1, y2, y3⟩ := (Ha.out.sees hS).line (show 0 < n by omega)
      cases hb2
      rw [Nat.zero_mul, Nat.add_zero] at y1 y2
      have g1 := fun d os => (sees_grow wr d os).cell x1
      have g2 := fun d os => (sees_grow wr d os).cell x2
      have h1 := fun d os => (sees_grow wr d os).cell y1
      have X3 := Lib.hid x3
      have HT := Lib.hid (Ht.out.sees hS)
      have Hx := Lib.hid hx
      have Hxl := Lib.hid (Hnc.out x (List.mem_iff_getElem?.2 ⟨_, hx⟩))
      have hcols := cols_of hy
      have hv : ∀ b1 b2 b3, lnOk x.cells = b1 → ((x.cells.length : Int) == 0) = b2 → (x.cells.length == y.cells.length) = b3 → scrAt (cols xs) x = (b1 && !b2 && b3) := by
        rintro _ _ _ rfl rfl rfl
        unfold scrAt; rw [hcols]
        congr 2
        rw [Bool.eq_iff_iff]; simp
      have Hv := Lib.hid hv
      clear hx hy x1 x2 x3 y1 y2 y3 Ha hcols hv
      generalize hl1 : x.cells.length = n1 at *
      generalize hl2 : y.cells.length = n0 at *
      have H1 := Lib.hid hl1
      clear hl1 hl2
      have k0 : (0 : Nat) < n := by omega
      have k1 : (0 : Int) < n := by omega
      rcases ways3 (lnOk x.cells) (!((n1 : Int) == 0)) (n1 == n0) with ⟨e1, e2, e3⟩ | ⟨e1, e2, e3⟩ | ⟨e1, e2⟩ | e1
      all_goals
        (try (have e2' : ((n1 : Int) == 0) = _ := Bool.not_eq_eq_eq_not.1 e2))
        go_wp2
        refine wp_region_quiet_below (by kernel_rfl) (by kernel_rfl) ?_
        repeat (first | go_big_quiet_skip | (go_big_quiet_want; go_big_quiet_op; go_big_quiet_on))
        (go_big_quiet_want; go_big_quiet_op; apply Exists.intro; refine ⟨fun p => Calls.regrown_of (lineValid_any _ x.cells x.soft _ (HT.out.sees (sees_grow wr _ _)) (X3.out.sees (sees_grow wr _ _)).rdCells (by rw [H1.out]; exact Hxl.out)), ?_⟩; go_big_quiet_on)
        repeat (first | go_big_quiet_skip | (go_big_quiet_want; go_big_quiet_op; go_big_quiet_on))
        refine wpQuiet_nil ?_; intro w2 hw2'; have hw2 := regrown_sees hw2'; clear hw2'
        go_wp2
      · have := Hv.out true false true e1 (by simpa using e2) e3
        go_roundw
        case rel => exact ⟨k + 1, by omega, by go_num, scr_more Hx.out this Hm.out, hS.trans hw2⟩
        case measure => simp [intOf]; omega
      · have := rowsOk_no (first := first) (scrB_bad Hx.out (Hv.out true false false e1 (by simpa using e2) e3))
        go_ret
        exact ⟨ret_bool this.symm, hS.trans hw2⟩
      · have := rowsOk_no (first := first) (scrB_bad Hx.out ((Hv.out true true _ e1 (by simpa using e2) rfl).trans (by simp)))
        go_ret
        exact ⟨ret_bool this.symm, hS.trans hw2⟩
      · have := rowsOk_no (first := first) (scrB_bad Hx.out ((Hv.out false _ _ e1 rfl rfl).trans (by simp)))
        go_ret
        exact ⟨ret_bool this.symm, hS.trans hw2⟩
    · obtain rfl : k = n := by omega
      have Hf : Hid (rowsOk xs first = (decide (first ≥ 0) && decide (first ≤ 1099511627776))) := by
        have := Hm.out
        rw [List.take_of_length_le (by rw [← Hna.out]; exact Nat.le_refl _)] at this
        unfold Hid rowsOk scrB
        rw [this]
        rfl
      rcases Bool.eq_false_or_eq_true (decide (first ≥ 0)) with g1 | g1
      all_goals
        rw [g1] at Hf
        go_wp2
        go_ret
        exact ⟨by rw [Hf.out]; simp, hS⟩
/-- At most so many lines with at most so many cells each. -/
def small41 (ls : List Ln) : Bool := decide (ls.length ≤ 12) && ls.all fun l => decide (l.cells.length ≤ 24)
theorem small41_ok {ls : List Ln} (h : small41 ls = true) : ls.length ≤ 12 ∧ ∀ l ∈ ls, l.cells.length ≤ 24 := by
  unfold small41 at h
  simpa using h
set_option maxHeartbeats 1000000 in
theorem small41_any (F : Nat → Prop) (v : Value) (xs : List Ln) (w : World) (ha : lnEl.Rd F w v xs) :
    Calls Tryd.prog 9 #[v] w fun e w' => e = .returned (.bool (small41 xs)) ∧ Sees w w' := by
  obtain ⟨ao, ca, rfl, hca⟩ := ha.slice'
  have hw := Sees.refl w
  obtain ⟨n, hna⟩ : ∃ n, n = xs.length := ⟨_, rfl⟩
  rw [← hna] at ha
  rw [← hna]
  have Hna := Lib.hid hna
  have Ha := Lib.hid ha
  clear hna ha hca
  go_enter Tryd.func9, Tryd.ntmps9
  go_wp2
  go_loop [3] (fun i => ∃ k : Nat, k ≤ n ∧ k ≤ 13 ∧ i = .int .i64 k ∧ (∀ (j : Nat) x, j < k → xs[j]? = some x → x.cells.length ≤ 24)) (fun i => n - (intOf i).toNat)
  case atStart => exact ⟨0, by omega, by omega, rfl, fun j x h => by omega⟩
  case round =>
    obtain ⟨k, hk, hk2, rfl, hm⟩ := hrel
    have Hm := Lib.hid hm; clear hm
    by_cases hlt : k < n
    · by_cases h13 : k < 13
      · obtain ⟨b1, o1, x, a1, m1, rfl, _, hx, _, x1, x2, x3⟩ := Ha.out.line hlt
        have Hx := Lib.hid hx
        have HW := Lib.hid hw
        generalize hl1 : x.cells.length = n1 at *
        have H1 := Lib.hid hl1
        clear hx x3 Ha hl1 hw
        by_cases h24 : n1 ≤ 24
        · have e1 : decide ((n1 : Int) > 24) = false := decide_eq_false (by omega)
          have e2 : decide ((24 : Int) < n1) = false := decide_eq_false (by omega)
          go_wp2
          go_round
          case rel => exact ⟨k + 1, by omega, by omega, by go_num, fun j y hj hy => by
            rcases Nat.lt_or_ge j k with h | h
            · exact Hm.out j y h hy
            · obtain rfl : j = k := by omega
              rw [Hx.out] at hy; cases hy; rw [H1.out]; exact h24⟩
          case measure => simp [intOf]; omega
        · have e1 : decide ((n1 : Int) > 24) = true := decide_eq_true (by omega)
          have e2 : decide ((24 : Int) < n1) = true := decide_eq_true (by omega)
          have Hf : Hid (small41 xs = false) := Bool.eq_false_iff.2 fun h => by
            have := (small41_ok h).2 x (List.mem_iff_getElem?.2 ⟨_, Hx.out⟩)
            rw [H1.out] at this; omega
          go_wp2
          go_ret
          exact ⟨ret_bool Hf.out.symm, HW.out⟩
      · have Hf : Hid (small41 xs = false) := Bool.eq_false_iff.2 fun h => by
          have := (small41_ok h).1; have := Hna.out; omega
        have e1 : decide (n ≤ 12) = false := decide_eq_false (by omega)
        have e2 : decide ((n : Int) ≤ 12) = false := decide_eq_false (by omega)
        go_wp2
        go_ret
        exact ⟨by rw [Hf.out]; first | rfl | (simp; omega), hw⟩
    · obtain rfl : k = n := by omega
      have Hf : Hid (small41 xs = decide (k ≤ 12)) := by
        have h : xs.all (fun l => decide (l.cells.length ≤ 24)) = true := by
          rw [List.all_eq_true]
          intro x hx
          obtain ⟨j, hj⟩ := List.mem_iff_getElem?.1 hx
          exact decide_eq_true (Hm.out j x (by have := Hna.out; have := (List.getElem?_eq_some_iff.1 hj).1; omega) hj)
        unfold Hid small41; rw [h, ← Hna.out]; simp
      go_wp2
      go_ret
      exact ⟨by rw [Hf.out]; first | rfl | (simp; omega), hw⟩

set_option maxHeartbeats 4000000 in
theorem row41_any (s : ByteArray) (hs : s.size ≤ 100000) (w : World) :
    Calls Tryd.prog 24 #[.string s] w fun e w' => ∃ v, e = .returned v ∧ cellEl.Own (fun b => w.heap.size ≤ b) w' v (chL s) ∧ Sees w w' := by
  go_enter Tryd.func24, Tryd.ntmps24
  go_wp2
  go_loopw [3, 4] (fun v i wr => ∃ k : Nat, k ≤ s.size ∧ i = .int .i64 k ∧ cellEl.Own (fun b => w.heap.size ≤ b) wr v ((chL s).take k) ∧ Sees w wr) (fun v i _ => s.size - (intOf i).toNat)
  case atStart => exact ⟨0, by omega, rfl, El.Own.nil _ _, Sees.refl _⟩
  case round =>
    obtain ⟨k, hk, rfl, ho, hS⟩ := hrel
    by_cases hlt : k < s.size
    · have k1 : (k : Int) < s.size := by omega
      obtain ⟨a3, c3, rfl, _⟩ := ho.slice
      rw [List.length_take, chL_len, Nat.min_eq_left hk] at ho ⊢
      have hcb : (s.data.toList)[k]? = some s[k] := by
        rw [List.getElem?_eq_getElem (by rw [← Lib.size_eq]; exact hlt)]
        rfl
      have hch : (chL s)[k]? = some (chC s[k]) := by unfold chL; rw [List.getElem?_map, hcb]; rfl
      have h32 : wrap32 (s[k].toNat : Int) = s[k].toNat := by have := s[k].toNat_lt; unfold wrap32; omega
      have htk : (chL s).take (k + 1) = (chL s).take k ++ [chC s[k]] := by rw [List.take_add_one, hch]; rfl
      have HTK := Lib.hid htk
      have hll : ((chL s).take k).length = k := by rw [List.length_take, chL_len]; omega
      have HL2 := Lib.hid (show ((chL s).take k).length + [chC s[k]].length ≤ 100000000 by rw [hll]; simp; omega)
      obtain ⟨cv, hcv⟩ : ∃ cv, cv = #[Value.int .i32 (s[k].toNat : Int), .int .i32 0, .int .i32 0, .int .i32 0, .int .i64 1, .int .i64 0, .int .u8 0, .int .u8 0, .int .u8 0, .int .u8 0, .int .i64 0, .int .u8 0, .int .u8 0, .int .u8 0, .int .u8 0, .int .u8 0] := ⟨_, rfl⟩
      have hrow := heap_alloc_new wr (.cells #[Value.int .i32 (s[k].toNat : Int), .int .i32 0, .int .i32 0, .int .i32 0, .int .i64 1, .int .i64 0, .int .u8 0, .int .u8 0, .int .u8 0, .int .u8 0, .int .i64 0, .int .u8 0, .int .u8 0, .int .u8 0, .int .u8 0, .int .u8 0] 85)
      have sA : Sees wr (wr.alloc (.cells #[Value.int .i32 (s[k].toNat : Int), .int .i32 0, .int .i32 0, .int .i32 0, .int .i64 1, .int .i64 0, .int .u8 0, .int .u8 0, .int .u8 0, .int .u8 0, .int .i64 0, .int .u8 0, .int .u8 0, .int .u8 0, .int .u8 0, .int .u8 0] 85)) := (Sees.refl wr).alloc _
      have HO := Lib.hid (ho.cut.sees sA)
      have Hrow := Lib.hid hrow
      have HF := Lib.hid (show ∀ b, (w.heap.size ≤ b ∧ b < wr.heap.size) → b < (wr.alloc (.cells #[Value.int .i32 (s[k].toNat : Int), .int .i32 0, .int .i32 0, .int .i32 0, .int .i64 1, .int .i64 0, .int .u8 0, .int .u8 0, .int .u8 0, .int .u8 0, .int .i64 0, .int .u8 0, .int .u8 0, .int .u8 0, .int .u8 0, .int .u8 0] 85)).heap.size from fun b hb => by rw [World.size_alloc]; omega)
      have HS := Lib.hid (hS.trans sA)
      have HLL := Lib.hid hll
      have HH := Lib.hid hS.size
      clear hrow sA hll htk hch hcb ho hS hcv cv
      go_wp2_with (at_builtin; refine El.wpList_append_own (v := .slice a3 k c3) typedCell rfl (.tmp 11) (.tmp 17) rfl (by go_simp) HO.out ⟨wr.heap.size, 0, none⟩ 1 1 (by go_simp) (chC s[k]).vals [chC s[k]] (fun _ => False) (El.ownIn_one (E := cellEl) rfl) rfl (fun j u hu => El.row_cells Hrow.out j u hu) HF.out (fun b hb => hb.elim) HL2.out ?_; intro v7 w7 ho7 hk7; obtain ⟨a7, c7, rfl, _⟩ := ho7.slice; obtain ⟨j7, hj7⟩ : ∃ j7, j7 = ((chL s).take k ++ [chC s[k]]).length := ⟨_, rfl⟩; rw [← hj7] at ho7 ⊢; have HJ7 := Lib.hid hj7; have HO7 := Lib.hid ho7; have HK7 := Lib.hid hk7; clear hj7 ho7 hk7)
      refine ⟨⟨k + 1, by omega, by go_num, ?_, El.keep_new HS.out HK7.out (fun g hg => (HO.out.base hg).1.1)⟩, by simp [intOf]; omega⟩
      rw [HTK.out]
      refine HO7.out.mono fun b _ hb => ?_
      rcases hb with hb | hb | hb
      · exact hb.1
      · exact hb.elim
      · rw [World.size_alloc] at hb; have := HH.out; omega
    · obtain rfl : k = s.size := by omega
      go_wp2
      go_ret
      refine ⟨_, rfl, ?_, hS⟩
      rw [List.take_of_length_le (by rw [chL_len]; exact Nat.le_refl _)] at ho
      exact ho
set_option maxHeartbeats 1000000 in
theorem at41_any (l c : Int) (w : World) : Calls Tryd.prog 18 #[.int .i64 l, .int .i64 c] w fun e w' => e = .returned (.agg #[.int .i64 l, .int .i64 c]) ∧ Sees w w' := by
  have h : PlAt (w.alloc (.cells #[.int .i64 l, .int .i64 c] 25)) w.heap.size l c := heap_alloc_new w _
  have H := Lib.hid h
  clear h
  go_enter Tryd.func18, Tryd.ntmps18
  go_wp2
  exact bodyPost_ret (results_one rfl rfl (run_loadPl H.out)) rfl ⟨rfl, (Sees.refl w).alloc _⟩
set_option maxHeartbeats 2000000 in
theorem index_out (F : Nat → Prop) (v : Value) (ls : List Ln) (w : World) (ha : lnEl.Rd F w v ls) (hn : ls.length ≤ 1000000) (first l c : Int) (h0 : 0 ≤ first) (h1 : first ≤ 1099511627776) (hi : inP ls first l c = false) :
    Calls Tryd.prog 12 #[v, .int .i64 first, .agg #[.int .i64 l, .int .i64 c]] w fun e w' => e = .returned (.int .i64 (-1)) ∧ Sees w w' := by
  obtain ⟨a, cp, rfl, _⟩ := ha.slice'
  have hlen : IntKind.i64.wrap (first + (ls.length : Int)) = first + (ls.length : Int) := IntWalk.i64_in _ (by omega)
  unfold inP at hi
  have hI := Lib.hid hi
  rcases Nat.eq_zero_or_pos ls.length with hz | hz
  · rw [hz] at hlen ⊢
    have HS : Hid (Sees w (w.alloc (.cells #[.int .i64 l, .int .i64 c] 25))) := (Sees.refl w).alloc _
    clear ha hi hI hz hlen
    go_enter Tryd.func12, Tryd.ntmps12
    go_upto_region 1 with fail
    refine wp_world fun W1 hW1 => ?_
    have S1 : Hid (Sees w W1) := by subst hW1; exact HS.out
    clear hW1 HS
    go_wp2
    refine wp_region_quiet_below (by kernel_rfl) (by kernel_rfl) ?_
    repeat (first | go_big_quiet_skip | (go_big_quiet_want; go_big_quiet_op; go_big_quiet_on))
    refine wpQuiet_nil ?_; intro w2 hw2'; have hw2 := regrown_sees hw2'; clear hw2'
    go_wp2
    go_ret
    exact ⟨rfl, S1.out.trans hw2⟩
  · obtain ⟨b1, o1, x, a1, m1, rfl, _, hx, _, y0, _, _⟩ := ha.line hz
    rw [Nat.zero_mul, Nat.add_zero] at y0
    have hcol := cols_of hx
    rw [← hcol] at y0
    generalize cols ls = M at *
    generalize ls.length = n at *
    have hn0 : ((n : Int) == 0) = false := by rw [beq_eq_false_iff_ne]; omega
    clear ha hx hcol hi
    go_enter Tryd.func12, Tryd.ntmps12
    go_upto_region 1 with fail
    refine wp_world fun W1 hW1 => ?_
    have q0 : W1.cell? ⟨w.heap.size, 0, none⟩ = some (.int .i64 l) := by subst hW1; simp
    have q1 : W1.cell? ⟨w.heap.size, 1, none⟩ = some (.int .i64 c) := by subst hW1; simp
    have s1 : Sees w W1 := by subst hW1; exact (Sees.refl w).alloc _
    have q2 := s1.cell y0
    have S1 := Lib.hid s1
    have g0 := fun d os => (sees_grow W1 d os).cell q0
    have g1 := fun d os => (sees_grow W1 d os).cell q1
    have g2 := fun d os => (sees_grow W1 d os).cell q2
    clear hW1 s1 q0 q1 q2 y0
    rcases Bool.eq_false_or_eq_true (decide (l < first)) with d1 | d1
    · go_wp2
      refine wp_region_quiet_below (by kernel_rfl) (by kernel_rfl) ?_
      repeat (first | go_big_quiet_skip | (go_big_quiet_want; go_big_quiet_op; go_big_quiet_on))
      refine wpQuiet_nil ?_; intro w2 hw2'; have hw2 := regrown_sees hw2'; clear hw2'
      go_wp2
      go_ret
      exact ⟨rfl, S1.out.trans hw2⟩
    rcases Bool.eq_false_or_eq_true (decide (l ≥ first + (n : Int))) with d2 | d2
    · go_wp2
      refine wp_region_quiet_below (by kernel_rfl) (by kernel_rfl) ?_
      repeat (first | go_big_quiet_skip | (go_big_quiet_want; go_big_quiet_op; go_big_quiet_on))
      refine wpQuiet_nil ?_; intro w2 hw2'; have hw2 := regrown_sees hw2'; clear hw2'
      go_wp2
      go_ret
      exact ⟨rfl, S1.out.trans hw2⟩
    rcases Bool.eq_false_or_eq_true (decide (c < 0)) with d3 | d3
    · go_wp2
      refine wp_region_quiet_below (by kernel_rfl) (by kernel_rfl) ?_
      repeat (first | go_big_quiet_skip | (go_big_quiet_want; go_big_quiet_op; go_big_quiet_on))
      refine wpQuiet_nil ?_; intro w2 hw2'; have hw2 := regrown_sees hw2'; clear hw2'
      go_wp2
      go_ret
      exact ⟨rfl, S1.out.trans hw2⟩
    rcases Bool.eq_false_or_eq_true (decide (c ≥ (M : Int))) with d4 | d4
    · go_wp2
      refine wp_region_quiet_below (by kernel_rfl) (by kernel_rfl) ?_
      repeat (first | go_big_quiet_skip | (go_big_quiet_want; go_big_quiet_op; go_big_quiet_on))
      refine wpQuiet_nil ?_; intro w2 hw2'; have hw2 := regrown_sees hw2'; clear hw2'
      go_wp2
      go_ret
      exact ⟨rfl, S1.out.trans hw2⟩
    exfalso
    have hi := hI.out
    rw [decide_eq_false_iff_not] at d1 d2 d3 d4
    rw [decide_eq_true (show first ≤ l by omega), decide_eq_true (show l < first + (n : Int) by omega), decide_eq_true (show (0 : Int) ≤ c by omega), decide_eq_true (show c < (M : Int) by omega)] at hi
    cases hi
set_option maxHeartbeats 2000000 in
theorem index_in (F : Nat → Prop) (v : Value) (ls : List Ln) (w : World) (first : Int) (h : ShF F w v ls first) (i : Nat) (hi : i < ls.length * cols ls) :
    Calls Tryd.prog 12 #[v, .int .i64 first, plV (plI ls first i)] w fun e w' => e = .returned (.int .i64 (i : Int)) ∧ Sees w w' := by
  obtain ⟨hM, hM2, hr, hc, _⟩ := h.row hi
  obtain ⟨_, hf0, hf1⟩ := rowsOk_ok h.ok
  have hlen := h.len
  have hdm := Nat.div_add_mod' i (cols ls)
  obtain ⟨a, cp, rfl, _⟩ := h.rd.slice'
  obtain ⟨b1, o1, x, a1, m1, rfl, _, hx, _, y0, _, _⟩ := h.rd.line (Nat.lt_of_le_of_lt (Nat.zero_le _) hr)
  rw [Nat.zero_mul, Nat.add_zero] at y0
  have hcol := cols_of hx
  rw [← hcol] at y0
  unfold plI
  clear h hx hcol hi
  generalize cols ls = M at *
  generalize ls.length = n at *
  generalize i / M = r at *
  generalize i % M = c at *
  have hrm : r * M ≤ 1000 * 1000 := Nat.mul_le_mul (by omega) hM2
  have k1 : IntKind.i64.wrap (first + (n : Int)) = first + (n : Int) := IntWalk.i64_in _ (by omega)
  have k2 : IntKind.i64.wrap (first + (r : Int) - first) = (r : Int) := by rw [IntWalk.i64_in _ (by omega)]; omega
  have k3 : IntKind.i64.wrap ((r : Int) * (M : Int)) = ((r * M : Nat) : Int) := by rw [← Int.natCast_mul]; exact IntWalk.i64_in _ (by omega)
  generalize r * M = P at *
  have k4 : IntKind.i64.wrap ((P : Int) + (c : Int)) = (i : Int) := by rw [IntWalk.i64_in _ (by omega)]; omega
  have hn0 : ((n : Int) == 0) = false := by rw [beq_eq_false_iff_ne]; omega
  have d1 : decide (first + (r : Int) < first) = false := decide_eq_false (by omega)
  have d2 : decide (first + (r : Int) ≥ first + (n : Int)) = false := decide_eq_false (by omega)
  have d3 : decide ((c : Int) < 0) = false := decide_eq_false (by omega)
  have d4 : decide ((c : Int) ≥ (M : Int)) = false := decide_eq_false (by omega)
  have d5 : decide (n ≤ r) = false := decide_eq_false (by omega)
  have d6 : decide ((n : Int) ≤ (r : Int)) = false := decide_eq_false (by omega)
  have d7 : decide (M ≤ c) = false := decide_eq_false (by omega)
  have hnp : 0 < n := by omega
  clear hdm hrm
  go_enter Tryd.func12, Tryd.ntmps12
  go_upto_region 1 with fail
  refine wp_world fun W1 hW1 => ?_
  have q0 : W1.cell? ⟨w.heap.size, 0, none⟩ = some (.int .i64 (first + (r : Int))) := by subst hW1; simp
  have q1 : W1.cell? ⟨w.heap.size, 1, none⟩ = some (.int .i64 (c : Int)) := by subst hW1; simp
  have s1 : Sees w W1 := by subst hW1; exact (Sees.refl w).alloc _
  have q2 := s1.cell y0
  have S1 := Lib.hid s1
  have Q0 := Lib.hid q0
  have Q1 := Lib.hid q1
  have Q2 := Lib.hid q2
  have g0 := fun d os => (sees_grow W1 d os).cell q0
  have g1 := fun d os => (sees_grow W1 d os).cell q1
  have g2 := fun d os => (sees_grow W1 d os).cell q2
  clear hW1 s1 q0 q1 q2 y0
  go_wp2
  refine wp_region_quiet_below (by kernel_rfl) (by kernel_rfl) ?_
  repeat (first | go_big_quiet_skip | (go_big_quiet_want; go_big_quiet_op; go_big_quiet_on))
  refine wpQuiet_nil ?_; intro w2 hw2'; have hw2 := regrown_sees hw2'; clear hw2'
  have q0 := hw2.cell Q0.out
  have q1 := hw2.cell Q1.out
  have q2 := hw2.cell Q2.out
  have S2 := Lib.hid (S1.out.trans hw2)
  clear g0 g1 g2 hw2
  have g0 := fun d os => (sees_grow w2 d os).cell q0
  have g1 := fun d os => (sees_grow w2 d os).cell q1
  have g2 := fun d os => (sees_grow w2 d os).cell q2
  clear q0 q1 q2
  go_wp2
  refine wp_region_quiet_below (by kernel_rfl) (by kernel_rfl) ?_
  repeat (first | go_big_quiet_skip | (go_big_quiet_want; go_big_quiet_op; go_big_quiet_on))
  refine wpQuiet_nil ?_
  intro w3 hw3'
  have hw3 := regrown_sees hw3'
  clear hw3'
  go_wp2
  go_ret
  exact ⟨rfl, S2.out.trans hw3⟩
theorem tq41 (i M : Nat) : (i : Int).tdiv (M : Int) = ((i / M : Nat) : Int) := (Int.ofNat_tdiv i M).symm
theorem tr41 (i M : Nat) : (i : Int).tmod (M : Int) = ((i % M : Nat) : Int) := (Int.ofNat_tmod i M).symm
set_option maxHeartbeats 2000000 in
theorem together_no (F : Nat → Prop) (v : Value) (ls : List Ln) (w : World) (first : Int) (h : ShF F w v ls first) (hne : 0 < ls.length) :
    Calls Tryd.prog 45 #[v, .int .i64 (-1)] w fun e w' => e = .returned (.bool false) ∧ Sees w w' := by
  obtain ⟨a, cp, rfl, _⟩ := h.rd.slice'
  obtain ⟨b1, o1, x, a1, m1, rfl, _, hx, _, y0, _, _⟩ := h.rd.line hne
  rw [Nat.zero_mul, Nat.add_zero] at y0
  have hw := Sees.refl w
  generalize ls.length = n at *
  clear h hx
  go_enter Tryd.func45, Tryd.ntmps45
  go_wp2
  go_ret
  exact ⟨rfl, hw⟩
set_option maxHeartbeats 4000000 in
theorem together_at (F : Nat → Prop) (v : Value) (ls : List Ln) (w : World) (first : Int) (h : ShF F w v ls first) (i : Nat) (hi : i < ls.length * cols ls) :
    Calls Tryd.prog 45 #[v, .int .i64 (i : Int)] w fun e w' => e = .returned (.bool (tg ls i)) ∧ Sees w w' := by
  obtain ⟨hM, hM2, hr, hc, x, hx, hxl, _⟩ := h.row hi
  have hlen := h.len
  obtain ⟨a, cp, rfl, _⟩ := h.rd.slice'
  obtain ⟨b1, o1, z, a1, m1, rfl, _, hz, _, y0, _, _⟩ := h.rd.line (Nat.lt_of_le_of_lt (Nat.zero_le _) hr)
  rw [Nat.zero_mul, Nat.add_zero] at y0
  have hcol := cols_of hz
  rw [← hcol] at y0
  obtain ⟨b2, o2, x', a2, m2, he, _, hx', _, _, z1, _⟩ := h.rd.line hr
  cases he
  obtain rfl : x' = x := Option.some.inj (hx'.symm.trans hx)
  have hsoft := softAt_of hx
  have ht : tg ls i = (decide (i + 1 < ls.length * cols ls) && (decide ((i + 1) % cols ls ≠ 0) || softAt ls (i / cols ls))) := rfl
  have hq := tq41 i (cols ls)
  have hrm := tr41 (i + 1) (cols ls)
  have hmul : ls.length * cols ls ≤ 1000 * 1000 := Nat.mul_le_mul hlen hM2
  have hml := Nat.mod_lt (i + 1) hM
  rw [hsoft] at ht
  have HT := Lib.hid ht
  have hw := Sees.refl w
  have k1 : IntKind.i64.wrap ((i : Int) + 1) = ((i + 1 : Nat) : Int) := by rw [IntWalk.i64_in _ (by omega)]; omega
  have k2 : IntKind.i64.wrap ((cols ls : Int) * (ls.length : Int)) = ((ls.length * cols ls : Nat) : Int) := by rw [Int.mul_comm, ← Int.natCast_mul]; exact IntWalk.i64_in _ (by omega)
  generalize x'.soft = so at *
  clear h hx hx' hz hcol hsoft ht hi hxl
  generalize tg ls i = T at *
  generalize cols ls = M at *
  generalize ls.length = n at *
  generalize hQ : i / M = q at *
  generalize hR : (i + 1) % M = r at *
  generalize hN : n * M = N at *
  obtain ⟨i1, hi1⟩ : ∃ i1, i1 = i + 1 := ⟨_, rfl⟩
  rw [← hi1] at k1 hrm HT
  have HI := Lib.hid hi1
  have k3 : IntKind.i64.wrap (q : Int) = (q : Int) := IntWalk.i64_in _ (by omega)
  have k4 : ((M : Int) == 0) = false := by rw [beq_eq_false_iff_ne]; omega
  have k5 : decide ((i : Int) ≥ 0) = true := decide_eq_true (by omega)
  have k6 : M ≠ 0 := by omega
  have k7 : IntKind.i64.wrap (r : Int) = (r : Int) := IntWalk.i64_in _ (by omega)
  have hnp : 0 < n := by omega
  clear hQ hR hN hmul hlen hc hM hi1 hml
  go_enter Tryd.func45, Tryd.ntmps45
  rcases Bool.eq_false_or_eq_true (decide ((i1 : Int) < (N : Int))) with d1 | d1
  · have d1' : decide (i1 < N) = true := by rw [decide_eq_true_eq] at d1 ⊢; omega
    rcases Bool.eq_false_or_eq_true ((r : Int) == 0) with d2 | d2
    · have d2' : decide (r ≠ 0) = false := by rw [beq_iff_eq] at d2; exact decide_eq_false (by omega)
      have d3 : r = 0 := by rw [beq_iff_eq] at d2; omega
      go_wp2
      go_ret
      exact ⟨by rw [HT.out, d1', d2']; simp, hw⟩
    · have d2' : decide (r ≠ 0) = true := by rw [beq_eq_false_iff_ne] at d2; exact decide_eq_true (by omega)
      have d3 : ¬ (r = 0) := by rw [beq_eq_false_iff_ne] at d2; omega
      have d4 : ((r : Int) != 0) = true := by rw [bne_of d2]; rfl
      go_wp2
      go_ret
      exact ⟨by rw [HT.out, d1', d2']; simp, hw⟩
  · have d1' : decide (i1 < N) = false := by rw [decide_eq_false_iff_not] at d1 ⊢; omega
    go_wp2
    go_ret
    exact ⟨by rw [HT.out, d1']; simp, hw⟩
end Go.Proofs.YtooiiefipdjbjaaDoor

namespace Go.Proofs.YtooiiefipdjbjaaDoor
set_option linter.unusedVariables false
set_option linter.unusedSimpArgs false
open Go.RowKit Go.Shelf
attribute [local go_sem] Oper.semAt_some

def zC : Cell := ⟨0, 0, 0, 0, 0, 0, 0, 0, 0, 0, 0, 0, 0, 0, 0, 0⟩
set_option maxHeartbeats 8000000 in
set_option maxRecDepth 100000 in
theorem wordy41_at (F : Nat → Prop) (v : Value) (ls : List Ln) (w : World) (first : Int) (h : ShF F w v ls first) (i : Nat) (hi : i < ls.length * cols ls) :
    Calls Tryd.prog 44 #[v, .int .i64 (i : Int)] w fun e w' => e = .returned (.bool (wd ls i)) ∧ Sees w w' := by
  obtain ⟨hM, hM2, hr, hc, x, hx, hxl, hxo⟩ := h.row hi
  have hlen := h.len
  obtain ⟨a, cp, rfl, _⟩ := h.rd.slice'
  obtain ⟨d, hd⟩ : ∃ d, x.cells[i % cols ls]? = some d := ⟨_, List.getElem?_eq_getElem (by rw [hxl]; exact hc)⟩
  obtain ⟨e', he, hsh, hew⟩ : ∃ e', (if d.width = 0 then 1 ≤ i % cols ls ∧ x.cells[i % cols ls - 1]? = some e' else e' = d) ∧ shC x.cells (i % cols ls) = some e' ∧ e'.width ≠ 0 := by
    unfold shC
    rw [hd]
    by_cases hw : d.width = 0
    · obtain ⟨h1, e, he, he2⟩ := row_sp (lnOk_rowOk hxo) hd hw
      refine ⟨e, ?_, ?_, by omega⟩
      · rw [if_pos hw]; exact ⟨h1, he⟩
      · simp only []; rw [if_pos hw]; exact he
    · refine ⟨d, ?_, ?_, hw⟩
      · rw [if_neg hw]
      · simp only []; rw [if_neg hw]
  obtain ⟨b, t, htx⟩ := txt_some hew
  have hwd : wd ls i = wdI (b.toNat : Int) := by
    unfold wd wdL
    rw [hx]
    simp only []
    rw [hsh]
    simp only []
    rw [htx]
    rfl
  obtain ⟨X, hXe⟩ : ∃ X : ByteArray, X = ⟨e'.txt.toArray⟩ := ⟨_, rfl⟩
  have hX1 : 0 < X.size := by
    rw [hXe, htx]
    show 0 < (b :: t).toArray.size
    simp
  have hP : wd ls i = wdI ((X[0]).toNat : Int) := by
    rw [hwd]
    subst hXe
    congr 2
    simp only [htx]
    rfl
  obtain ⟨b1, o1, z, a0, m0, rfl, hfb1, hz, _, y0, _, _⟩ := h.rd.line (Nat.lt_of_le_of_lt (Nat.zero_le _) hr)
  rw [Nat.zero_mul, Nat.add_zero] at y0
  have hcol := cols_of hz
  rw [← hcol] at y0
  obtain ⟨b2, o2, x', a1, m1, hee, _, hx', _, z0, z1, yc⟩ := h.rd.line hr
  cases hee
  obtain rfl : x' = x := Option.some.inj (hx'.symm.trans hx)
  obtain ⟨b5, o5, d', rfl, hb5, hd', hat⟩ := yc.cell (by rw [hxl]; exact hc)
  obtain rfl : d' = d := Option.some.inj (hd'.symm.trans hd)
  have hlt5 := h.lt b5 hb5
  have HE : Hid (d'.width = 0 → 1 ≤ i % cols ls ∧ CellAt w b5 (o5 + (i % cols ls - 1) * 16) e') := fun hw => by
    rw [if_pos hw] at he
    obtain ⟨b6, o6, e2, e6, _, he2, hat2⟩ := yc.cell (show i % cols ls - 1 < x'.cells.length by omega)
    cases e6
    obtain rfl : e2 = e' := Option.some.inj (he2.symm.trans he.2)
    exact ⟨he.1, hat2⟩
  have HE2 : Hid (d'.width ≠ 0 → e' = d') := fun hw => by rw [if_neg hw] at he; exact he
  have hq := tq41 i (cols ls)
  have hrm := tr41 i (cols ls)
  rw [hxl] at z0
  have HP := Lib.hid hP
  have HAT := Lib.hid hat
  have Z0 := Lib.hid z0
  have KT : Hid (∀ W, Calls Tryd.prog 41 #[e'.val] W fun e w' => e = .returned (.string X) ∧ Sees W w') := fun W => by rw [hXe]; exact ctext_any e' W
  have HLT5 := Lib.hid hlt5
  have HLT1 := Lib.hid (h.lt b1 hfb1)
  clear h hz hcol hx hx' hxl hd hd' hat he hsh hew hwd hP htx z0 z1 yc hb5 hi hXe hlt5 hfb1
  generalize wd ls i = P at *
  generalize cols ls = M at *
  generalize ls.length = n at *
  generalize hQ : i / M = q at *
  generalize hR : i % M = c at *
  have k3 : IntKind.i64.wrap (q : Int) = (q : Int) := IntWalk.i64_in _ (by omega)
  have k4 : ((M : Int) == 0) = false := by rw [beq_eq_false_iff_ne]; omega
  have k6 : M ≠ 0 := by omega
  have k7 : IntKind.i64.wrap (c : Int) = (c : Int) := IntWalk.i64_in _ (by omega)
  have hnp : 0 < n := by omega
  have hX0 : (0 : Int) < (X.size : Int) := by omega
  have hX2 : ((X.size : Int) == 0) = false := by rw [beq_eq_false_iff_ne]; omega
  have hX3 : ¬ (X.size = 0) := by omega
  clear hQ hR
  go_enter Tryd.func44, Tryd.ntmps44
  go_upto_region 2 with fail
  refine wpH_go (fun _ => False) 14 (by kernel_rfl) (by kernel_rfl) (by rfl) (fun hB w9 hs9 => ?_)
  have S9 := Lib.hid hs9
  have Z09 := Lib.hid (hs9.cell Z0.out)
  have HAT9 := Lib.hid (HAT.out.sees hs9)
  clear hs9 y0
  have hS0 : Keeps (fun _ => False) w9 w9 := Keeps.refl _ w9
  refine wpH_take (i := 0) (v := .slice (some ⟨b1, o1, none⟩) n cp) hB (by rfl) (by kernel_rfl) (fun _ _ _ _ _ h => h) (by rfl) hS0 (fun W hI => by clear hI; go_simp) ?_; (try simp only [Act.put, List.setIfInBounds_toArray, List.set_cons_zero, List.set_cons_succ])
  refine wpH_take (i := 1) (v := .int .i64 (i : Int)) hB (by rfl) (by kernel_rfl) (fun _ _ _ _ _ h => h) (by rfl) hS0 (fun W hI => by clear hI; go_simp) ?_; (try simp only [Act.put, List.setIfInBounds_toArray, List.set_cons_zero, List.set_cons_succ])
  refine wpH_take (i := 2) (v := .int .i64 (M : Int)) hB (by rfl) (by kernel_rfl) (fun _ _ _ _ _ h => h) (by rfl) hS0 (fun W hI => by clear hI; go_simp) ?_; (try simp only [Act.put, List.setIfInBounds_toArray, List.set_cons_zero, List.set_cons_succ])
  refine wpH_take (i := 3) (v := .int .i64 (q : Int)) hB (by rfl) (by kernel_rfl) (fun _ _ _ _ _ h => h) (by rfl) hS0 (fun W hI => by clear hI; go_simp) ?_; (try simp only [Act.put, List.setIfInBounds_toArray, List.set_cons_zero, List.set_cons_succ])
  refine wpH_take (i := 4) (v := .pointer (some ⟨b1, o1 + q * 2, none⟩)) hB (by rfl) (by kernel_rfl) (fun _ _ _ _ _ h => h) (by rfl) hS0 (fun W hI => by clear hI; go_simp) ?_; (try simp only [Act.put, List.setIfInBounds_toArray, List.set_cons_zero, List.set_cons_succ])
  refine wpH_take (i := 5) (v := .pointer (some ⟨b1, o1 + q * 2, none⟩)) hB (by rfl) (by kernel_rfl) (fun _ _ _ _ _ h => h) (by rfl) hS0 (fun W hI => by clear hI; go_simp) ?_; (try simp only [Act.put, List.setIfInBounds_toArray, List.set_cons_zero, List.set_cons_succ])
  refine wpH_take (i := 6) (v := .slice (some ⟨b5, o5, none⟩) M m1) hB (by rfl) (by kernel_rfl) (fun _ _ _ _ _ h => h) (by rfl) hS0 (fun W hI => by have q0 := hI.cell (fun h => h) Z09.out; go_simp) ?_; (try simp only [Act.put, List.setIfInBounds_toArray, List.set_cons_zero, List.set_cons_succ])
  refine wpH_take (i := 7) (v := .int .i64 (i : Int)) hB (by rfl) (by kernel_rfl) (fun _ _ _ _ _ h => h) (by rfl) hS0 (fun W hI => by clear hI; go_simp) ?_; (try simp only [Act.put, List.setIfInBounds_toArray, List.set_cons_zero, List.set_cons_succ])
  refine wpH_take (i := 8) (v := .int .i64 (M : Int)) hB (by rfl) (by kernel_rfl) (fun _ _ _ _ _ h => h) (by rfl) hS0 (fun W hI => by clear hI; go_simp) ?_; (try simp only [Act.put, List.setIfInBounds_toArray, List.set_cons_zero, List.set_cons_succ])
  refine wpH_take (i := 9) (v := .int .i64 (c : Int)) hB (by rfl) (by kernel_rfl) (fun _ _ _ _ _ h => h) (by rfl) hS0 (fun W hI => by clear hI; go_simp) ?_; (try simp only [Act.put, List.setIfInBounds_toArray, List.set_cons_zero, List.set_cons_succ])
  refine wpH_take (i := 10) (v := .pointer (some ⟨b5, o5 + c * 16, none⟩)) hB (by rfl) (by kernel_rfl) (fun _ _ _ _ _ h => h) (by rfl) hS0 (fun W hI => by clear hI; go_simp) ?_; (try simp only [Act.put, List.setIfInBounds_toArray, List.set_cons_zero, List.set_cons_succ])
  refine wpH_take (i := 11) (v := d'.val) hB (by rfl) (by kernel_rfl) (fun _ _ _ _ _ h => h) (by rfl) hS0 (fun W hI => exec_load rfl (by first | rfl | go_simp) (run_loadCell (cell_keeps HAT9.out hI (fun h => h)))) ?_
  (try simp only [Act.put, List.setIfInBounds_toArray, List.set_cons_zero, List.set_cons_succ])
  refine wpH_one (i := 12) (by kernel_rfl) (wpOp_val (v := .pointer (some ⟨w9.heap.size, 0, none⟩)) (w' := w9.alloc (.cells zC.vals.toArray 85)) (by rfl) (wanted_none (by rfl) _) (by go_simp; rfl) ⟨hS0.trans (Keeps.of_sees ((Sees.refl _).alloc _)), ?_⟩)
  (try simp only [Act.put, List.setIfInBounds_toArray, List.set_cons_zero, List.set_cons_succ])
  obtain ⟨w10, hw10⟩ : ∃ w10, w10 = w9.alloc (.cells zC.vals.toArray 85) := ⟨_, rfl⟩
  have s10 : Sees w9 w10 := by rw [hw10]; exact (Sees.refl _).alloc _
  have hnew : w10.heap[w9.heap.size]? = some (.cells zC.vals.toArray 85 (0, 0)) := by rw [hw10]; exact heap_alloc_new w9 _
  rw [← hw10]
  obtain ⟨b4, hb4⟩ : ∃ b4, b4 = w9.heap.size := ⟨_, rfl⟩
  rw [← hb4] at hnew ⊢
  have HB4 : Hid (w.heap.size ≤ b4) := by unfold RowKit.Hid; rw [hb4]; exact S9.out.size
  have HNE : Hid (b5 ≠ b4) := by have := HLT5.out; have := HB4.out; unfold RowKit.Hid; omega
  have HNE9 : Hid (w9.heap.size ≤ b4) := by unfold RowKit.Hid; omega
  have S10 := Lib.hid s10
  have HNEW := Lib.hid hnew
  clear hw10 hb4 s10 hnew hS0
  refine wpH_one (i := 13) (by kernel_rfl) (wpOp_skip (w' := stC w10 b4 d') (by rfl) (wanted_none (by rfl) _) (exec_store (a := .pointer (some ⟨b4, 0, none⟩)) (v := d'.val) rfl (by go_simp) (by go_simp) (run_storeC HNEW.out (by rfl) d')) ⟨by
    unfold stC
    exact ((Keeps.of_sees (F := fun _ => False) S10.out).setRow' HNE9.out _), ?_⟩)
  (try simp only [Act.put, List.setIfInBounds_toArray, List.set_cons_zero, List.set_cons_succ])
  refine wpH_end (by kernel_rfl) ?_
  have CD := Lib.hid (stC_at HNEW.out d')
  have HC : Hid ((stC w10 b4 d').heap[b4]? = some (.cells d'.vals.toArray 85 (0, 0))) := by
    have q := HNEW.out
    unfold RowKit.Hid
    simp [stC, World.setRow, Array.getElem?_modify, q]
  have SD : Hid (Sees w (stC w10 b4 d')) := by
    unfold RowKit.Hid stC
    exact S9.out.trans (((Keeps.of_sees (F := fun _ => False) S10.out).setRow' HNE9.out _).sees_end (fun _ _ h => h))
  clear hB
  obtain ⟨W3, hW3⟩ : ∃ W3, W3 = stC w10 b4 d' := ⟨_, rfl⟩
  rw [← hW3] at CD HC SD ⊢
  clear hW3
  have hwd := CD.out.all.2.2.2.2.1
  by_cases hw0 : d'.width = 0
  · have hwb : (d'.width == 0) = true := by rw [hw0]; rfl
    obtain ⟨hj1, hate⟩ := HE.out hw0
    have HATE := Lib.hid hate
    have hjw : IntKind.i64.wrap ((c : Int) - 1) = (c : Int) - 1 := IntWalk.i64_in _ (by omega)
    have hji0 : (0 : Int) ≤ (c : Int) - 1 := by omega
    have hji : (c : Int) - 1 < (M : Int) := by omega
    have hjt : ((c : Int) - 1).toNat = c - 1 := by omega
    have hjn : ¬ ((c : Int) < 1) := by omega
    clear hate
    go_upto_region 4 with fail
    refine wpH_go (fun b => b = b4) 14 (by kernel_rfl) (by kernel_rfl) (by rfl) (fun hB w9 hs9 => ?_)
    have S9 := Lib.hid (SD.out.trans hs9)
    have Z09 := Lib.hid (S9.out.cell Z0.out)
    have HAT9 := Lib.hid (HATE.out.sees S9.out)
    have HC9 : Hid (w9.heap[b4]? = some (.cells d'.vals.toArray 85 (0, 0))) := by unfold RowKit.Hid; rw [hs9.block _ (Array.getElem?_eq_some_iff.1 HC.out).1]; exact HC.out
    clear hs9 hwd
    have hS0 : Keeps (fun b => b = b4) w9 w9 := Keeps.refl _ w9
    have HN1 : Hid (b1 ≠ b4) := by
      have := HLT1.out
      have := HB4.out
      unfold RowKit.Hid
      omega
    refine wpH_take (i := 0) (v := .slice (some ⟨b1, o1, none⟩) n cp) hB (by rfl) (by kernel_rfl) (fun _ _ _ _ _ h => h) (by rfl) hS0 (fun W hI => by clear hI; go_simp) ?_; (try simp only [Act.put, List.setIfInBounds_toArray, List.set_cons_zero, List.set_cons_succ])
    refine wpH_take (i := 1) (v := .int .i64 (i : Int)) hB (by rfl) (by kernel_rfl) (fun _ _ _ _ _ h => h) (by rfl) hS0 (fun W hI => by clear hI; go_simp) ?_; (try simp only [Act.put, List.setIfInBounds_toArray, List.set_cons_zero, List.set_cons_succ])
    refine wpH_take (i := 2) (v := .int .i64 (M : Int)) hB (by rfl) (by kernel_rfl) (fun _ _ _ _ _ h => h) (by rfl) hS0 (fun W hI => by clear hI; go_simp) ?_; (try simp only [Act.put, List.setIfInBounds_toArray, List.set_cons_zero, List.set_cons_succ])
    refine wpH_take (i := 3) (v := .int .i64 (q : Int)) hB (by rfl) (by kernel_rfl) (fun _ _ _ _ _ h => h) (by rfl) hS0 (fun W hI => by clear hI; go_simp) ?_; (try simp only [Act.put, List.setIfInBounds_toArray, List.set_cons_zero, List.set_cons_succ])
    refine wpH_take (i := 4) (v := .pointer (some ⟨b1, o1 + q * 2, none⟩)) hB (by rfl) (by kernel_rfl) (fun _ _ _ _ _ h => h) (by rfl) hS0 (fun W hI => by clear hI; go_simp) ?_; (try simp only [Act.put, List.setIfInBounds_toArray, List.set_cons_zero, List.set_cons_succ])
    refine wpH_take (i := 5) (v := .pointer (some ⟨b1, o1 + q * 2, none⟩)) hB (by rfl) (by kernel_rfl) (fun _ _ _ _ _ h => h) (by rfl) hS0 (fun W hI => by clear hI; go_simp) ?_; (try simp only [Act.put, List.setIfInBounds_toArray, List.set_cons_zero, List.set_cons_succ])
    refine wpH_take (i := 6) (v := .slice (some ⟨b5, o5, none⟩) M m1) hB (by rfl) (by kernel_rfl) (fun _ _ _ _ _ h => h) (by rfl) hS0 (fun W hI => by have q0 := hI.cell HN1.out Z09.out; go_simp) ?_; (try simp only [Act.put, List.setIfInBounds_toArray, List.set_cons_zero, List.set_cons_succ])
    refine wpH_take (i := 7) (v := .int .i64 (i : Int)) hB (by rfl) (by kernel_rfl) (fun _ _ _ _ _ h => h) (by rfl) hS0 (fun W hI => by clear hI; go_simp) ?_; (try simp only [Act.put, List.setIfInBounds_toArray, List.set_cons_zero, List.set_cons_succ])
    refine wpH_take (i := 8) (v := .int .i64 (M : Int)) hB (by rfl) (by kernel_rfl) (fun _ _ _ _ _ h => h) (by rfl) hS0 (fun W hI => by clear hI; go_simp) ?_; (try simp only [Act.put, List.setIfInBounds_toArray, List.set_cons_zero, List.set_cons_succ])
    refine wpH_take (i := 9) (v := .int .i64 (c : Int)) hB (by rfl) (by kernel_rfl) (fun _ _ _ _ _ h => h) (by rfl) hS0 (fun W hI => by clear hI; go_simp) ?_; (try simp only [Act.put, List.setIfInBounds_toArray, List.set_cons_zero, List.set_cons_succ])
    refine wpH_take (i := 10) (v := .int .i64 ((c : Int) - 1)) hB (by rfl) (by kernel_rfl) (fun _ _ _ _ _ h => h) (by rfl) hS0 (fun W hI => by clear hI; go_simp) ?_; (try simp only [Act.put, List.setIfInBounds_toArray, List.set_cons_zero, List.set_cons_succ])
    refine wpH_take (i := 11) (v := .pointer (some ⟨b5, o5 + (c - 1) * 16, none⟩)) hB (by rfl) (by kernel_rfl) (fun _ _ _ _ _ h => h) (by rfl) hS0 (fun W hI => by clear hI; go_simp) ?_; (try simp only [Act.put, List.setIfInBounds_toArray, List.set_cons_zero, List.set_cons_succ])
    refine wpH_take (i := 12) (v := e'.val) hB (by rfl) (by kernel_rfl) (fun _ _ _ _ _ h => h) (by rfl) hS0 (fun W hI => exec_load rfl (by first | rfl | go_simp) (run_loadCell (cell_keeps HAT9.out hI HNE.out))) ?_
    (try simp only [Act.put, List.setIfInBounds_toArray, List.set_cons_zero, List.set_cons_succ])
    refine wpH_one (i := 13) (by kernel_rfl) (wpOp_skip (w' := stC w9 b4 e') (by rfl) (wanted_none (by rfl) _) (exec_store (a := .pointer (some ⟨b4, 0, none⟩)) (v := e'.val) rfl (by go_simp) (by go_simp) (run_storeC HC9.out (by rfl) e')) ⟨hS0.trans (stC_keeps _ _ _), ?_⟩)
    (try simp only [Act.put, List.setIfInBounds_toArray, List.set_cons_zero, List.set_cons_succ])
    refine wpH_end (by kernel_rfl) ?_
    have CE := Lib.hid (stC_at HC9.out e')
    have SE : Hid (Sees w (stC w9 b4 e')) := by
      unfold RowKit.Hid stC
      exact ((Keeps.of_sees (F := fun _ => False) S9.out).setRow' HB4.out _).sees_end (fun _ _ h => h)
    clear hS0 hB
    go_wp2_with (guard_target = wpList _ _ _ ({ dst := _, op := Op.load 85 _, type := _, pos := _, after := _, guard := _ } :: _) _ _; refine wpList_val rfl (exec_load (v := e'.val) rfl rfl (run_loadCell CE.out)) (fun K hK => ?_); go_simp; refine hK _ _ ?_; clear hK K)
    refine (KT.out _).mono ?_
    rintro ee W6 ⟨rfl, s6⟩
    have S6 := Lib.hid (SE.out.trans s6)
    clear s6 KT
    go_upto_region 9 with fail
    obtain ⟨q, hq⟩ : ∃ q : Int, q = ((X[0]).toNat : Int) := ⟨_, rfl⟩
    rw [← hq]
    rw [← hq] at HP
    clear hq
    rcases ways2 (decide (q ≥ 97)) (decide (q ≤ 122)) with ⟨d1, d2⟩ | ⟨d1, d2⟩ | d1 <;> rcases ways2 (decide (q ≥ 65)) (decide (q ≤ 90)) with ⟨g1, g2⟩ | ⟨g1, g2⟩ | g1 <;> rcases ways2 (decide (q ≥ 48)) (decide (q ≤ 57)) with ⟨a1, a2⟩ | ⟨a1, a2⟩ | a1
    all_goals
      rcases Bool.eq_false_or_eq_true (q == 95) with d0 | d0
      · have hp := HP.out
        unfold wdI at hp
        rw [d0] at hp
        (try rw [a1] at hp)
        (try rw [a2] at hp)
        (try rw [d1] at hp)
        (try rw [d2] at hp)
        (try rw [g1] at hp)
        (try rw [g2] at hp)
        go_wp2
        go_ret
        exact ⟨by rw [hp]; simp, S6.out⟩
      · have hp := HP.out
        unfold wdI at hp
        rw [d0] at hp
        (try rw [a1] at hp)
        (try rw [a2] at hp)
        (try rw [d1] at hp)
        (try rw [d2] at hp)
        (try rw [g1] at hp)
        (try rw [g2] at hp)
        go_wp2
        go_ret
        exact ⟨by rw [hp]; simp, S6.out⟩
  · have hwb : (d'.width == 0) = false := by rw [beq_eq_false_iff_ne]; exact hw0
    obtain rfl := HE2.out hw0
    have CE := CD
    have SE := SD
    go_wp2_with (guard_target = wpList _ _ _ ({ dst := _, op := Op.load 85 _, type := _, pos := _, after := _, guard := _ } :: _) _ _; refine wpList_val rfl (exec_load (v := e'.val) rfl rfl (run_loadCell CE.out)) (fun K hK => ?_); go_simp; refine hK _ _ ?_; clear hK K)
    refine (KT.out _).mono ?_
    rintro ee W6 ⟨rfl, s6⟩
    have S6 := Lib.hid (SE.out.trans s6)
    clear s6 KT
    go_upto_region 9 with fail
    obtain ⟨q, hq⟩ : ∃ q : Int, q = ((X[0]).toNat : Int) := ⟨_, rfl⟩
    rw [← hq]
    rw [← hq] at HP
    clear hq
    rcases ways2 (decide (q ≥ 97)) (decide (q ≤ 122)) with ⟨d1, d2⟩ | ⟨d1, d2⟩ | d1 <;> rcases ways2 (decide (q ≥ 65)) (decide (q ≤ 90)) with ⟨g1, g2⟩ | ⟨g1, g2⟩ | g1 <;> rcases ways2 (decide (q ≥ 48)) (decide (q ≤ 57)) with ⟨a1, a2⟩ | ⟨a1, a2⟩ | a1
    all_goals
      rcases Bool.eq_false_or_eq_true (q == 95) with d0 | d0
      · have hp := HP.out
        unfold wdI at hp
        rw [d0] at hp
        (try rw [a1] at hp)
        (try rw [a2] at hp)
        (try rw [d1] at hp)
        (try rw [d2] at hp)
        (try rw [g1] at hp)
        (try rw [g2] at hp)
        go_wp2
        go_ret
        exact ⟨by rw [hp]; simp, S6.out⟩
      · have hp := HP.out
        unfold wdI at hp
        rw [d0] at hp
        (try rw [a1] at hp)
        (try rw [a2] at hp)
        (try rw [d1] at hp)
        (try rw [d2] at hp)
        (try rw [g1] at hp)
        (try rw [g2] at hp)
        go_wp2
        go_ret
        exact ⟨by rw [hp]; simp, S6.out⟩
set_option maxHeartbeats 4000000 in
set_option maxRecDepth 100000 in
theorem word41_at (F : Nat → Prop) (v : Value) (ls : List Ln) (w : World) (first : Int) (h : ShF F w v ls first) (i : Nat) (hi : i < ls.length * cols ls) :
    Calls Tryd.prog 21 #[v, .int .i64 (i : Int)] w fun e w' => e = .returned (.tuple #[.int .i64 (wA ls i : Nat), .int .i64 (wB ls i : Nat)]) ∧ Sees w w' := by
  obtain ⟨hM, hM2, hr, hc, _⟩ := h.row hi
  have hne : 0 < ls.length := Nat.lt_of_le_of_lt (Nat.zero_le _) hr
  have hmul : ls.length * cols ls ≤ 1000 * 1000 := Nat.mul_le_mul h.len hM2
  have KW := Lib.hid (fun W (hs : Sees w W) j (hj : j < ls.length * cols ls) => wordy41_at F v ls W first (h.sees hs) j hj)
  have KT := Lib.hid (fun W (hs : Sees w W) j (hj : j < ls.length * cols ls) => together_at F v ls W first (h.sees hs) j hj)
  have KN := Lib.hid (fun W (hs : Sees w W) => together_no F v ls W first (h.sees hs) hne)
  obtain ⟨a, cp, hv, _⟩ := h.rd.slice'
  have hA : wA ls i = if wd ls i then dnF (fun a => tg ls a && wd ls a) i else i := rfl
  have hB : wB ls i = if wd ls i then upF (fun a => tg ls a && wd ls (a + 1)) (ls.length * cols ls - i) i else i := rfl
  have hlast : ∀ j, ls.length * cols ls ≤ j + 1 → tg ls j = false := fun j hj => tg_last hj
  have HLAST := Lib.hid hlast
  rw [hA, hB]
  obtain ⟨tgF, htg⟩ : ∃ t : Nat → Bool, t = tg ls := ⟨_, rfl⟩
  obtain ⟨wdF, hwd⟩ : ∃ t : Nat → Bool, t = wd ls := ⟨_, rfl⟩
  rw [← htg] at KT HLAST ⊢
  rw [← hwd] at KW ⊢
  clear htg hwd hA hB hlast h hr hc hM hM2
  generalize ls.length * cols ls = N at *
  subst hv
  generalize ls.length = n at *
  rcases Bool.eq_false_or_eq_true (wdF i) with hw | hw
  · rw [hw, if_pos rfl, if_pos rfl]
    obtain ⟨A, hA⟩ : ∃ A, A = dnF (fun a => tgF a && wdF a) i := ⟨_, rfl⟩
    obtain ⟨B, hB⟩ : ∃ B, B = upF (fun a => tgF a && wdF (a + 1)) (N - i) i := ⟨_, rfl⟩
    rw [← hA, ← hB]
    have HA := Lib.hid hA
    have HB := Lib.hid hB
    have HW := Lib.hid hw
    clear hA hB hw
    go_enter Tryd.func21, Tryd.ntmps21
    go_wp2_with fail
    go_loopw [6] (fun u W => ∃ k : Nat, k ≤ i ∧ u = .int .i64 (k : Int) ∧ Hid (A = dnF (fun a => tgF a && wdF a) k) ∧ Sees w W) (fun u _ => (intOf u).toNat)
    case atStart => exact ⟨i, Nat.le_refl _, rfl, HA, Sees.refl _⟩
    case round =>
      obtain ⟨k, hk, rfl, hK, hS⟩ := hrel
      have HS := Lib.hid hS
      clear hS
      go_wp2_with fail
      have q := KW.out _ HS.out i hi
      rw [HW.out] at q
      refine q.mono ?_
      rintro e W1 ⟨rfl, s1⟩
      have HS1 := Lib.hid (HS.out.trans s1)
      clear q s1
      cases k with
      | zero =>
        go_wp2_with fail
        refine (KN.out _ HS1.out).mono ?_
        rintro e W2 ⟨rfl, s2⟩
        have HS2 := Lib.hid (HS1.out.trans s2)
        have hA0 : A = 0 := hK.out
        clear s2
        subst hA0
        go_wp2_with fail
        go_loopw [7] (fun u W => ∃ k : Nat, i ≤ k ∧ k < N ∧ u = .int .i64 (k : Int) ∧ Hid (B = upF (fun a => tgF a && wdF (a + 1)) (N - k) k) ∧ Sees w W) (fun u _ => N - (intOf u).toNat)
        case atStart => exact ⟨i, Nat.le_refl _, hi, rfl, HB, HS2.out⟩
        case round =>
          obtain ⟨k, hk, hkN, rfl, hK, hS⟩ := hrel
          have HS := Lib.hid hS
          clear hS HS1 HS2
          go_wp2_with fail
          have q := KW.out _ HS.out i hi
          rw [HW.out] at q
          refine q.mono ?_
          rintro e W1 ⟨rfl, s1⟩
          have HS1 := Lib.hid (HS.out.trans s1)
          have hkw : IntKind.i64.wrap ((k : Int) + 1) = ((k + 1 : Nat) : Int) := by rw [IntWalk.i64_in _ (by omega)]; omega
          have hstep : B = if (tgF k && wdF (k + 1)) then upF (fun a => tgF a && wdF (a + 1)) (N - (k + 1)) (k + 1) else k := by
            rw [hK.out, show N - k = (N - (k + 1)) + 1 by omega, upF]
          obtain ⟨k1, hk1⟩ : ∃ k1, k1 = k + 1 := ⟨_, rfl⟩
          rw [← hk1] at hkw hstep
          have HST := Lib.hid hstep
          have HK1 := Lib.hid hk1
          clear hK hk1 hstep q s1
          go_wp2_with fail
          refine (KT.out _ HS1.out k hkN).mono ?_
          rintro e W2 ⟨rfl, s2⟩
          have HS2 := Lib.hid (HS1.out.trans s2)
          clear s2
          rcases Bool.eq_false_or_eq_true (tgF k) with t1 | t1
          · have hk1N : k1 < N := by
              rcases Nat.lt_or_ge k1 N with h | h
              · exact h
              · have q := HLAST.out k (by have := HK1.out; omega)
                rw [t1] at q
                cases q
            have Q := Lib.hid (KW.out _ HS2.out k1 hk1N)
            go_wp2_with fail
            refine Q.out.mono ?_
            rintro e W3 ⟨rfl, s3⟩
            have HS3 := Lib.hid (HS2.out.trans s3)
            clear s3 Q
            rcases Bool.eq_false_or_eq_true (wdF k1) with t2 | t2
            · have hn : Hid (B = upF (fun a => tgF a && wdF (a + 1)) (N - k1) k1) := by
                have q := HST.out
                rw [t1, t2] at q
                exact q
              clear HST
              go_wp2
              exact ⟨⟨k1, by have := HK1.out; omega, hk1N, by go_num, hn, HS3.out⟩, by have := HK1.out; simp [intOf] <;> omega⟩
            · have hB0 : B = k := by
                have q := HST.out
                rw [t1, t2] at q
                exact q
              clear HST
              go_wp2
              go_ret2
              exact ⟨by rw [hB0]; rfl, HS3.out⟩
          · have hB0 : B = k := by
              have q := HST.out
              rw [t1] at q
              exact q
            clear HST
            go_wp2
            go_ret2
            exact ⟨by rw [hB0]; rfl, HS2.out⟩
      | succ m =>
        have hmw : IntKind.i64.wrap (((m + 1 : Nat) : Int) - 1) = (m : Int) := by rw [IntWalk.i64_in _ (by omega)]; omega
        have hstep : A = if (tgF m && wdF m) then dnF (fun a => tgF a && wdF a) m else m + 1 := hK.out
        obtain ⟨k1, hk1⟩ : ∃ k1, k1 = m + 1 := ⟨_, rfl⟩
        rw [← hk1] at hmw hstep ⊢
        have HST := Lib.hid hstep
        have HK1 := Lib.hid hk1
        clear hK hk1 hstep
        go_wp2_with fail
        have q := KT.out _ HS1.out m (by have := HK1.out; omega)
        refine q.mono ?_
        rintro e W2 ⟨rfl, s2⟩
        have HS2 := Lib.hid (HS1.out.trans s2)
        clear q s2
        rcases Bool.eq_false_or_eq_true (tgF m) with t1 | t1
        · have q := KW.out _ HS2.out m (by have := HK1.out; omega)
          have Q := Lib.hid q
          clear q
          go_wp2_with fail
          refine Q.out.mono ?_
          rintro e W3 ⟨rfl, s3⟩
          have HS3 := Lib.hid (HS2.out.trans s3)
          clear s3 Q
          rcases Bool.eq_false_or_eq_true (wdF m) with t2 | t2
          · have hn : Hid (A = dnF (fun a => tgF a && wdF a) m) := by
              have q := HST.out
              rw [t1, t2] at q
              exact q
            clear HST
            go_wp2
            exact ⟨⟨m, by have := HK1.out; omega, by go_num, hn, HS3.out⟩, by have := HK1.out; simp [intOf] <;> omega⟩
          · have hA0 : A = k1 := by
              have q := HST.out
              rw [t1, t2] at q
              exact q
            have HS2 := HS3
            clear HST
            subst hA0
            go_wp2_with fail
            go_loopw [7] (fun u W => ∃ k : Nat, i ≤ k ∧ k < N ∧ u = .int .i64 (k : Int) ∧ Hid (B = upF (fun a => tgF a && wdF (a + 1)) (N - k) k) ∧ Sees w W) (fun u _ => N - (intOf u).toNat)
            case atStart => exact ⟨i, Nat.le_refl _, hi, rfl, HB, HS2.out⟩
            case round =>
              obtain ⟨k, hk, hkN, rfl, hK, hS⟩ := hrel
              have HS := Lib.hid hS
              clear hS HS1 HS2
              go_wp2_with fail
              have q := KW.out _ HS.out i hi
              rw [HW.out] at q
              refine q.mono ?_
              rintro e W1 ⟨rfl, s1⟩
              have HS1 := Lib.hid (HS.out.trans s1)
              have hkw : IntKind.i64.wrap ((k : Int) + 1) = ((k + 1 : Nat) : Int) := by rw [IntWalk.i64_in _ (by omega)]; omega
              have hstep : B = if (tgF k && wdF (k + 1)) then upF (fun a => tgF a && wdF (a + 1)) (N - (k + 1)) (k + 1) else k := by
                rw [hK.out, show N - k = (N - (k + 1)) + 1 by omega, upF]
              obtain ⟨k1, hk1⟩ : ∃ k1, k1 = k + 1 := ⟨_, rfl⟩
              rw [← hk1] at hkw hstep
              have HST := Lib.hid hstep
              have HK1 := Lib.hid hk1
              clear hK hk1 hstep q s1
              go_wp2_with fail
              refine (KT.out _ HS1.out k hkN).mono ?_
              rintro e W2 ⟨rfl, s2⟩
              have HS2 := Lib.hid (HS1.out.trans s2)
              clear s2
              rcases Bool.eq_false_or_eq_true (tgF k) with t1 | t1
              · have hk1N : k1 < N := by
                  rcases Nat.lt_or_ge k1 N with h | h
                  · exact h
                  · have q := HLAST.out k (by have := HK1.out; omega)
                    rw [t1] at q
                    cases q
                have Q := Lib.hid (KW.out _ HS2.out k1 hk1N)
                go_wp2_with fail
                refine Q.out.mono ?_
                rintro e W3 ⟨rfl, s3⟩
                have HS3 := Lib.hid (HS2.out.trans s3)
                clear s3 Q
                rcases Bool.eq_false_or_eq_true (wdF k1) with t2 | t2
                · have hn : Hid (B = upF (fun a => tgF a && wdF (a + 1)) (N - k1) k1) := by
                    have q := HST.out
                    rw [t1, t2] at q
                    exact q
                  clear HST
                  go_wp2
                  exact ⟨⟨k1, by have := HK1.out; omega, hk1N, by go_num, hn, HS3.out⟩, by have := HK1.out; simp [intOf] <;> omega⟩
                · have hB0 : B = k := by
                    have q := HST.out
                    rw [t1, t2] at q
                    exact q
                  clear HST
                  go_wp2
                  go_ret2
                  exact ⟨by rw [hB0]; rfl, HS3.out⟩
              · have hB0 : B = k := by
                  have q := HST.out
                  rw [t1] at q
                  exact q
                clear HST
                go_wp2
                go_ret2
                exact ⟨by rw [hB0]; rfl, HS2.out⟩
        · have hA0 : A = k1 := by
            have q := HST.out
            rw [t1] at q
            exact q
          clear HST
          subst hA0
          go_wp2_with fail
          go_loopw [7] (fun u W => ∃ k : Nat, i ≤ k ∧ k < N ∧ u = .int .i64 (k : Int) ∧ Hid (B = upF (fun a => tgF a && wdF (a + 1)) (N - k) k) ∧ Sees w W) (fun u _ => N - (intOf u).toNat)
          case atStart => exact ⟨i, Nat.le_refl _, hi, rfl, HB, HS2.out⟩
          case round =>
            obtain ⟨k, hk, hkN, rfl, hK, hS⟩ := hrel
            have HS := Lib.hid hS
            clear hS HS1 HS2
            go_wp2_with fail
            have q := KW.out _ HS.out i hi
            rw [HW.out] at q
            refine q.mono ?_
            rintro e W1 ⟨rfl, s1⟩
            have HS1 := Lib.hid (HS.out.trans s1)
            have hkw : IntKind.i64.wrap ((k : Int) + 1) = ((k + 1 : Nat) : Int) := by rw [IntWalk.i64_in _ (by omega)]; omega
            have hstep : B = if (tgF k && wdF (k + 1)) then upF (fun a => tgF a && wdF (a + 1)) (N - (k + 1)) (k + 1) else k := by
              rw [hK.out, show N - k = (N - (k + 1)) + 1 by omega, upF]
            obtain ⟨k1, hk1⟩ : ∃ k1, k1 = k + 1 := ⟨_, rfl⟩
            rw [← hk1] at hkw hstep
            have HST := Lib.hid hstep
            have HK1 := Lib.hid hk1
            clear hK hk1 hstep q s1
            go_wp2_with fail
            refine (KT.out _ HS1.out k hkN).mono ?_
            rintro e W2 ⟨rfl, s2⟩
            have HS2 := Lib.hid (HS1.out.trans s2)
            clear s2
            rcases Bool.eq_false_or_eq_true (tgF k) with t1 | t1
            · have hk1N : k1 < N := by
                rcases Nat.lt_or_ge k1 N with h | h
                · exact h
                · have q := HLAST.out k (by have := HK1.out; omega)
                  rw [t1] at q
                  cases q
              have Q := Lib.hid (KW.out _ HS2.out k1 hk1N)
              go_wp2_with fail
              refine Q.out.mono ?_
              rintro e W3 ⟨rfl, s3⟩
              have HS3 := Lib.hid (HS2.out.trans s3)
              clear s3 Q
              rcases Bool.eq_false_or_eq_true (wdF k1) with t2 | t2
              · have hn : Hid (B = upF (fun a => tgF a && wdF (a + 1)) (N - k1) k1) := by
                  have q := HST.out
                  rw [t1, t2] at q
                  exact q
                clear HST
                go_wp2
                exact ⟨⟨k1, by have := HK1.out; omega, hk1N, by go_num, hn, HS3.out⟩, by have := HK1.out; simp [intOf] <;> omega⟩
              · have hB0 : B = k := by
                  have q := HST.out
                  rw [t1, t2] at q
                  exact q
                clear HST
                go_wp2
                go_ret2
                exact ⟨by rw [hB0]; rfl, HS3.out⟩
            · have hB0 : B = k := by
                have q := HST.out
                rw [t1] at q
                exact q
              clear HST
              go_wp2
              go_ret2
              exact ⟨by rw [hB0]; rfl, HS2.out⟩
  · rw [hw]
    have q := KW.out w (Sees.refl w) i hi
    rw [hw] at q
    have Q := Lib.hid q
    have HW := Lib.hid hw
    clear q hw
    go_enter Tryd.func21, Tryd.ntmps21
    go_wp2_with fail
    refine wp_loop_rounds 1 ?_
    rw [rounds_succ]
    go_wp2_with fail
    refine Q.out.mono ?_
    rintro e W1 ⟨rfl, s1⟩
    have HS1 := Lib.hid s1
    have q := KW.out W1 s1 i hi
    rw [HW.out] at q
    have Q1 := Lib.hid q
    clear q s1
    go_wp2_with fail
    refine wp_loop_rounds 1 ?_
    rw [rounds_succ]
    go_wp2_with fail
    refine Q1.out.mono ?_
    rintro e W2 ⟨rfl, s2⟩
    have HS2 := Lib.hid (HS1.out.trans s2)
    clear s2
    go_wp2
    go_ret2
    exact ⟨rfl, HS2.out⟩
end Go.Proofs.YtooiiefipdjbjaaDoor

namespace Go.Proofs.YtooiiefipdjbjaaDoor
set_option linter.unusedVariables false
set_option linter.unusedSimpArgs false
open Go.RowKit Go.Shelf
attribute [local go_sem] Oper.semAt_some

set_option maxHeartbeats 4000000 in
set_option maxRecDepth 100000 in
theorem logical41_at (F : Nat → Prop) (v : Value) (ls : List Ln) (w : World) (ha : lnEl.Rd F w v ls) (hn : ls.length ≤ 1000000) (i : Nat) (hi : i < ls.length) :
    Calls Tryd.prog 22 #[v, .int .i64 (i : Int)] w fun e w' => e = .returned (.tuple #[.int .i64 (topI ls i : Nat), .int .i64 (botI ls i : Nat)]) ∧ Sees w w' := by
  obtain ⟨a, cp, rfl, _⟩ := ha.slice'
  have HS0 := Sees.refl w
  obtain ⟨n, hnn⟩ : ∃ n, n = ls.length := ⟨_, rfl⟩
  have HR : Hid (∀ k, k < n → ∃ b o, a = some ⟨b, o, none⟩ ∧ w.cell? ⟨b, o + k * 2 + 1, none⟩ = some (.bool (softAt ls k))) := fun k hk => by
    obtain ⟨b1, o1, x, a1, m1, e, _, hx, _, _, y1, _⟩ := ha.line (show k < ls.length by omega)
    exact ⟨b1, o1, e, by rw [softAt_of hx]; exact y1⟩
  obtain ⟨b, o, rfl, _⟩ := HR.out i (by omega)
  have HQ : Hid (∀ k, k < n → w.cell? ⟨b, o + k * 2 + 1, none⟩ = some (.bool (softAt ls k))) := fun k hk => by
    obtain ⟨b1, o1, e, h⟩ := HR.out k hk
    cases e
    exact h
  obtain ⟨A, hA⟩ : ∃ A, A = topI ls i := ⟨_, rfl⟩
  obtain ⟨B, hB⟩ : ∃ B, B = botI ls i := ⟨_, rfl⟩
  rw [← hnn] at hn hi ⊢
  rw [← hA, ← hB]
  have HA := Lib.hid hA
  have HB := Lib.hid hB
  have HN := Lib.hid hnn
  clear hA hB ha HR hnn
  go_enter Tryd.func22, Tryd.ntmps22
  go_wp2
  go_loopw [6] (fun u W => ∃ k : Nat, k ≤ i ∧ u = .int .i64 (k : Int) ∧ Hid (A = topI ls k) ∧ Sees w W) (fun u _ => (intOf u).toNat)
  case atStart => exact ⟨i, Nat.le_refl _, rfl, HA, HS0⟩
  case round =>
    obtain ⟨k, hk, rfl, hK, hS⟩ := hrel
    have HS := Lib.hid hS
    cases k with
    | zero =>
      have hA0 : A = 0 := hK.out
      clear hK hS
      subst hA0
      go_wp2
      go_loopw [7] (fun u W => ∃ k : Nat, i ≤ k ∧ k < n ∧ u = .int .i64 (k : Int) ∧ Hid (B = botI ls k) ∧ Sees w W) (fun u _ => n - (intOf u).toNat)
      case atStart => exact ⟨i, Nat.le_refl _, hi, rfl, HB, HS.out⟩
      case round =>
        obtain ⟨k, hk, hkN, rfl, hK, hS⟩ := hrel
        have HS := Lib.hid hS
        have hkw : IntKind.i64.wrap ((k : Int) + 1) = ((k + 1 : Nat) : Int) := by rw [IntWalk.i64_in _ (by omega)]; omega
        have q0 := hS.cell (HQ.out k hkN)
        clear hS
        have hend : (¬ (k + 1 < n) ∨ softAt ls k = false) → B = k := fun h => by rw [hK.out]; exact botI_end (by rw [← HN.out]; exact h)
        have hnext : k + 1 < n → softAt ls k = true → B = botI ls (k + 1) := fun h1 h2 => by rw [hK.out]; exact botI_step (by have := HN.out; omega) h2
        obtain ⟨k1, hk1⟩ : ∃ k1, k1 = k + 1 := ⟨_, rfl⟩
        rw [← hk1] at hkw hend hnext
        have HE := Lib.hid hend
        have HX := Lib.hid hnext
        have HK1 := Lib.hid hk1
        clear hK hk1 hend hnext
        by_cases h2 : k1 < n
        · have g1 : decide ((k1 : Int) < (n : Int)) = true := decide_eq_true (by omega)
          rcases Bool.eq_false_or_eq_true (softAt ls k) with t1 | t1
          · have hn : Hid (B = botI ls k1) := HX.out h2 t1
            rw [t1] at q0
            go_wp2
            exact ⟨⟨k1, by have := HK1.out; omega, h2, by go_num, hn, HS.out⟩, by have := HK1.out; simp [intOf] <;> omega⟩
          · have hB0 := HE.out (.inr t1)
            rw [t1] at q0
            go_wp2
            go_ret2
            exact ⟨by rw [hB0]; rfl, HS.out⟩
        · have hB0 := HE.out (.inl h2)
          have g1 : decide ((k1 : Int) < (n : Int)) = false := decide_eq_false (by omega)
          go_wp2
          go_ret2
          exact ⟨by rw [hB0]; rfl, HS.out⟩
    | succ m =>
      have hmw : IntKind.i64.wrap (((m + 1 : Nat) : Int) - 1) = (m : Int) := by rw [IntWalk.i64_in _ (by omega)]; omega
      have hstep : A = if softAt ls m then topI ls m else m + 1 := hK.out
      have q0 := hS.cell (HQ.out m (by omega))
      obtain ⟨k1, hk1⟩ : ∃ k1, k1 = m + 1 := ⟨_, rfl⟩
      rw [← hk1] at hmw hstep ⊢
      have hm0 : (0 : Int) ≤ (m : Int) := by omega
      have hm1 : (m : Int) < (n : Int) := by omega
      have hkp : decide ((k1 : Int) > 0) = true := decide_eq_true (by omega)
      have hkn : 0 < k1 := by omega
      have hkq : decide ((0 : Int) < (k1 : Int)) = true := decide_eq_true (by omega)
      have HST := Lib.hid hstep
      have HK1 := Lib.hid hk1
      clear hK hk1 hstep hS
      rcases Bool.eq_false_or_eq_true (softAt ls m) with t1 | t1
      · have hn : Hid (A = topI ls m) := by
          have q := HST.out
          rw [t1] at q
          exact q
        rw [t1] at q0
        clear HST
        go_wp2
        exact ⟨⟨m, by have := HK1.out; omega, by go_num, hn, HS.out⟩, by have := HK1.out; simp [intOf] <;> omega⟩
      · have hA0 : A = k1 := by
          have q := HST.out
          rw [t1] at q
          exact q
        rw [t1] at q0
        clear HST
        subst hA0
        go_wp2
        go_loopw [7] (fun u W => ∃ k : Nat, i ≤ k ∧ k < n ∧ u = .int .i64 (k : Int) ∧ Hid (B = botI ls k) ∧ Sees w W) (fun u _ => n - (intOf u).toNat)
        case atStart => exact ⟨i, Nat.le_refl _, hi, rfl, HB, HS.out⟩
        case round =>
          obtain ⟨k, hk, hkN, rfl, hK, hS⟩ := hrel
          have HS := Lib.hid hS
          have hkw : IntKind.i64.wrap ((k : Int) + 1) = ((k + 1 : Nat) : Int) := by rw [IntWalk.i64_in _ (by omega)]; omega
          have q0 := hS.cell (HQ.out k hkN)
          clear hS
          have hend : (¬ (k + 1 < n) ∨ softAt ls k = false) → B = k := fun h => by rw [hK.out]; exact botI_end (by rw [← HN.out]; exact h)
          have hnext : k + 1 < n → softAt ls k = true → B = botI ls (k + 1) := fun h1 h2 => by rw [hK.out]; exact botI_step (by have := HN.out; omega) h2
          obtain ⟨k1, hk1⟩ : ∃ k1, k1 = k + 1 := ⟨_, rfl⟩
          rw [← hk1] at hkw hend hnext
          have HE := Lib.hid hend
          have HX := Lib.hid hnext
          have HK1 := Lib.hid hk1
          clear hK hk1 hend hnext
          by_cases h2 : k1 < n
          · have g1 : decide ((k1 : Int) < (n : Int)) = true := decide_eq_true (by omega)
            rcases Bool.eq_false_or_eq_true (softAt ls k) with t1 | t1
            · have hn : Hid (B = botI ls k1) := HX.out h2 t1
              rw [t1] at q0
              go_wp2
              exact ⟨⟨k1, by have := HK1.out; omega, h2, by go_num, hn, HS.out⟩, by have := HK1.out; simp [intOf] <;> omega⟩
            · have hB0 := HE.out (.inr t1)
              rw [t1] at q0
              go_wp2
              go_ret2
              exact ⟨by rw [hB0]; rfl, HS.out⟩
          · have hB0 := HE.out (.inl h2)
            have g1 : decide ((k1 : Int) < (n : Int)) = false := decide_eq_false (by omega)
            go_wp2
            go_ret2
            exact ⟨by rw [hB0]; rfl, HS.out⟩
set_option maxHeartbeats 2000000 in
theorem back41_at (F : Nat → Prop) (v : Value) (ls : List Ln) (w : World) (first : Int) (h : ShF F w v ls first) (i : Nat) (hi : i < ls.length * cols ls) :
    Calls Tryd.prog 23 #[v, .int .i64 first, .int .i64 (i : Int)] w fun e w' => e = .returned (plV (plI ls first i)) ∧ Sees w w' := by
  obtain ⟨hM, hM2, hr, hc, _⟩ := h.row hi
  obtain ⟨_, hf0, hf1⟩ := rowsOk_ok h.ok
  have hlen := h.len
  obtain ⟨a, cp, rfl, _⟩ := h.rd.slice'
  obtain ⟨b1, o1, z, a0, m0, rfl, hfb, hz, _, y0, _, _⟩ := h.rd.line (Nat.lt_of_le_of_lt (Nat.zero_le _) hr)
  rw [Nat.zero_mul, Nat.add_zero] at y0
  have hcol := cols_of hz
  rw [← hcol] at y0
  have hlt1 := h.lt _ hfb
  have hq := tq41 i (cols ls)
  have hrm := tr41 i (cols ls)
  unfold plI
  have HLT := Lib.hid hlt1
  have Y0 := Lib.hid y0
  clear h hz hcol hi hfb hlt1 y0
  generalize cols ls = M at *
  generalize ls.length = n at *
  generalize hQ : i / M = q at *
  generalize hR : i % M = c at *
  have k3 : IntKind.i64.wrap (q : Int) = (q : Int) := IntWalk.i64_in _ (by omega)
  have k4 : ((M : Int) == 0) = false := by rw [beq_eq_false_iff_ne]; omega
  have k6 : M ≠ 0 := by omega
  have k7 : IntKind.i64.wrap (c : Int) = (c : Int) := IntWalk.i64_in _ (by omega)
  have k8 : IntKind.i64.wrap (first + (q : Int)) = first + (q : Int) := IntWalk.i64_in _ (by omega)
  have hnp : 0 < n := by omega
  have KA := Lib.hid (fun W => at41_any (first + (q : Int)) (c : Int) W)
  clear hQ hR
  go_enter Tryd.func23, Tryd.ntmps23
  go_upto_region 1 with fail
  refine wp_world fun W1 hW1 => ?_
  have p1 : PlAt W1 w.heap.size 0 0 := by subst hW1; exact heap_alloc_new w _
  have s1 : Sees w W1 := by subst hW1; exact (Sees.refl w).alloc _
  have P1 := Lib.hid p1
  have S1 := Lib.hid s1
  obtain ⟨b6, hb6⟩ : ∃ b6, b6 = w.heap.size := ⟨_, rfl⟩
  rw [← hb6] at P1 HLT ⊢
  have HB : Hid (w.heap.size ≤ b6) := by unfold RowKit.Hid; omega
  clear hW1 s1 p1 hb6
  refine wpH_go (fun b => b = b6) 18 (by kernel_rfl) (by kernel_rfl) (by rfl) (fun hB w9 hs9 => ?_)
  have S9 := Lib.hid (S1.out.trans hs9)
  have P9 := Lib.hid (P1.out.sees hs9)
  have Y9 := Lib.hid (S9.out.cell Y0.out)
  have hb1 : ¬ (b1 = b6) := by have := HLT.out; omega
  clear hs9
  have hS0 : Keeps (fun b => b = b6) w9 w9 := Keeps.refl _ w9
  refine wpH_take (i := 0) (v := .int .i64 first) hB (by rfl) (by kernel_rfl) (fun _ _ _ _ _ h => h) (by rfl) hS0 (fun W hI => by clear hI; go_simp) ?_; (try simp only [Act.put, List.setIfInBounds_toArray, List.set_cons_zero, List.set_cons_succ])
  refine wpH_take (i := 1) (v := .int .i64 (i : Int)) hB (by rfl) (by kernel_rfl) (fun _ _ _ _ _ h => h) (by rfl) hS0 (fun W hI => by clear hI; go_simp) ?_; (try simp only [Act.put, List.setIfInBounds_toArray, List.set_cons_zero, List.set_cons_succ])
  refine wpH_take (i := 2) (v := .slice (some ⟨b1, o1, none⟩) n cp) hB (by rfl) (by kernel_rfl) (fun _ _ _ _ _ h => h) (by rfl) hS0 (fun W hI => by clear hI; go_simp) ?_; (try simp only [Act.put, List.setIfInBounds_toArray, List.set_cons_zero, List.set_cons_succ])
  refine wpH_take (i := 3) (v := .pointer (some ⟨b1, o1, none⟩)) hB (by rfl) (by kernel_rfl) (fun _ _ _ _ _ h => h) (by rfl) hS0 (fun W hI => by clear hI; go_simp) ?_; (try simp only [Act.put, List.setIfInBounds_toArray, List.set_cons_zero, List.set_cons_succ])
  refine wpH_take (i := 4) (v := .pointer (some ⟨b1, o1, none⟩)) hB (by rfl) (by kernel_rfl) (fun _ _ _ _ _ h => h) (by rfl) hS0 (fun W hI => by clear hI; go_simp) ?_; (try simp only [Act.put, List.setIfInBounds_toArray, List.set_cons_zero, List.set_cons_succ])
  refine wpH_take (i := 5) (v := .slice a0 M m0) hB (by rfl) (by kernel_rfl) (fun _ _ _ _ _ h => h) (by rfl) hS0 (fun W hI => by have q0 := hI.cell hb1 Y9.out; go_simp) ?_; (try simp only [Act.put, List.setIfInBounds_toArray, List.set_cons_zero, List.set_cons_succ])
  refine wpH_take (i := 6) (v := .int .i64 (M : Int)) hB (by rfl) (by kernel_rfl) (fun _ _ _ _ _ h => h) (by rfl) hS0 (fun W hI => by clear hI; go_simp) ?_; (try simp only [Act.put, List.setIfInBounds_toArray, List.set_cons_zero, List.set_cons_succ])
  refine wpH_take (i := 7) (v := .int .i64 (q : Int)) hB (by rfl) (by kernel_rfl) (fun _ _ _ _ _ h => h) (by rfl) hS0 (fun W hI => by clear hI; go_simp) ?_; (try simp only [Act.put, List.setIfInBounds_toArray, List.set_cons_zero, List.set_cons_succ])
  refine wpH_take (i := 8) (v := .int .i64 (first + (q : Int))) hB (by rfl) (by kernel_rfl) (fun _ _ _ _ _ h => h) (by rfl) hS0 (fun W hI => by clear hI; go_simp) ?_; (try simp only [Act.put, List.setIfInBounds_toArray, List.set_cons_zero, List.set_cons_succ])
  refine wpH_take (i := 9) (v := .int .i64 (i : Int)) hB (by rfl) (by kernel_rfl) (fun _ _ _ _ _ h => h) (by rfl) hS0 (fun W hI => by clear hI; go_simp) ?_; (try simp only [Act.put, List.setIfInBounds_toArray, List.set_cons_zero, List.set_cons_succ])
  refine wpH_take (i := 10) (v := .slice (some ⟨b1, o1, none⟩) n cp) hB (by rfl) (by kernel_rfl) (fun _ _ _ _ _ h => h) (by rfl) hS0 (fun W hI => by clear hI; go_simp) ?_; (try simp only [Act.put, List.setIfInBounds_toArray, List.set_cons_zero, List.set_cons_succ])
  refine wpH_take (i := 11) (v := .pointer (some ⟨b1, o1, none⟩)) hB (by rfl) (by kernel_rfl) (fun _ _ _ _ _ h => h) (by rfl) hS0 (fun W hI => by clear hI; go_simp) ?_; (try simp only [Act.put, List.setIfInBounds_toArray, List.set_cons_zero, List.set_cons_succ])
  refine wpH_take (i := 12) (v := .pointer (some ⟨b1, o1, none⟩)) hB (by rfl) (by kernel_rfl) (fun _ _ _ _ _ h => h) (by rfl) hS0 (fun W hI => by clear hI; go_simp) ?_; (try simp only [Act.put, List.setIfInBounds_toArray, List.set_cons_zero, List.set_cons_succ])
  refine wpH_take (i := 13) (v := .slice a0 M m0) hB (by rfl) (by kernel_rfl) (fun _ _ _ _ _ h => h) (by rfl) hS0 (fun W hI => by have q0 := hI.cell hb1 Y9.out; go_simp) ?_; (try simp only [Act.put, List.setIfInBounds_toArray, List.set_cons_zero, List.set_cons_succ])
  refine wpH_take (i := 14) (v := .int .i64 (M : Int)) hB (by rfl) (by kernel_rfl) (fun _ _ _ _ _ h => h) (by rfl) hS0 (fun W hI => by clear hI; go_simp) ?_; (try simp only [Act.put, List.setIfInBounds_toArray, List.set_cons_zero, List.set_cons_succ])
  refine wpH_take (i := 15) (v := .int .i64 (c : Int)) hB (by rfl) (by kernel_rfl) (fun _ _ _ _ _ h => h) (by rfl) hS0 (fun W hI => by clear hI; go_simp) ?_; (try simp only [Act.put, List.setIfInBounds_toArray, List.set_cons_zero, List.set_cons_succ])
  refine wpH_one (i := 16) (by kernel_rfl) (wpOp_enter (fn := 18) (args := #[.int .i64 (first + (q : Int)), .int .i64 (c : Int)]) (by rfl) (by rfl) (by go_simp) ((KA.out w9).mono ?_))
  rintro ee w11 ⟨rfl, hs⟩
  have hS1 := hS0.trans (Keeps.of_sees hs)
  refine ⟨_, rfl, hS1, ?_⟩
  (try simp only [Act.put, List.setIfInBounds_toArray, List.set_cons_zero, List.set_cons_succ])
  have S11 := Lib.hid (S9.out.trans hs)
  have P11 := Lib.hid (P9.out.sees hs)
  clear hs hS0
  refine wpH_one (i := 17) (by kernel_rfl) (wpOp_skip (w' := stQ w11 b6 (first + (q : Int)) (c : Int)) (by rfl) (wanted_none (by rfl) _) (exec_store (a := .pointer (some ⟨b6, 0, none⟩)) (v := .agg #[.int .i64 (first + (q : Int)), .int .i64 (c : Int)]) rfl (by go_simp) (by go_simp) (run_storeQ P11.out (first + (q : Int)) (c : Int))) ⟨hS1.trans (stQ_keeps _ _ _ _), ?_⟩)
  (try simp only [Act.put, List.setIfInBounds_toArray, List.set_cons_zero, List.set_cons_succ])
  refine wpH_end (by kernel_rfl) ?_
  have Q6 := Lib.hid (stQ_at P11.out (first + (q : Int)) (c : Int))
  have SA : Hid (Sees w (stQ w11 b6 (first + (q : Int)) (c : Int))) := by
    unfold RowKit.Hid stQ
    exact ((Keeps.of_sees (F := fun _ => False) S11.out).setRow' HB.out _).sees_end (fun _ _ h => h)
  clear hS1 hB
  go_wp2
  exact bodyPost_ret (results_one rfl rfl (run_loadPl Q6.out)) rfl ⟨rfl, SA.out⟩
theorem ch_isAgg : ∀ W, (isAgg 27).run Tryd.prog W = .ok true W := fun _ => by kernel_rfl
theorem ch_sizeOf : ∀ W, (sizeOf 27).run Tryd.prog W = .ok 5 W := fun _ => by kernel_rfl
def ChAt (W : World) (b : Nat) (k l0 c0 l1 c1 : Int) : Prop := W.heap[b]? = some (.cells #[.int .i64 k, .int .i64 l0, .int .i64 c0, .int .i64 l1, .int .i64 c1] 27 (0, 0))
abbrev chV (k l0 c0 l1 c1 : Int) : Value := .agg #[.int .i64 k, .int .i64 l0, .int .i64 c0, .int .i64 l1, .int .i64 c1]
namespace ChAt
variable {W W' : World} {b : Nat} {k l0 c0 l1 c1 : Int}
theorem lt (h : ChAt W b k l0 c0 l1 c1) : b < W.heap.size := (Array.getElem?_eq_some_iff.1 h).1
theorem keeps {F : Nat → Prop} (h : ChAt W b k l0 c0 l1 c1) (hk : Keeps F W W') (hF : ¬ F b) : ChAt W' b k l0 c0 l1 c1 := by
  unfold ChAt; rw [hk.block _ h.lt hF]; exact h
theorem sees (h : ChAt W b k l0 c0 l1 c1) (hs : Sees W W') : ChAt W' b k l0 c0 l1 c1 := h.keeps (Keeps.of_sees (F := fun _ => False) hs) (fun h => h)
theorem c (h : ChAt W b k l0 c0 l1 c1) : W.cell? ⟨b, 0, none⟩ = some (.int .i64 k) ∧ W.cell? ⟨b, 1, none⟩ = some (.int .i64 l0) ∧ W.cell? ⟨b, 2, none⟩ = some (.int .i64 c0) ∧ W.cell? ⟨b, 3, none⟩ = some (.int .i64 l1) ∧ W.cell? ⟨b, 4, none⟩ = some (.int .i64 c1) := by
  refine ⟨?_, ?_, ?_, ?_, ?_⟩ <;> rw [cell_of_row _ _ _ _ _ _ h] <;> rfl
theorem fr (h : ChAt W b k l0 c0 l1 c1) : ∀ i, W.frozen? ⟨b, i, none⟩ = false := fun i => frozen_of_row W b i _ _ h
end ChAt
theorem run_loadCh {W : World} {b : Nat} {k l0 c0 l1 c1 : Int} (h : ChAt W b k l0 c0 l1 c1) : (loadVar 27 ⟨b, 0, none⟩).run Tryd.prog W = .ok (chV k l0 c0 l1 c1) W :=
  run_load_agg 27 b 0 [.int .i64 k, .int .i64 l0, .int .i64 c0, .int .i64 l1, .int .i64 c1] ch_isAgg ch_sizeOf fun j x hx => by
    rw [Nat.zero_add, Go.cell_of_row W b _ _ _ _ h]
    simpa using hx
set_option maxHeartbeats 1000000 in
theorem choice41_any (k a b c d : Int) (w : World) : Calls Tryd.prog 25 #[.int .i64 k, .int .i64 a, .int .i64 b, .int .i64 c, .int .i64 d] w fun e w' => e = .returned (chV k a b c d) ∧ Sees w w' := by
  have KA := Lib.hid (fun l c W => at41_any l c W)
  go_enter Tryd.func25, Tryd.ntmps25
  go_upto_region 1 with fail
  refine wp_world fun W1 hW1 => ?_
  have h1 : ChAt W1 w.heap.size 0 0 0 0 0 := by subst hW1; exact heap_alloc_new w _
  have s0 : Sees w W1 := by subst hW1; exact (Sees.refl w).alloc _
  have H := Lib.hid h1
  have S0 := Lib.hid s0
  clear hW1 h1 s0
  go_wp2_with fail
  refine (KA.out _ _ _).mono ?_
  rintro e W2 ⟨rfl, s1⟩
  have S1 := Lib.hid (S0.out.trans s1)
  have H1 := Lib.hid (H.out.sees s1)
  clear s1 S0 H
  go_wp2_with fail
  refine (KA.out _ _ _).mono ?_
  rintro e W3 ⟨rfl, s2⟩
  have H2 := Lib.hid (H1.out.sees s2)
  have S2 := Lib.hid (S1.out.trans s2)
  obtain ⟨m0, m1, m2, m3, m5⟩ := H2.out.c
  have m4 := H2.out.fr
  clear s2 H1 S1
  go_wp2
  refine bodyPost_ret (results_one rfl rfl (run_loadCh (k := k) (l0 := a) (c0 := b) (l1 := c) (c1 := d) ?_)) rfl ⟨rfl, ?_⟩
  · have q1 := heap_setCell_same W3 w.heap.size 0 _ _ (.int .i64 k) H2.out
    have q2 := heap_setCell_same _ w.heap.size 1 _ _ (.int .i64 a) q1
    have q3 := heap_setCell_same _ w.heap.size 2 _ _ (.int .i64 b) q2
    have q4 := heap_setCell_same _ w.heap.size 3 _ _ (.int .i64 c) q3
    exact heap_setCell_same _ w.heap.size 4 _ _ (.int .i64 d) q4
  · repeat (first | exact S2.out | refine Sees.setCell ?_ (by first | exact Nat.le_refl _ | exact Nat.le_succ _ | (simp; done) | (simp; omega)) _ | refine Sees.alloc ?_ _ | refine Sees.drew ?_)
end Go.Proofs.YtooiiefipdjbjaaDoor
