/- choose.of and what is asked of a sheet (41). The tables hold what the program's text lays. What is asked of a sheet: in, row, logical; choose.Logical (41). The tables hold what the program's text lays. A sheet's logical lines; choose.Logical (41). The tables hold what the program's text lays. No condition. -/
import Derived.Test.YtfdolhppbimbmaaDoorSrC
import Derived.Deep.CutRange
namespace Go.Proofs.YtfdolhppbimbmaaDoor
set_option linter.unusedVariables false
set_option linter.unusedSimpArgs false
open Go.RowKit

/-- Are lines rows, or the error 2? -/
def ofE (ls : List Ln) (first : Int) : Int := if rowsOk ls first && decide (ls.length ≤ 1000) then 0 else 2
theorem ofE_rows {ls : List Ln} {first : Int} (h : rowsOk ls first = false) : ofE ls first = 2 := by unfold ofE; rw [h]; rfl
theorem ofE_long {ls : List Ln} {first : Int} (h : ¬ ls.length ≤ 1000) : ofE ls first = 2 := by unfold ofE; rw [decide_eq_false h]; simp
theorem ofE_ok {ls : List Ln} {first : Int} (h1 : rowsOk ls first = true) (h2 : ls.length ≤ 1000) : ofE ls first = 0 := by unfold ofE; rw [h1, decide_eq_true h2]; rfl
theorem ofE_zero {ls : List Ln} {first : Int} (h : ofE ls first = 0) : rowsOk ls first = true ∧ ls.length ≤ 1000 := by
  unfold ofE at h
  split at h
  · rename_i hh
    rw [Bool.and_eq_true, decide_eq_true_eq] at hh
    exact hh
  · cases h
set_option maxHeartbeats 2000000 in
theorem of_any (F : Nat → Prop) (v : Value) (xs : List Ln) (w : World) (ht : Tabs w) (ha : lnEl.Rd F w v xs) (hn : xs.length ≤ 1000000) (hnc : ∀ l ∈ xs, l.cells.length ≤ 1000000) (first : Int) :
    Calls Tryd.prog 97 #[v, .int .i64 first] w fun e w' => ((ofE xs first = 0 ∧ e = .returned (.tuple #[.agg #[v, .int .i64 first], .int .i64 0])) ∨ (ofE xs first = 2 ∧ e = .returned (.tuple #[.agg #[.slice none 0 0, .int .i64 0], .int .i64 2]))) ∧ Sees w w' := by
  have Hnc := Lib.hid hnc
  have Ht := Lib.hid ht
  obtain ⟨ao, ca, rfl, hca⟩ := ha.slice'
  have hw := Sees.refl w
  obtain ⟨n, hna⟩ : ∃ n, n = xs.length := ⟨_, rfl⟩
  rw [← hna] at ha hn
  rw [← hna]
  have Hna := Lib.hid hna
  have Ha := Lib.hid ha
  clear hna ha hca hnc ht
  go_enter Tryd.func97, Tryd.ntmps97
  rcases Bool.eq_false_or_eq_true (decide (first < 0)) with a1 | a1
  · have Hf : Hid (ofE xs first = 2) := ofE_rows (by unfold rowsOk; rw [decide_eq_false (p := first ≥ 0) (by have := of_decide_eq_true a1; omega)]; simp)
    go_wp2
    refine bodyPost_ret_by (v := .tuple #[.agg #[.slice none 0 0, .int .i64 0], .int .i64 2]) (by simp [results, Tryd.results97, go_sem]) rfl ⟨.inr ⟨Hf.out, rfl⟩, ?_⟩
    exact (Sees.refl w).alloc _
  rcases Bool.eq_false_or_eq_true (decide (first > 1099511627776)) with a2 | a2
  · have Hf : Hid (ofE xs first = 2) := ofE_rows (by unfold rowsOk; rw [decide_eq_false (p := first ≤ 1099511627776) (by have := of_decide_eq_true a2; omega)]; simp)
    go_wp2
    refine bodyPost_ret_by (v := .tuple #[.agg #[.slice none 0 0, .int .i64 0], .int .i64 2]) (by simp [results, Tryd.results97, go_sem]) rfl ⟨.inr ⟨Hf.out, rfl⟩, ?_⟩
    exact (Sees.refl w).alloc _
  rcases Nat.lt_or_ge 1000 n with a3 | a3
  · have Hf : Hid (ofE xs first = 2) := ofE_long (by have := Hna.out; omega)
    have a4 : decide ((n : Int) > 1000) = true := decide_eq_true (by omega)
    go_wp2
    refine bodyPost_ret_by (v := .tuple #[.agg #[.slice none 0 0, .int .i64 0], .int .i64 2]) (by simp [results, Tryd.results97, go_sem]) rfl ⟨.inr ⟨Hf.out, rfl⟩, ?_⟩
    exact (Sees.refl w).alloc _
  have a4 : decide ((n : Int) > 1000) = false := decide_eq_false (by omega)
  have HR : Hid (scrB xs = true → rowsOk xs first = true) := fun h => by
    unfold rowsOk
    rw [h, decide_eq_true (p := first ≥ 0) (by have := of_decide_eq_false a1; omega), decide_eq_true (p := first ≤ 1099511627776) (by have := of_decide_eq_false a2; omega)]
    rfl
  go_wp2
  obtain ⟨B, hB⟩ : ∃ B, B = w.heap.size := ⟨_, rfl⟩
  have HB0 : Hid ((w.alloc (.cells #[.slice none 0 0, .int .i64 0] 143)).heap[B]? = some (.cells #[.slice none 0 0, .int .i64 0] 143 (0, 0))) := by rw [hB]; exact heap_alloc_new w _
  have hBs : B < (w.alloc (.cells #[.slice none 0 0, .int .i64 0] 143)).heap.size := (Array.getElem?_eq_some_iff.1 HB0.out).1
  have HS0 : Hid (Sees w (w.alloc (.cells #[.slice none 0 0, .int .i64 0] 143))) := (Sees.refl w).alloc _
  have HBW : Hid (w.heap.size ≤ B) := by unfold RowKit.Hid; omega
  generalize w.alloc (.cells #[.slice none 0 0, .int .i64 0] 143) = w0 at *
  rw [← hB]
  clear hB
  have HBK : Hid (∀ W, Sees w0 W → W.heap[B]? = some (.cells #[.slice none 0 0, .int .i64 0] 143 (0, 0))) := fun W h => by rw [h.block _ hBs]; exact HB0.out
  go_loopw [22] (fun i wr => ∃ k : Nat, k ≤ n ∧ i = .int .i64 k ∧ (xs.take k).all (scrAt (cols xs)) = true ∧ Sees w0 wr) (fun i _ => n - (intOf i).toNat)
  case atStart => exact ⟨0, by omega, rfl, by simp, Sees.refl _⟩
  case round =>
    obtain ⟨k, hk, rfl, hm, hS0⟩ := hrel
    have hS := HS0.out.trans hS0
    have HSQ := Lib.hid hS0
    have Hm := Lib.hid hm; clear hm hw
    by_cases hlt : k < n
    · obtain ⟨b1, o1, x, a1, m1, rfl, _, hx, _, x1, x2, x3⟩ := (Ha.out.sees hS).line hlt
      obtain ⟨b2, o2, y, a2, m2, hb2, _, hy, _, y1, y2, y3⟩ := (Ha.out.sees hS).line (show 0 < n by omega)
      cases hb2
      rw [Nat.zero_mul, Nat.add_zero] at y1 y2
      have X3 := Lib.hid x3
      have Y1 := Lib.hid y1
      have HT := Lib.hid (Ht.out.sees hS)
      have HS := Lib.hid hS
      have Hx := Lib.hid hx
      have Hxl := Lib.hid (Hnc.out x (List.mem_iff_getElem?.2 ⟨_, hx⟩))
      have hcols := cols_of hy
      have hv : ∀ b1 b2 b3, lnOk x.cells = b1 → ((x.cells.length : Int) == 0) = b2 → (x.cells.length == y.cells.length) = b3 → scrAt (cols xs) x = (b1 && !b2 && b3) := by
        rintro _ _ _ rfl rfl rfl
        unfold scrAt; rw [hcols]
        congr 2
        rw [Bool.eq_iff_iff]; simp
      have Hv := Lib.hid hv
      clear hx hy x3 y1 y2 y3 Ha hcols hv hS hS0
      generalize hl1 : x.cells.length = n1 at *
      generalize hl2 : y.cells.length = n0 at *
      have H1 := Lib.hid hl1
      clear hl1 hl2
      have k0 : (0 : Nat) < n := by omega
      have k1 : (0 : Int) < n := by omega
      rcases ways3 (lnOk x.cells) (!((n1 : Int) == 0)) (n1 == n0) with ⟨e1, e2, e3⟩ | ⟨e1, e2, e3⟩ | ⟨e1, e2⟩ | e1
      all_goals
        (try (have e2' : ((n1 : Int) == 0) = _ := Bool.not_eq_eq_eq_not.1 e2))
        go_wp2
        refine wp_world fun w1 hw1 => ?_
        have hs1 : Sees wr w1 := by subst hw1; exact (Sees.refl wr).alloc _
        have c0 : w1.cell? ⟨wr.heap.size, 0, none⟩ = some (.slice a1 n1 m1) := by subst hw1; simp
        have c1 : w1.cell? ⟨wr.heap.size, 1, none⟩ = some (.bool x.soft) := by subst hw1; simp
        have g1 := fun d os => (sees_grow w1 d os).cell c0
        have g2 := fun d os => (sees_grow w1 d os).cell c1
        have g3 := fun d os => (sees_grow w1 d os).cell (hs1.cell Y1.out)
        have Hs1 := Lib.hid hs1
        clear hw1 hs1 c0 c1 x1 x2
        refine wp_region_quiet_below (by kernel_rfl) (by kernel_rfl) ?_
        repeat (first | go_big_quiet_skip | (go_big_quiet_want; go_big_quiet_op; go_big_quiet_on))
        (go_big_quiet_want; go_big_quiet_op; apply Exists.intro; refine ⟨fun p => Calls.regrown_of (lineValid_any _ x.cells x.soft _ (HT.out.sees (Hs1.out.trans (sees_grow w1 _ _))) (X3.out.sees (Hs1.out.trans (sees_grow w1 _ _))).rdCells (by rw [H1.out]; exact Hxl.out)), ?_⟩; go_big_quiet_on)
        repeat (first | go_big_quiet_skip | (go_big_quiet_want; go_big_quiet_op; go_big_quiet_on))
        refine wpQuiet_nil ?_; intro w2 hw2'; have hw2 := regrown_sees hw2'; clear hw2'
        have hr := HBK.out _ (HSQ.out.trans (Hs1.out.trans hw2))
        have f0 := frozen_of_row _ B 0 _ _ hr
        have f1 := frozen_of_row _ B 1 _ _ hr
        have z0 : w2.cell? ⟨B, 0, none⟩ = some (.slice none 0 0) := by rw [cell_of_row _ _ _ _ _ _ hr]; rfl
        have z1 : w2.cell? ⟨B, 1, none⟩ = some (.int .i64 0) := by rw [cell_of_row _ _ _ _ _ _ hr]; rfl
        clear hr
        go_wp2
      · have := Hv.out true false true e1 (by simpa using e2) e3
        go_roundw
        case rel => exact ⟨k + 1, by omega, by go_num, scr_more Hx.out this Hm.out, HSQ.out.trans (Hs1.out.trans hw2)⟩
        case measure => simp [intOf]; omega
      · have := scrB_bad Hx.out (Hv.out true false false e1 (by simpa using e2) e3)
        refine bodyPost_ret_by (v := .tuple #[.agg #[.slice none 0 0, .int .i64 0], .int .i64 2]) (by simp [results, Tryd.results97, go_sem, z0, z1]) rfl ⟨.inr ⟨ofE_rows (rowsOk_no (first := first) this), rfl⟩, ?_⟩
        exact (((HS.out.trans (Hs1.out.trans hw2)).setCell (p := ⟨B, 0, none⟩) HBW.out _).setCell (p := ⟨B, 1, none⟩) HBW.out _)
      · have := scrB_bad Hx.out ((Hv.out true true _ e1 (by simpa using e2) rfl).trans (by simp))
        refine bodyPost_ret_by (v := .tuple #[.agg #[.slice none 0 0, .int .i64 0], .int .i64 2]) (by simp [results, Tryd.results97, go_sem, z0, z1]) rfl ⟨.inr ⟨ofE_rows (rowsOk_no (first := first) this), rfl⟩, ?_⟩
        exact (((HS.out.trans (Hs1.out.trans hw2)).setCell (p := ⟨B, 0, none⟩) HBW.out _).setCell (p := ⟨B, 1, none⟩) HBW.out _)
      · have := scrB_bad Hx.out ((Hv.out false _ _ e1 rfl rfl).trans (by simp))
        refine bodyPost_ret_by (v := .tuple #[.agg #[.slice none 0 0, .int .i64 0], .int .i64 2]) (by simp [results, Tryd.results97, go_sem, z0, z1]) rfl ⟨.inr ⟨ofE_rows (rowsOk_no (first := first) this), rfl⟩, ?_⟩
        exact (((HS.out.trans (Hs1.out.trans hw2)).setCell (p := ⟨B, 0, none⟩) HBW.out _).setCell (p := ⟨B, 1, none⟩) HBW.out _)
    · obtain rfl : k = n := by omega
      have hsc : scrB xs = true := by
        have := Hm.out
        rw [List.take_of_length_le (by rw [← Hna.out]; exact Nat.le_refl _)] at this
        exact this
      have Hok := Lib.hid (HR.out hsc)
      have Hl : Hid (xs.length ≤ 1000) := by have := Hna.out; unfold Hid; omega
      have hr := HBK.out _ HSQ.out
      have z0 : wr.cell? ⟨B, 0, none⟩ = some (.slice none 0 0) := by rw [cell_of_row _ _ _ _ _ _ hr]; rfl
      have z1 : wr.cell? ⟨B, 1, none⟩ = some (.int .i64 0) := by rw [cell_of_row _ _ _ _ _ _ hr]; rfl
      have f0 := frozen_of_row _ B 0 _ _ hr
      have f1 := frozen_of_row _ B 1 _ _ hr
      have HS := Lib.hid hS
      clear hsc hr hS hS0
      go_wp2
      refine bodyPost_ret_by (v := .tuple #[.agg #[.slice ao k ca, .int .i64 first], .int .i64 0]) (by simp [results, Tryd.results97, go_sem, z0, z1]) rfl ⟨.inl ⟨ofE_ok Hok.out Hl.out, rfl⟩, ?_⟩
      exact ((HS.out.setCell (p := ⟨B, 0, none⟩) HBW.out _).setCell (p := ⟨B, 1, none⟩) HBW.out _)
end Go.Proofs.YtfdolhppbimbmaaDoor

namespace Go.Proofs.YtfdolhppbimbmaaDoor
set_option linter.unusedVariables false
set_option linter.unusedSimpArgs false
open Go.RowKit

/-- Is a place in rows? -/
def inP (ls : List Ln) (first l c : Int) : Bool := decide (first ≤ l) && decide (l < first + ls.length) && (decide (0 ≤ c) && decide (c < cols ls))
def softAt (ls : List Ln) (i : Nat) : Bool := match ls[i]? with
  | some x => x.soft
  | none => false
/-- The first and the last row of the logical line of a row. -/
def topI (ls : List Ln) : Nat → Nat
  | 0 => 0
  | i + 1 => if softAt ls i then topI ls i else i + 1
def botF (ls : List Ln) : Nat → Nat → Nat
  | 0, i => i
  | f + 1, i => if decide (i + 1 < ls.length) && softAt ls i then botF ls f (i + 1) else i
def botI (ls : List Ln) (i : Nat) : Nat := botF ls (ls.length - i) i
theorem topI_le (ls : List Ln) : ∀ i, topI ls i ≤ i
  | 0 => Nat.le_refl _
  | i + 1 => by
    rw [topI]
    split
    · have := topI_le ls i; omega
    · exact Nat.le_refl _
theorem botF_ge (ls : List Ln) : ∀ f i, i ≤ botF ls f i
  | 0, i => Nat.le_refl _
  | f + 1, i => by
    rw [botF]
    split
    · have := botF_ge ls f (i + 1); omega
    · exact Nat.le_refl _
theorem botI_ge (ls : List Ln) (i : Nat) : i ≤ botI ls i := botF_ge ls _ i
theorem botF_lt (ls : List Ln) : ∀ f i, i < ls.length → botF ls f i < ls.length
  | 0, i, h => h
  | f + 1, i, h => by
    rw [botF]
    split
    · rename_i hc
      rw [Bool.and_eq_true, decide_eq_true_eq] at hc
      exact botF_lt ls f (i + 1) hc.1
    · exact h
theorem botI_lt {ls : List Ln} {i : Nat} (h : i < ls.length) : botI ls i < ls.length := botF_lt ls _ i h
theorem botI_step {ls : List Ln} {i : Nat} (h1 : i + 1 < ls.length) (h2 : softAt ls i = true) : botI ls i = botI ls (i + 1) := by
  unfold botI
  rw [show ls.length - i = (ls.length - (i + 1)) + 1 by omega, botF, decide_eq_true h1, h2]
  rfl
theorem botI_end {ls : List Ln} {i : Nat} (h : ¬ (i + 1 < ls.length) ∨ softAt ls i = false) : botI ls i = i := by
  unfold botI
  cases hf : ls.length - i with
  | zero => rfl
  | succ f =>
    rw [botF, if_neg]
    rcases h with h | h
    · rw [decide_eq_false h]; simp
    · rw [h]; simp
theorem softAt_of {ls : List Ln} {i : Nat} {x : Ln} (h : ls[i]? = some x) : softAt ls i = x.soft := by unfold softAt; rw [h]
theorem bot_run {ls : List Ln} : ∀ (m i : Nat), i < ls.length → ls.length - i ≤ m → botI ls i + 1 = i + runL (ls.drop i)
  | 0, i, h, hm => by omega
  | m + 1, i, h, hm => by
    obtain ⟨x, hx⟩ : ∃ x, ls[i]? = some x := ⟨_, List.getElem?_eq_getElem h⟩
    have hd : ls.drop i = x :: ls.drop (i + 1) := by rw [List.drop_eq_getElem_cons h, (List.getElem?_eq_some_iff.1 hx).2]
    have hs := softAt_of hx
    have he : (ls.drop (i + 1)).isEmpty = decide (¬ (i + 1 < ls.length)) := by
      rw [Bool.eq_iff_iff, List.isEmpty_iff, decide_eq_true_eq, List.drop_eq_nil_iff]
      omega
    rw [hd, runL, he]
    by_cases hl : i + 1 < ls.length
    · cases hsf : x.soft
      · rw [botI_end (.inr (by rw [hs, hsf]))]
        simp
      · rw [botI_step hl (by rw [hs, hsf]), bot_run m (i + 1) hl (by omega), if_pos (by simp [hl])]
        omega
    · rw [botI_end (.inl hl), if_neg (by simp [hl])]
set_option maxHeartbeats 2000000 in
set_option maxRecDepth 100000 in
theorem sh_in (F : Nat → Prop) (v : Value) (ls : List Ln) (w : World) (ha : lnEl.Rd F w v ls) (hr : ∀ x ∈ ls, x.cells.length = cols ls) (hn : ls.length ≤ 1000000) (first l c : Int) (h0 : 0 ≤ first) (h1 : first ≤ 1099511627776) (hl0 : -9223372036854775808 ≤ l) (hl1 : l ≤ 9223372036854775807) :
    Calls Tryd.prog 86 #[.agg #[v, .int .i64 first], .agg #[.int .i64 l, .int .i64 c]] w fun e w' => e = .returned (.bool (inP ls first l c)) ∧ Sees w w' := by
  obtain ⟨a, cp, rfl, _⟩ := ha.slice'
  obtain ⟨n, hnn⟩ : ∃ n, n = ls.length := ⟨_, rfl⟩
  rw [← hnn] at ha hn ⊢
  obtain ⟨R, hR⟩ : ∃ R, R = inP ls first l c := ⟨_, rfl⟩
  have hRe : R = ((decide (first ≤ l) && decide (l < first + (n : Int))) && (decide (0 ≤ c) && decide (c < (cols ls : Int)))) := by rw [hR, hnn]; rfl
  rw [← hR]
  obtain ⟨i, hi⟩ : ∃ i, i = IntKind.i64.wrap (l - first) := ⟨_, rfl⟩
  have hw1 : IntKind.i64.wrap (l - first) = i := hi.symm
  have hw2 : wrap64 (l - first) = i := (IntWalk.i64_left _).symm.trans hw1
  have hin : (decide (first ≤ l) && decide (l < first + (n : Int))) = (decide (i ≥ 0) && decide (i < (n : Int))) := by
    rw [Bool.eq_iff_iff, Bool.and_eq_true, Bool.and_eq_true, decide_eq_true_eq, decide_eq_true_eq, decide_eq_true_eq, decide_eq_true_eq]
    rw [← hw2]
    unfold wrap64
    omega
  have hil : i ≥ 0 ∧ i < (n : Int) → i = l - first := fun h => by
    rw [← hw2] at h ⊢
    unfold wrap64 at h ⊢
    omega
  rw [hin] at hRe
  have HA := Lib.hid ha
  have HRE := Lib.hid hRe
  clear hi hR hRe hin ha hnn
  go_enter Tryd.func86, Tryd.ntmps86
  go_upto_region 2 with fail
  refine wp_world fun W1 hW1 => ?_
  have c0 : W1.cell? ⟨w.heap.size, 0, none⟩ = some (.slice a n cp) := by subst hW1; simp
  have c1 : W1.cell? ⟨w.heap.size + 1, 1, none⟩ = some (.int .i64 c) := by subst hW1; simp
  have s1 : Sees w W1 := by subst hW1; exact ((Sees.refl w).alloc _).alloc _
  have S1 := Lib.hid s1
  have gc0 := fun d os => (sees_grow W1 d os).cell c0
  have gc1 := fun d os => (sees_grow W1 d os).cell c1
  clear hW1 c0 c1 s1
  rcases Bool.eq_false_or_eq_true (decide (i ≥ 0)) with g1 | g1
  · rcases Bool.eq_false_or_eq_true (decide (i < (n : Int))) with g2 | g2
    · rcases Bool.eq_false_or_eq_true (decide (c ≥ 0)) with g3 | g3
      · have gi0 := of_decide_eq_true g1
        have gi1 := of_decide_eq_true g2
        obtain ⟨k, rfl⟩ : ∃ k : Nat, i = k := ⟨i.toNat, by omega⟩
        have hk : k < n := by omega
        obtain ⟨b1, o1, x, a1, m1, rfl, _, hx, _, y0, y1, _⟩ := HA.out.line hk
        have hxc : x.cells.length = cols ls := hr x (List.mem_iff_getElem?.2 ⟨_, hx⟩)
        rw [hxc] at y0
        have y0' := S1.out.cell y0
        have gy0 := fun d os => (sees_grow W1 d os).cell y0'
        have HF : Hid (R = decide (c < (cols ls : Int))) := by
          unfold RowKit.Hid
          rw [HRE.out, g1, g2, decide_eq_true (p := 0 ≤ c) (of_decide_eq_true g3)]
          rfl
        generalize cols ls = m at *
        have gi2 : (k : Int) < n := gi1
        clear hx hxc hil hr hw1 y0 y0' y1
        refine wp_region_quiet_below (by kernel_rfl) (by kernel_rfl) ?_
        repeat (first | go_big_quiet_skip | (go_big_quiet_want; go_big_quiet_op; go_big_quiet_on))
        refine wpQuiet_nil ?_; intro w2 hw2'; have hw2 := regrown_sees hw2'; clear hw2'
        go_wp2
        go_ret
        exact ⟨by rw [HF.out]; rfl, S1.out.trans hw2⟩
      · have HF : Hid (R = false) := by unfold RowKit.Hid; rw [HRE.out, decide_eq_false (p := 0 ≤ c) (of_decide_eq_false g3)]; simp
        refine wp_region_quiet_below (by kernel_rfl) (by kernel_rfl) ?_
        repeat (first | go_big_quiet_skip | (go_big_quiet_want; go_big_quiet_op; go_big_quiet_on))
        refine wpQuiet_nil ?_; intro w2 hw2'; have hw2 := regrown_sees hw2'; clear hw2'
        go_wp2
        go_ret
        exact ⟨by rw [HF.out]; rfl, S1.out.trans hw2⟩
    · have HF : Hid (R = false) := by unfold RowKit.Hid; rw [HRE.out, g2]; simp
      refine wp_region_quiet_below (by kernel_rfl) (by kernel_rfl) ?_
      repeat (first | go_big_quiet_skip | (go_big_quiet_want; go_big_quiet_op; go_big_quiet_on))
      refine wpQuiet_nil ?_; intro w2 hw2'; have hw2 := regrown_sees hw2'; clear hw2'
      go_wp2
      go_ret
      exact ⟨by rw [HF.out]; rfl, S1.out.trans hw2⟩
  · have HF : Hid (R = false) := by unfold RowKit.Hid; rw [HRE.out, g1]; simp
    refine wp_region_quiet_below (by kernel_rfl) (by kernel_rfl) ?_
    repeat (first | go_big_quiet_skip | (go_big_quiet_want; go_big_quiet_op; go_big_quiet_on))
    refine wpQuiet_nil ?_; intro w2 hw2'; have hw2 := regrown_sees hw2'; clear hw2'
    go_wp2
    go_ret
    exact ⟨by rw [HF.out]; rfl, S1.out.trans hw2⟩
theorem sh_row (b o n cp k : Nat) (a1 : Option Addr) (m1 c1 : Nat) (so : Bool) (first number : Int) (w : World) (hk : k < n) (hn : n ≤ 1000000) (h0 : 0 ≤ first) (h1 : first ≤ 1099511627776) (hnum : number = first + k) (y0 : w.cell? ⟨b, o + k * 2, none⟩ = some (.slice a1 m1 c1)) (y1 : w.cell? ⟨b, o + k * 2 + 1, none⟩ = some (.bool so)) :
    Calls Tryd.prog 92 #[.agg #[.slice (some ⟨b, o, none⟩) n cp, .int .i64 first], .int .i64 number] w fun e w' => e = .returned (.agg #[.slice a1 m1 c1, .bool so]) ∧ Sees w w' := by
  have e1 : number - first = (k : Int) := by omega
  have e2 : IntKind.i64.wrap (number - first) = (k : Int) := by rw [e1]; exact IntWalk.i64_in _ (by omega)
  have e3 : (k : Int) < n := by omega
  have s2 : Sees w ((w.alloc (.cells #[.slice (some ⟨b, o, none⟩) n cp, .int .i64 first] 143)).alloc (.cells #[.slice none 0 0, .bool false] 37)) := ((Sees.refl w).alloc _).alloc _
  have z0 := s2.cell y0
  have z1 := s2.cell y1
  clear hnum s2
  go_enter Tryd.func92, Tryd.ntmps92
  go_wp2
  refine bodyPost_ret_by (v := .agg #[.slice a1 m1 c1, .bool so]) (by simp [results, Tryd.results92, go_sem]) rfl ⟨rfl, ?_⟩
  repeat (first | exact (Sees.refl w) | refine Sees.setCell ?_ (by first | exact Nat.le_refl _ | exact Nat.le_succ _ | (simp; done) | (simp; omega)) _ | refine Sees.alloc ?_ _ | refine Sees.drew ?_)
end Go.Proofs.YtfdolhppbimbmaaDoor

namespace Go.Proofs.YtfdolhppbimbmaaDoor
set_option linter.unusedVariables false
set_option linter.unusedSimpArgs false
open Go.RowKit

theorem run_soft (u : Value) (so : Bool) (w : World) : (Instr.field 37 (.agg #[u, .bool so]) 1).run Tryd.prog w = .ok (.bool so) w := by kernel_rfl
theorem run_cells (u v : Value) (w : World) : (Instr.field 37 (.agg #[u, v]) 0).run Tryd.prog w = .ok u w := by kernel_rfl
set_option maxHeartbeats 4000000 in
set_option maxRecDepth 100000 in
theorem sh_logical (F : Nat → Prop) (v : Value) (ls : List Ln) (w : World) (ha : lnEl.Rd F w v ls) (hn : ls.length ≤ 1000000) (first : Int) (h0 : 0 ≤ first) (h1 : first ≤ 1099511627776) (i : Nat) (hi : i < ls.length) (number : Int) (hnum : number = first + i) :
    Calls Tryd.prog 98 #[.agg #[v, .int .i64 first], .int .i64 number] w fun e w' => e = .returned (.tuple #[.int .i64 (first + topI ls i), .int .i64 (first + botI ls i)]) ∧ Sees w w' := by
  obtain ⟨a, cp, rfl, _⟩ := ha.slice'
  obtain ⟨n, hnn⟩ : ∃ n, n = ls.length := ⟨_, rfl⟩
  rw [← hnn] at ha hn hi ⊢
  have HA := Lib.hid ha
  have HN := Lib.hid hnn
  have HNUM := Lib.hid hnum
  obtain ⟨X, hX⟩ : ∃ X : Int, X = first + topI ls i := ⟨_, rfl⟩
  obtain ⟨Y, hY⟩ : ∃ Y : Int, Y = first + botI ls i := ⟨_, rfl⟩
  rw [← hX, ← hY]
  have HX := Lib.hid hX
  have HY := Lib.hid hY
  have hnr : number ≤ 1099512627776 ∧ 0 ≤ number := by omega
  clear ha hnn hnum hX hY
  go_enter Tryd.func98, Tryd.ntmps98
  go_upto_block 0 with fail
  refine wp_world fun W0 hW0 => ?_
  have C0 : Hid (W0.cell? ⟨w.heap.size, 0, none⟩ = some (.slice a n cp)) := by subst hW0; unfold RowKit.Hid; simp
  have C1 : Hid (W0.cell? ⟨w.heap.size, 1, none⟩ = some (.int .i64 first)) := by subst hW0; unfold RowKit.Hid; simp
  have HS0 : Hid (Sees w W0) := by subst hW0; exact (Sees.refl w).alloc _
  clear hW0
  obtain ⟨b, hb⟩ : ∃ b, b = w.heap.size := ⟨_, rfl⟩
  rw [← hb] at C0 C1 ⊢
  clear hb
  go_cut [6] from 10 to 22 (fun v6 wx => v6 = .int .i64 X ∧ Sees W0 wx)
  case first =>
    go_wp2_with fail
    go_loopw [6] (fun v W => ∃ (j : Nat) (T : Int), j ≤ i ∧ v = .int .i64 T ∧ Hid (T = first + j) ∧ Hid (topI ls i = topI ls j) ∧ Sees W0 W) (fun v _ => (intOf v - first).toNat)
    case atStart => exact ⟨i, number, Nat.le_refl _, rfl, HNUM, rfl, Sees.refl _⟩
    case round =>
      obtain ⟨j, T, hj, rfl, hT, ht, hS⟩ := hrel
      have HS := Lib.hid hS
      have c0 := hS.cell C0.out
      have c1 := hS.cell C1.out
      clear hS
      cases j with
      | zero =>
        have hTX : X = T := by have := hT.out; have := HX.out; rw [ht.out] at this; rw [this, hT.out]; rfl
        have hTf : T = first := by have := hT.out; omega
        have u1 : decide (T > first) = false := decide_eq_false (by omega)
        have u2 : ¬ (first < T) := by omega
        have HTX := Lib.hid hTX
        clear ht hTX hTf
        go_wp2_with fail
        go_meet
        exact ⟨by rw [HTX.out], HS.out⟩
      | succ q =>
        have hTq : T - 1 = first + q := by have := hT.out; omega
        have hqn : q < n := by omega
        obtain ⟨b1, o1, x, a1, m1, rfl, _, hx, _, y0, y1, _⟩ := HA.out.line hqn
        have u1 : decide (T > first) = true := decide_eq_true (by have := hT.out; omega)
        have u2 : first < T := by have := hT.out; omega
        obtain ⟨T1, hT1⟩ : ∃ T1 : Int, T1 = T - 1 := ⟨_, rfl⟩
        have u3 : T - 1 = T1 := hT1.symm
        have hTr : 0 ≤ T1 ∧ T1 ≤ 1099512627776 := by omega
        have KR : Hid (∀ W, Sees w W → Calls Tryd.prog 92 #[.agg #[.slice (some ⟨b1, o1, none⟩) n cp, .int .i64 first], .int .i64 T1] W fun e w' => e = .returned (.agg #[.slice a1 x.cells.length m1, .bool x.soft]) ∧ Sees W w') := fun W hs =>
          sh_row b1 o1 n cp q a1 x.cells.length m1 x.soft first T1 W hqn hn h0 h1 (by omega) (hs.cell y0) (hs.cell y1)
        have HT1 : Hid (T1 = first + q) := by unfold RowKit.Hid; omega
        have hsf := softAt_of hx
        have HTOP : Hid (topI ls i = if x.soft then topI ls q else q + 1) := by unfold RowKit.Hid; rw [ht.out, topI, hsf]
        generalize x.soft = so at *
        have hms : Hid ((T1 - first).toNat < (T - first).toNat) := by have := hT.out; unfold RowKit.Hid; omega
        clear hx y0 y1 hTq hT1 hsf ht
        go_wp2_with fail
        refine (KR.out _ (HS0.out.trans HS.out)).mono ?_
        rintro e W3 ⟨rfl, hs⟩
        have HS3 := Lib.hid (HS.out.trans hs)
        have hfd := fun W so => run_soft (.slice a1 x.cells.length m1) so W
        clear hs c0 c1 KR
        cases so
        · have HTX : Hid (X = T) := by unfold RowKit.Hid; rw [HX.out, HTOP.out, hT.out]; rfl
          go_wp2_with fail
          go_meet
          exact ⟨by rw [HTX.out], HS3.out⟩
        · go_wp2
          have hfin : ∃ (j : Nat) (T2 : Int), j ≤ i ∧ Value.int .i64 T1 = .int .i64 T2 ∧ Hid (T2 = first + j) ∧ Hid (topI ls i = topI ls j) ∧ Sees W0 W3 := ⟨q, T1, by omega, rfl, HT1, HTOP.out, HS3.out⟩
          go_roundw
          case rel => first | exact hfin | ((repeat apply Exists.intro); exact ⟨hfin, rfl⟩)
          case measure => exact hms.out
  case rest =>
    obtain ⟨rfl, hsc⟩ := hcut
    have HSc := Lib.hid hsc
    clear hsc
    go_wp2_with fail
    go_loopw [7] (fun v W => ∃ (j : Nat) (T : Int), j < n ∧ v = .int .i64 T ∧ Hid (T = first + j) ∧ Hid (botI ls i = botI ls j) ∧ Sees W0 W) (fun v _ => (first + n - intOf v).toNat)
    case atStart => exact ⟨i, number, hi, rfl, HNUM, rfl, HSc.out⟩
    case round =>
      obtain ⟨j, T, hj, rfl, hT, ht, hS⟩ := hrel
      have HS := Lib.hid hS
      have c0 := hS.cell C0.out
      have c1 := hS.cell C1.out
      clear hS HSc
      obtain ⟨b1, o1, x, a1, m1, rfl, _, hx, _, y0, y1, _⟩ := HA.out.line hj
      have hTr : T ≤ 1099512627776 ∧ 0 ≤ T := by have := hT.out; omega
      have KR : Hid (∀ W, Sees w W → Calls Tryd.prog 92 #[.agg #[.slice (some ⟨b1, o1, none⟩) n cp, .int .i64 first], .int .i64 T] W fun e w' => e = .returned (.agg #[.slice a1 x.cells.length m1, .bool x.soft]) ∧ Sees W w') := fun W hs =>
        sh_row b1 o1 n cp j a1 x.cells.length m1 x.soft first T W hj hn h0 h1 hT.out (hs.cell y0) (hs.cell y1)
      have v1 : T - first = (j : Int) := by have := hT.out; omega
      have hsf := softAt_of hx
      have HSF := Lib.hid hsf
      generalize x.soft = so at *
      clear hx y0 y1 hsf
      by_cases hj1 : j + 1 < n
      · have v2 : decide ((j : Int) + 1 < (n : Int)) = true := decide_eq_true (by omega)
        have v3 : (j : Int) + 1 < (n : Int) := by omega
        go_wp2_with fail
        refine (KR.out _ (HS0.out.trans HS.out)).mono ?_
        rintro e W3 ⟨rfl, hs⟩
        have HS3 := Lib.hid (HS.out.trans hs)
        have hfd := fun W so => run_soft (.slice a1 x.cells.length m1) so W
        clear hs c0 c1 KR
        cases so
        · have HTY : Hid (Y = T) := by unfold RowKit.Hid; rw [HY.out, ht.out, botI_end (.inr HSF.out), hT.out]
          go_wp2
          go_ret2
          exact ⟨by rw [HTY.out]; rfl, HS0.out.trans HS3.out⟩
        · have HT1 : Hid (T + 1 = first + (j + 1 : Nat)) := by have := hT.out; unfold RowKit.Hid; omega
          have HBT : Hid (botI ls i = botI ls (j + 1)) := by unfold RowKit.Hid; rw [ht.out, botI_step (by have := HN.out; omega) HSF.out]
          have hms : Hid ((first + n - (T + 1)).toNat < (first + n - T).toNat) := by have := hT.out; unfold RowKit.Hid; omega
          go_wp2
          exact ⟨⟨j + 1, T + 1, hj1, rfl, HT1, HBT, HS3.out⟩, hms.out⟩
      · have v2 : decide ((j : Int) + 1 < (n : Int)) = false := decide_eq_false (by omega)
        have v3 : ¬ ((j : Int) + 1 < (n : Int)) := by omega
        have HTY : Hid (Y = T) := by unfold RowKit.Hid; rw [HY.out, ht.out, botI_end (.inl (by have := HN.out; omega)), hT.out]
        go_wp2
        go_ret2
        exact ⟨by rw [HTY.out]; rfl, HS0.out.trans HS.out⟩
set_option maxHeartbeats 2000000 in
set_option maxRecDepth 100000 in
/-- The numbers of a logical line's first and last row. -/
theorem logical_ok (F : Nat → Prop) (v : Value) (ls : List Ln) (w : World) (ht : Tabs w) (ha : lnEl.Rd F w v ls) (hn : ls.length ≤ 1000000) (hnc : ∀ l ∈ ls, l.cells.length ≤ 1000000) (first : Int) (hE : ofE ls first = 0) (i : Nat) (hi : i < ls.length) (c number : Int) (hnum : number = first + i) (hc0 : 0 ≤ c) (hc1 : c < cols ls) :
    Calls Tryd.prog 57 #[v, .int .i64 first, .agg #[.int .i64 number, .int .i64 c]] w fun e w' => e = .returned (.tuple #[.int .i64 (first + topI ls i), .int .i64 (first + botI ls i), .int .i64 0]) ∧ Sees w w' := by
  obtain ⟨a, cp, rfl, _⟩ := ha.slice'
  obtain ⟨n, hnn⟩ : ∃ n, n = ls.length := ⟨_, rfl⟩
  rw [← hnn] at ha ⊢
  obtain ⟨hro, hl⟩ := ofE_zero hE
  obtain ⟨hrow, f0, f1⟩ := rowsOk_ok hro
  have HA := Lib.hid ha
  have KO : Hid (∀ W, Sees w W → Calls Tryd.prog 97 #[.slice a n cp, .int .i64 first] W fun e w' => e = .returned (.tuple #[.agg #[.slice a n cp, .int .i64 first], .int .i64 0]) ∧ Sees W w') := fun W hs => (of_any F _ ls W (ht.sees hs) (ha.sees hs) hn hnc first).mono (by
    rintro e w' ⟨h | h, s⟩
    · exact ⟨h.2, s⟩
    · rw [hE] at h; cases h.1)
  have KI : Hid (∀ W, Sees w W → Calls Tryd.prog 86 #[.agg #[.slice a n cp, .int .i64 first], .agg #[.int .i64 number, .int .i64 c]] W fun e w' => e = .returned (.bool true) ∧ Sees W w') := fun W hs => by
    have q := sh_in F _ ls W (ha.sees hs) (fun x hx => (hrow x hx).1) hn first number c f0 f1 (by omega) (by omega)
    have e : inP ls first number c = true := by
      unfold inP
      rw [decide_eq_true (by omega), decide_eq_true (by omega), decide_eq_true hc0, decide_eq_true hc1]
      rfl
    rw [e] at q
    exact q
  have KL : Hid (∀ W, Sees w W → Calls Tryd.prog 98 #[.agg #[.slice a n cp, .int .i64 first], .int .i64 number] W fun e w' => e = .returned (.tuple #[.int .i64 (first + topI ls i), .int .i64 (first + botI ls i)]) ∧ Sees W w') := fun W hs =>
    sh_logical F _ ls W (ha.sees hs) hn first f0 f1 i hi number hnum
  obtain ⟨X, hX⟩ : ∃ X : Int, X = first + topI ls i := ⟨_, rfl⟩
  obtain ⟨Y, hY⟩ : ∃ Y : Int, Y = first + botI ls i := ⟨_, rfl⟩
  rw [← hX, ← hY] at KL ⊢
  have HE := Lib.hid hE
  clear ha hnn hro hl hrow hE ht hnum hX hY hi
  go_enter Tryd.func57, Tryd.ntmps57
  go_wp2_with fail
  refine (KO.out _ ((Sees.refl w).alloc _)).mono ?_
  rintro e W1 ⟨rfl, hs⟩
  have HS1 := Lib.hid (((Sees.refl w).alloc _).trans hs)
  have p0 : W1.cell? ⟨w.heap.size, 0, none⟩ = some (.int .i64 number) := by rw [hs.cells _ _ (by simp)]; simp
  have p1 : W1.cell? ⟨w.heap.size, 1, none⟩ = some (.int .i64 c) := by rw [hs.cells _ _ (by simp)]; simp
  clear hs KO
  go_upto_block 0 with fail
  refine wp_world fun W2 hW2 => ?_
  have hs2 : Sees W1 W2 := by subst hW2; exact (Sees.refl W1).alloc _
  have q0 : W2.cell? ⟨W1.heap.size, 0, none⟩ = some (.slice a n cp) := by subst hW2; simp
  have q1 : W2.cell? ⟨W1.heap.size, 1, none⟩ = some (.int .i64 first) := by subst hW2; simp
  replace p0 := hs2.cell p0
  replace p1 := hs2.cell p1
  have HS2 := Lib.hid (HS1.out.trans hs2)
  clear hW2 hs2 HS1
  go_wp2_with fail
  refine (KI.out _ HS2.out).mono ?_
  rintro e W3 ⟨rfl, hs⟩
  have HS3 := Lib.hid (HS2.out.trans hs)
  replace p0 := hs.cell p0
  replace q0 := hs.cell q0
  replace q1 := hs.cell q1
  clear hs p1
  go_wp2_with fail
  refine (KL.out _ HS3.out).mono ?_
  rintro e W4 ⟨rfl, hs⟩
  have HS4 := Lib.hid (HS3.out.trans hs)
  clear hs p0 q0 q1
  go_wp2
  go_ret3
  exact ⟨rfl, HS4.out⟩
end Go.Proofs.YtfdolhppbimbmaaDoor
