/- choose.of and what is asked of a sheet (41). The tables hold what the program's text lays. What is asked of a sheet: in, row, logical; choose.Logical (41). The tables hold what the program's text lays. A sheet's logical lines; choose.Logical (41). The tables hold what the program's text lays. choose: next and prev (41). choose: a cell of the rows (41). choose: is a cell of a word (41). No condition. -/
import Derived.Test.YtooiiefipdjbjaaDoorSrC
import Derived.Deep.CutRange
import Derived.Deep.CutBlock
import Derived.Test.YtooiiefipdjbjaaDoorSeqH
import Derived.Test.YtooiiefipdjbjaaDoorSrS
namespace Go.Proofs.YtooiiefipdjbjaaDoor
set_option linter.unusedVariables false
set_option linter.unusedSimpArgs false
open Go.RowKit

/-- Are lines rows, or the error 2? -/
def ofE (ls : List Ln) (first : Int) : Int := if rowsOk ls first && decide (ls.length ≤ 1000) then 0 else 2
theorem ofE_rows {ls : List Ln} {first : Int} (h : rowsOk ls first = false) : ofE ls first = 2 := by unfold ofE; rw [h]; rfl
theorem ofE_long {ls : List Ln} {first : Int} (h : ¬ ls.length ≤ 1000) : ofE ls first = 2 := by unfold ofE; rw [decide_eq_false h]; simp
theorem ofE_ok {ls : List Ln} {first : Int} (h1 : rowsOk ls first = true) (h2 : ls.length ≤ 1000) : ofE ls first = 0 := by unfold ofE; rw [h1, decide_eq_true h2]; rfl
theorem ofE_zero {ls : List Ln} {first : Int} (h : ofE ls first = 0) : rowsOk ls first = true ∧ ls.length ≤ 1000 := by
  unfold ofE at h
  split at h
  · rename_i hh
    rw [Bool.and_eq_true, decide_eq_true_eq] at hh
    exact hh
  · cases h
set_option maxHeartbeats 2000000 in
theorem of_any (F : Nat → Prop) (v : Value) (xs : List Ln) (w : World) (ht : Tabs w) (ha : lnEl.Rd F w v xs) (hn : xs.length ≤ 1000000) (hnc : ∀ l ∈ xs, l.cells.length ≤ 1000000) (first : Int) :
    Calls Tryd.prog 51 #[v, .int .i64 first] w fun e w' => ((ofE xs first = 0 ∧ e = .returned (.tuple #[.agg #[v, .int .i64 first], .int .i64 0])) ∨ (ofE xs first = 2 ∧ e = .returned (.tuple #[.agg #[.slice none 0 0, .int .i64 0], .int .i64 2]))) ∧ Sees w w' := by
  have Hnc := Lib.hid hnc
  have Ht := Lib.hid ht
  obtain ⟨ao, ca, rfl, hca⟩ := ha.slice'
  have hw := Sees.refl w
  obtain ⟨n, hna⟩ : ∃ n, n = xs.length := ⟨_, rfl⟩
  rw [← hna] at ha hn
  rw [← hna]
  have Hna := Lib.hid hna
  have Ha := Lib.hid ha
  clear hna ha hca hnc ht
  go_enter Tryd.func51, Tryd.ntmps51
  rcases Bool.eq_false_or_eq_true (decide (first < 0)) with a1 | a1
  · have Hf : Hid (ofE xs first = 2) := ofE_rows (by unfold rowsOk; rw [decide_eq_false (p := first ≥ 0) (by have := of_decide_eq_true a1; omega)]; simp)
    go_wp2
    refine bodyPost_ret_by (v := .tuple #[.agg #[.slice none 0 0, .int .i64 0], .int .i64 2]) (by simp [results, Tryd.results51, go_sem]) rfl ⟨.inr ⟨Hf.out, rfl⟩, ?_⟩
    exact (Sees.refl w).alloc _
  rcases Bool.eq_false_or_eq_true (decide (first > 1099511627776)) with a2 | a2
  · have Hf : Hid (ofE xs first = 2) := ofE_rows (by unfold rowsOk; rw [decide_eq_false (p := first ≤ 1099511627776) (by have := of_decide_eq_true a2; omega)]; simp)
    go_wp2
    refine bodyPost_ret_by (v := .tuple #[.agg #[.slice none 0 0, .int .i64 0], .int .i64 2]) (by simp [results, Tryd.results51, go_sem]) rfl ⟨.inr ⟨Hf.out, rfl⟩, ?_⟩
    exact (Sees.refl w).alloc _
  rcases Nat.lt_or_ge 1000 n with a3 | a3
  · have Hf : Hid (ofE xs first = 2) := ofE_long (by have := Hna.out; omega)
    have a4 : decide ((n : Int) > 1000) = true := decide_eq_true (by omega)
    go_wp2
    refine bodyPost_ret_by (v := .tuple #[.agg #[.slice none 0 0, .int .i64 0], .int .i64 2]) (by simp [results, Tryd.results51, go_sem]) rfl ⟨.inr ⟨Hf.out, rfl⟩, ?_⟩
    exact (Sees.refl w).alloc _
  have a4 : decide ((n : Int) > 1000) = false := decide_eq_false (by omega)
  have HR : Hid (scrB xs = true → rowsOk xs first = true) := fun h => by
    unfold rowsOk
    rw [h, decide_eq_true (p := first ≥ 0) (by have := of_decide_eq_false a1; omega), decide_eq_true (p := first ≤ 1099511627776) (by have := of_decide_eq_false a2; omega)]
    rfl
  go_wp2
  obtain ⟨B, hB⟩ : ∃ B, B = w.heap.size := ⟨_, rfl⟩
  have HB0 : Hid ((w.alloc (.cells #[.slice none 0 0, .int .i64 0] 87)).heap[B]? = some (.cells #[.slice none 0 0, .int .i64 0] 87 (0, 0))) := by rw [hB]; exact heap_alloc_new w _
  have hBs : B < (w.alloc (.cells #[.slice none 0 0, .int .i64 0] 87)).heap.size := (Array.getElem?_eq_some_iff.1 HB0.out).1
  have HS0 : Hid (Sees w (w.alloc (.cells #[.slice none 0 0, .int .i64 0] 87))) := (Sees.refl w).alloc _
  have HBW : Hid (w.heap.size ≤ B) := by unfold RowKit.Hid; omega
  generalize w.alloc (.cells #[.slice none 0 0, .int .i64 0] 87) = w0 at *
  rw [← hB]
  clear hB
  have HBK : Hid (∀ W, Sees w0 W → W.heap[B]? = some (.cells #[.slice none 0 0, .int .i64 0] 87 (0, 0))) := fun W h => by rw [h.block _ hBs]; exact HB0.out
  go_loopw [22] (fun i wr => ∃ k : Nat, k ≤ n ∧ i = .int .i64 k ∧ (xs.take k).all (scrAt (cols xs)) = true ∧ Sees w0 wr) (fun i _ => n - (intOf i).toNat)
  case atStart => exact ⟨0, by omega, rfl, by simp, Sees.refl _⟩
  case round =>
    obtain ⟨k, hk, rfl, hm, hS0⟩ := hrel
    have hS := HS0.out.trans hS0
    have HSQ := Lib.hid hS0
    have Hm := Lib.hid hm; clear hm hw
    by_cases hlt : k < n
    · obtain ⟨b1, o1, x, a1, m1, rfl, _, hx, _, x1, x2, x3⟩ := (Ha.out.sees hS).line hlt
      obtain ⟨b2, o2, y, a2, m2, hb2, _, hy, _, y1, y2, y3⟩ := (Ha.out.sees hS).line (show 0 < n by omega)
      cases hb2
      rw [Nat.zero_mul, Nat.add_zero] at y1 y2
      have X3 := Lib.hid x3
      have Y1 := Lib.hid y1
      have HT := Lib.hid (Ht.out.sees hS)
      have HS := Lib.hid hS
      have Hx := Lib.hid hx
      have Hxl := Lib.hid (Hnc.out x (List.mem_iff_getElem?.2 ⟨_, hx⟩))
      have hcols := cols_of hy
      have hv : ∀ b1 b2 b3, lnOk x.cells = b1 → ((x.cells.length : Int) == 0) = b2 → (x.cells.length == y.cells.length) = b3 → scrAt (cols xs) x = (b1 && !b2 && b3) := by
        rintro _ _ _ rfl rfl rfl
        unfold scrAt; rw [hcols]
        congr 2
        rw [Bool.eq_iff_iff]; simp
      have Hv := Lib.hid hv
      clear hx hy x3 y1 y2 y3 Ha hcols hv hS hS0
      generalize hl1 : x.cells.length = n1 at *
      generalize hl2 : y.cells.length = n0 at *
      have H1 := Lib.hid hl1
      clear hl1 hl2
      have k0 : (0 : Nat) < n := by omega
      have k1 : (0 : Int) < n := by omega
      rcases ways3 (lnOk x.cells) (!((n1 : Int) == 0)) (n1 == n0) with ⟨e1, e2, e3⟩ | ⟨e1, e2, e3⟩ | ⟨e1, e2⟩ | e1
      all_goals
        (try (have e2' : ((n1 : Int) == 0) = _ := Bool.not_eq_eq_eq_not.1 e2))
        go_wp2
        refine wp_world fun w1 hw1 => ?_
        have hs1 : Sees wr w1 := by subst hw1; exact (Sees.refl wr).alloc _
        have c0 : w1.cell? ⟨wr.heap.size, 0, none⟩ = some (.slice a1 n1 m1) := by subst hw1; simp
        have c1 : w1.cell? ⟨wr.heap.size, 1, none⟩ = some (.bool x.soft) := by subst hw1; simp
        have g1 := fun d os => (sees_grow w1 d os).cell c0
        have g2 := fun d os => (sees_grow w1 d os).cell c1
        have g3 := fun d os => (sees_grow w1 d os).cell (hs1.cell Y1.out)
        have Hs1 := Lib.hid hs1
        clear hw1 hs1 c0 c1 x1 x2
        refine wp_region_quiet_below (by kernel_rfl) (by kernel_rfl) ?_
        repeat (first | go_big_quiet_skip | (go_big_quiet_want; go_big_quiet_op; go_big_quiet_on))
        (go_big_quiet_want; go_big_quiet_op; apply Exists.intro; refine ⟨fun p => Calls.regrown_of (lineValid_any _ x.cells x.soft _ (HT.out.sees (Hs1.out.trans (sees_grow w1 _ _))) (X3.out.sees (Hs1.out.trans (sees_grow w1 _ _))).rdCells (by rw [H1.out]; exact Hxl.out)), ?_⟩; go_big_quiet_on)
        repeat (first | go_big_quiet_skip | (go_big_quiet_want; go_big_quiet_op; go_big_quiet_on))
        refine wpQuiet_nil ?_; intro w2 hw2'; have hw2 := regrown_sees hw2'; clear hw2'
        have hr := HBK.out _ (HSQ.out.trans (Hs1.out.trans hw2))
        have f0 := frozen_of_row _ B 0 _ _ hr
        have f1 := frozen_of_row _ B 1 _ _ hr
        have z0 : w2.cell? ⟨B, 0, none⟩ = some (.slice none 0 0) := by rw [cell_of_row _ _ _ _ _ _ hr]; rfl
        have z1 : w2.cell? ⟨B, 1, none⟩ = some (.int .i64 0) := by rw [cell_of_row _ _ _ _ _ _ hr]; rfl
        clear hr
        go_wp2
      · have := Hv.out true false true e1 (by simpa using e2) e3
        go_roundw
        case rel => exact ⟨k + 1, by omega, by go_num, scr_more Hx.out this Hm.out, HSQ.out.trans (Hs1.out.trans hw2)⟩
        case measure => simp [intOf]; omega
      · have := scrB_bad Hx.out (Hv.out true false false e1 (by simpa using e2) e3)
        refine bodyPost_ret_by (v := .tuple #[.agg #[.slice none 0 0, .int .i64 0], .int .i64 2]) (by simp [results, Tryd.results51, go_sem, z0, z1]) rfl ⟨.inr ⟨ofE_rows (rowsOk_no (first := first) this), rfl⟩, ?_⟩
        exact (((HS.out.trans (Hs1.out.trans hw2)).setCell (p := ⟨B, 0, none⟩) HBW.out _).setCell (p := ⟨B, 1, none⟩) HBW.out _)
      · have := scrB_bad Hx.out ((Hv.out true true _ e1 (by simpa using e2) rfl).trans (by simp))
        refine bodyPost_ret_by (v := .tuple #[.agg #[.slice none 0 0, .int .i64 0], .int .i64 2]) (by simp [results, Tryd.results51, go_sem, z0, z1]) rfl ⟨.inr ⟨ofE_rows (rowsOk_no (first := first) this), rfl⟩, ?_⟩
        exact (((HS.out.trans (Hs1.out.trans hw2)).setCell (p := ⟨B, 0, none⟩) HBW.out _).setCell (p := ⟨B, 1, none⟩) HBW.out _)
      · have := scrB_bad Hx.out ((Hv.out false _ _ e1 rfl rfl).trans (by simp))
        refine bodyPost_ret_by (v := .tuple #[.agg #[.slice none 0 0, .int .i64 0], .int .i64 2]) (by simp [results, Tryd.results51, go_sem, z0, z1]) rfl ⟨.inr ⟨ofE_rows (rowsOk_no (first := first) this), rfl⟩, ?_⟩
        exact (((HS.out.trans (Hs1.out.trans hw2)).setCell (p := ⟨B, 0, none⟩) HBW.out _).setCell (p := ⟨B, 1, none⟩) HBW.out _)
    · obtain rfl : k = n := by omega
      have hsc : scrB xs = true := by
        have := Hm.out
        rw [List.take_of_length_le (by rw [← Hna.out]; exact Nat.le_refl _)] at this
        exact this
      have Hok := Lib.hid (HR.out hsc)
      have Hl : Hid (xs.length ≤ 1000) := by have := Hna.out; unfold Hid; omega
      have hr := HBK.out _ HSQ.out
      have z0 : wr.cell? ⟨B, 0, none⟩ = some (.slice none 0 0) := by rw [cell_of_row _ _ _ _ _ _ hr]; rfl
      have z1 : wr.cell? ⟨B, 1, none⟩ = some (.int .i64 0) := by rw [cell_of_row _ _ _ _ _ _ hr]; rfl
      have f0 := frozen_of_row _ B 0 _ _ hr
      have f1 := frozen_of_row _ B 1 _ _ hr
      have HS := Lib.hid hS
      clear hsc hr hS hS0
      go_wp2
      refine bodyPost_ret_by (v := .tuple #[.agg #[.slice ao k ca, .int .i64 first], .int .i64 0]) (by simp [results, Tryd.results51, go_sem, z0, z1]) rfl ⟨.inl ⟨ofE_ok Hok.out Hl.out, rfl⟩, ?_⟩
      exact ((HS.out.setCell (p := ⟨B, 0, none⟩) HBW.out _).setCell (p := ⟨B, 1, none⟩) HBW.out _)
end Go.Proofs.YtooiiefipdjbjaaDoor

namespace Go.Proofs.YtooiiefipdjbjaaDoor
set_option linter.unusedVariables false
set_option linter.unusedSimpArgs false
open Go.RowKit

/-- Is a place in rows? -/
def inP (ls : List Ln) (first l c : Int) : Bool := decide (first ≤ l) && decide (l < first + ls.length) && (decide (0 ≤ c) && decide (c < cols ls))
def softAt (ls : List Ln) (i : Nat) : Bool := match ls[i]? with
  | some x => x.soft
  | none => false
/-- The first and the last row of the logical line of a row. -/
def topI (ls : List Ln) : Nat → Nat
  | 0 => 0
  | i + 1 => if softAt ls i then topI ls i else i + 1
def botF (ls : List Ln) : Nat → Nat → Nat
  | 0, i => i
  | f + 1, i => if decide (i + 1 < ls.length) && softAt ls i then botF ls f (i + 1) else i
def botI (ls : List Ln) (i : Nat) : Nat := botF ls (ls.length - i) i
theorem topI_le (ls : List Ln) : ∀ i, topI ls i ≤ i
  | 0 => Nat.le_refl _
  | i + 1 => by
    rw [topI]
    split
    · have := topI_le ls i; omega
    · exact Nat.le_refl _
theorem botF_ge (ls : List Ln) : ∀ f i, i ≤ botF ls f i
  | 0, i => Nat.le_refl _
  | f + 1, i => by
    rw [botF]
    split
    · have := botF_ge ls f (i + 1); omega
    · exact Nat.le_refl _
theorem botI_ge (ls : List Ln) (i : Nat) : i ≤ botI ls i := botF_ge ls _ i
theorem botF_lt (ls : List Ln) : ∀ f i, i < ls.length → botF ls f i < ls.length
  | 0, i, h => h
  | f + 1, i, h => by
    rw [botF]
    split
    · rename_i hc
      rw [Bool.and_eq_true, decide_eq_true_eq] at hc
      exact botF_lt ls f (i + 1) hc.1
    · exact h
theorem botI_lt {ls : List Ln} {i : Nat} (h : i < ls.length) : botI ls i < ls.length := botF_lt ls _ i h
theorem botI_step {ls : List Ln} {i : Nat} (h1 : i + 1 < ls.length) (h2 : softAt ls i = true) : botI ls i = botI ls (i + 1) := by
  unfold botI
  rw [show ls.length - i = (ls.length - (i + 1)) + 1 by omega, botF, decide_eq_true h1, h2]
  rfl
theorem botI_end {ls : List Ln} {i : Nat} (h : ¬ (i + 1 < ls.length) ∨ softAt ls i = false) : botI ls i = i := by
  unfold botI
  cases hf : ls.length - i with
  | zero => rfl
  | succ f =>
    rw [botF, if_neg]
    rcases h with h | h
    · rw [decide_eq_false h]; simp
    · rw [h]; simp
theorem softAt_of {ls : List Ln} {i : Nat} {x : Ln} (h : ls[i]? = some x) : softAt ls i = x.soft := by unfold softAt; rw [h]
theorem bot_run {ls : List Ln} : ∀ (m i : Nat), i < ls.length → ls.length - i ≤ m → botI ls i + 1 = i + runL (ls.drop i)
  | 0, i, h, hm => by omega
  | m + 1, i, h, hm => by
    obtain ⟨x, hx⟩ : ∃ x, ls[i]? = some x := ⟨_, List.getElem?_eq_getElem h⟩
    have hd : ls.drop i = x :: ls.drop (i + 1) := by rw [List.drop_eq_getElem_cons h, (List.getElem?_eq_some_iff.1 hx).2]
    have hs := softAt_of hx
    have he : (ls.drop (i + 1)).isEmpty = decide (¬ (i + 1 < ls.length)) := by
      rw [Bool.eq_iff_iff, List.isEmpty_iff, decide_eq_true_eq, List.drop_eq_nil_iff]
      omega
    rw [hd, runL, he]
    by_cases hl : i + 1 < ls.length
    · cases hsf : x.soft
      · rw [botI_end (.inr (by rw [hs, hsf]))]
        simp
      · rw [botI_step hl (by rw [hs, hsf]), bot_run m (i + 1) hl (by omega), if_pos (by simp [hl])]
        omega
    · rw [botI_end (.inl hl), if_neg (by simp [hl])]
set_option maxHeartbeats 2000000 in
set_option maxRecDepth 100000 in
theorem sh_in (F : Nat → Prop) (v : Value) (ls : List Ln) (w : World) (ha : lnEl.Rd F w v ls) (hr : ∀ x ∈ ls, x.cells.length = cols ls) (hn : ls.length ≤ 1000000) (first l c : Int) (h0 : 0 ≤ first) (h1 : first ≤ 1099511627776) (hl0 : -9223372036854775808 ≤ l) (hl1 : l ≤ 9223372036854775807) :
    Calls Tryd.prog 39 #[.agg #[v, .int .i64 first], .agg #[.int .i64 l, .int .i64 c]] w fun e w' => e = .returned (.bool (inP ls first l c)) ∧ Sees w w' := by
  obtain ⟨a, cp, rfl, _⟩ := ha.slice'
  obtain ⟨n, hnn⟩ : ∃ n, n = ls.length := ⟨_, rfl⟩
  rw [← hnn] at ha hn ⊢
  obtain ⟨R, hR⟩ : ∃ R, R = inP ls first l c := ⟨_, rfl⟩
  have hRe : R = ((decide (first ≤ l) && decide (l < first + (n : Int))) && (decide (0 ≤ c) && decide (c < (cols ls : Int)))) := by rw [hR, hnn]; rfl
  rw [← hR]
  obtain ⟨i, hi⟩ : ∃ i, i = IntKind.i64.wrap (l - first) := ⟨_, rfl⟩
  have hw1 : IntKind.i64.wrap (l - first) = i := hi.symm
  have hw2 : wrap64 (l - first) = i := (IntWalk.i64_left _).symm.trans hw1
  have hin : (decide (first ≤ l) && decide (l < first + (n : Int))) = (decide (i ≥ 0) && decide (i < (n : Int))) := by
    rw [Bool.eq_iff_iff, Bool.and_eq_true, Bool.and_eq_true, decide_eq_true_eq, decide_eq_true_eq, decide_eq_true_eq, decide_eq_true_eq]
    rw [← hw2]
    unfold wrap64
    omega
  have hil : i ≥ 0 ∧ i < (n : Int) → i = l - first := fun h => by
    rw [← hw2] at h ⊢
    unfold wrap64 at h ⊢
    omega
  rw [hin] at hRe
  have HA := Lib.hid ha
  have HRE := Lib.hid hRe
  clear hi hR hRe hin ha hnn
  go_enter Tryd.func39, Tryd.ntmps39
  go_upto_region 2 with fail
  refine wp_world fun W1 hW1 => ?_
  have c0 : W1.cell? ⟨w.heap.size, 0, none⟩ = some (.slice a n cp) := by subst hW1; simp
  have c1 : W1.cell? ⟨w.heap.size + 1, 1, none⟩ = some (.int .i64 c) := by subst hW1; simp
  have s1 : Sees w W1 := by subst hW1; exact ((Sees.refl w).alloc _).alloc _
  have S1 := Lib.hid s1
  have gc0 := fun d os => (sees_grow W1 d os).cell c0
  have gc1 := fun d os => (sees_grow W1 d os).cell c1
  clear hW1 c0 c1 s1
  rcases Bool.eq_false_or_eq_true (decide (i ≥ 0)) with g1 | g1
  · rcases Bool.eq_false_or_eq_true (decide (i < (n : Int))) with g2 | g2
    · rcases Bool.eq_false_or_eq_true (decide (c ≥ 0)) with g3 | g3
      · have gi0 := of_decide_eq_true g1
        have gi1 := of_decide_eq_true g2
        obtain ⟨k, rfl⟩ : ∃ k : Nat, i = k := ⟨i.toNat, by omega⟩
        have hk : k < n := by omega
        obtain ⟨b1, o1, x, a1, m1, rfl, _, hx, _, y0, y1, _⟩ := HA.out.line hk
        have hxc : x.cells.length = cols ls := hr x (List.mem_iff_getElem?.2 ⟨_, hx⟩)
        rw [hxc] at y0
        have y0' := S1.out.cell y0
        have gy0 := fun d os => (sees_grow W1 d os).cell y0'
        have HF : Hid (R = decide (c < (cols ls : Int))) := by
          unfold RowKit.Hid
          rw [HRE.out, g1, g2, decide_eq_true (p := 0 ≤ c) (of_decide_eq_true g3)]
          rfl
        generalize cols ls = m at *
        have gi2 : (k : Int) < n := gi1
        clear hx hxc hil hr hw1 y0 y0' y1
        refine wp_region_quiet_below (by kernel_rfl) (by kernel_rfl) ?_
        repeat (first | go_big_quiet_skip | (go_big_quiet_want; go_big_quiet_op; go_big_quiet_on))
        refine wpQuiet_nil ?_; intro w2 hw2'; have hw2 := regrown_sees hw2'; clear hw2'
        go_wp2
        go_ret
        exact ⟨by rw [HF.out]; rfl, S1.out.trans hw2⟩
      · have HF : Hid (R = false) := by unfold RowKit.Hid; rw [HRE.out, decide_eq_false (p := 0 ≤ c) (of_decide_eq_false g3)]; simp
        refine wp_region_quiet_below (by kernel_rfl) (by kernel_rfl) ?_
        repeat (first | go_big_quiet_skip | (go_big_quiet_want; go_big_quiet_op; go_big_quiet_on))
        refine wpQuiet_nil ?_; intro w2 hw2'; have hw2 := regrown_sees hw2'; clear hw2'
        go_wp2
        go_ret
        exact ⟨by rw [HF.out]; rfl, S1.out.trans hw2⟩
    · have HF : Hid (R = false) := by unfold RowKit.Hid; rw [HRE.out, g2]; simp
      refine wp_region_quiet_below (by kernel_rfl) (by kernel_rfl) ?_
      repeat (first | go_big_quiet_skip | (go_big_quiet_want; go_big_quiet_op; go_big_quiet_on))
      refine wpQuiet_nil ?_; intro w2 hw2'; have hw2 := regrown_sees hw2'; clear hw2'
      go_wp2
      go_ret
      exact ⟨by rw [HF.out]; rfl, S1.out.trans hw2⟩
  · have HF : Hid (R = false) := by unfold RowKit.Hid; rw [HRE.out, g1]; simp
    refine wp_region_quiet_below (by kernel_rfl) (by kernel_rfl) ?_
    repeat (first | go_big_quiet_skip | (go_big_quiet_want; go_big_quiet_op; go_big_quiet_on))
    refine wpQuiet_nil ?_; intro w2 hw2'; have hw2 := regrown_sees hw2'; clear hw2'
    go_wp2
    go_ret
    exact ⟨by rw [HF.out]; rfl, S1.out.trans hw2⟩
theorem sh_row (b o n cp k : Nat) (a1 : Option Addr) (m1 c1 : Nat) (so : Bool) (first number : Int) (w : World) (hk : k < n) (hn : n ≤ 1000000) (h0 : 0 ≤ first) (h1 : first ≤ 1099511627776) (hnum : number = first + k) (y0 : w.cell? ⟨b, o + k * 2, none⟩ = some (.slice a1 m1 c1)) (y1 : w.cell? ⟨b, o + k * 2 + 1, none⟩ = some (.bool so)) :
    Calls Tryd.prog 46 #[.agg #[.slice (some ⟨b, o, none⟩) n cp, .int .i64 first], .int .i64 number] w fun e w' => e = .returned (.agg #[.slice a1 m1 c1, .bool so]) ∧ Sees w w' := by
  have e1 : number - first = (k : Int) := by omega
  have e2 : IntKind.i64.wrap (number - first) = (k : Int) := by rw [e1]; exact IntWalk.i64_in _ (by omega)
  have e3 : (k : Int) < n := by omega
  have s2 : Sees w ((w.alloc (.cells #[.slice (some ⟨b, o, none⟩) n cp, .int .i64 first] 87)).alloc (.cells #[.slice none 0 0, .bool false] 40)) := ((Sees.refl w).alloc _).alloc _
  have z0 := s2.cell y0
  have z1 := s2.cell y1
  clear hnum s2
  go_enter Tryd.func46, Tryd.ntmps46
  go_wp2
  refine bodyPost_ret_by (v := .agg #[.slice a1 m1 c1, .bool so]) (by simp [results, Tryd.results46, go_sem]) rfl ⟨rfl, ?_⟩
  repeat (first | exact (Sees.refl w) | refine Sees.setCell ?_ (by first | exact Nat.le_refl _ | exact Nat.le_succ _ | (simp; done) | (simp; omega)) _ | refine Sees.alloc ?_ _ | refine Sees.drew ?_)
end Go.Proofs.YtooiiefipdjbjaaDoor

namespace Go.Proofs.YtooiiefipdjbjaaDoor
set_option linter.unusedVariables false
set_option linter.unusedSimpArgs false
open Go.RowKit

theorem run_soft (u : Value) (so : Bool) (w : World) : (Instr.field 40 (.agg #[u, .bool so]) 1).run Tryd.prog w = .ok (.bool so) w := by kernel_rfl
theorem run_cells (u v : Value) (w : World) : (Instr.field 40 (.agg #[u, v]) 0).run Tryd.prog w = .ok u w := by kernel_rfl
set_option maxHeartbeats 4000000 in
set_option maxRecDepth 100000 in
theorem sh_logical (F : Nat → Prop) (v : Value) (ls : List Ln) (w : World) (ha : lnEl.Rd F w v ls) (hn : ls.length ≤ 1000000) (first : Int) (h0 : 0 ≤ first) (h1 : first ≤ 1099511627776) (i : Nat) (hi : i < ls.length) (number : Int) (hnum : number = first + i) :
    Calls Tryd.prog 52 #[.agg #[v, .int .i64 first], .int .i64 number] w fun e w' => e = .returned (.tuple #[.int .i64 (first + topI ls i), .int .i64 (first + botI ls i)]) ∧ Sees w w' := by
  obtain ⟨a, cp, rfl, _⟩ := ha.slice'
  obtain ⟨n, hnn⟩ : ∃ n, n = ls.length := ⟨_, rfl⟩
  rw [← hnn] at ha hn hi ⊢
  have HA := Lib.hid ha
  have HN := Lib.hid hnn
  have HNUM := Lib.hid hnum
  obtain ⟨X, hX⟩ : ∃ X : Int, X = first + topI ls i := ⟨_, rfl⟩
  obtain ⟨Y, hY⟩ : ∃ Y : Int, Y = first + botI ls i := ⟨_, rfl⟩
  rw [← hX, ← hY]
  have HX := Lib.hid hX
  have HY := Lib.hid hY
  have hnr : number ≤ 1099512627776 ∧ 0 ≤ number := by omega
  clear ha hnn hnum hX hY
  go_enter Tryd.func52, Tryd.ntmps52
  go_upto_block 0 with fail
  refine wp_world fun W0 hW0 => ?_
  have C0 : Hid (W0.cell? ⟨w.heap.size, 0, none⟩ = some (.slice a n cp)) := by subst hW0; unfold RowKit.Hid; simp
  have C1 : Hid (W0.cell? ⟨w.heap.size, 1, none⟩ = some (.int .i64 first)) := by subst hW0; unfold RowKit.Hid; simp
  have HS0 : Hid (Sees w W0) := by subst hW0; exact (Sees.refl w).alloc _
  clear hW0
  obtain ⟨b, hb⟩ : ∃ b, b = w.heap.size := ⟨_, rfl⟩
  rw [← hb] at C0 C1 ⊢
  clear hb
  go_cut [6] from 10 to 22 (fun v6 wx => v6 = .int .i64 X ∧ Sees W0 wx)
  case first =>
    go_wp2_with fail
    go_loopw [6] (fun v W => ∃ (j : Nat) (T : Int), j ≤ i ∧ v = .int .i64 T ∧ Hid (T = first + j) ∧ Hid (topI ls i = topI ls j) ∧ Sees W0 W) (fun v _ => (intOf v - first).toNat)
    case atStart => exact ⟨i, number, Nat.le_refl _, rfl, HNUM, rfl, Sees.refl _⟩
    case round =>
      obtain ⟨j, T, hj, rfl, hT, ht, hS⟩ := hrel
      have HS := Lib.hid hS
      have c0 := hS.cell C0.out
      have c1 := hS.cell C1.out
      clear hS
      cases j with
      | zero =>
        have hTX : X = T := by have := hT.out; have := HX.out; rw [ht.out] at this; rw [this, hT.out]; rfl
        have hTf : T = first := by have := hT.out; omega
        have u1 : decide (T > first) = false := decide_eq_false (by omega)
        have u2 : ¬ (first < T) := by omega
        have HTX := Lib.hid hTX
        clear ht hTX hTf
        go_wp2_with fail
        go_meet
        exact ⟨by rw [HTX.out], HS.out⟩
      | succ q =>
        have hTq : T - 1 = first + q := by have := hT.out; omega
        have hqn : q < n := by omega
        obtain ⟨b1, o1, x, a1, m1, rfl, _, hx, _, y0, y1, _⟩ := HA.out.line hqn
        have u1 : decide (T > first) = true := decide_eq_true (by have := hT.out; omega)
        have u2 : first < T := by have := hT.out; omega
        obtain ⟨T1, hT1⟩ : ∃ T1 : Int, T1 = T - 1 := ⟨_, rfl⟩
        have u3 : T - 1 = T1 := hT1.symm
        have hTr : 0 ≤ T1 ∧ T1 ≤ 1099512627776 := by omega
        have KR : Hid (∀ W, Sees w W → Calls Tryd.prog 46 #[.agg #[.slice (some ⟨b1, o1, none⟩) n cp, .int .i64 first], .int .i64 T1] W fun e w' => e = .returned (.agg #[.slice a1 x.cells.length m1, .bool x.soft]) ∧ Sees W w') := fun W hs =>
          sh_row b1 o1 n cp q a1 x.cells.length m1 x.soft first T1 W hqn hn h0 h1 (by omega) (hs.cell y0) (hs.cell y1)
        have HT1 : Hid (T1 = first + q) := by unfold RowKit.Hid; omega
        have hsf := softAt_of hx
        have HTOP : Hid (topI ls i = if x.soft then topI ls q else q + 1) := by unfold RowKit.Hid; rw [ht.out, topI, hsf]
        generalize x.soft = so at *
        have hms : Hid ((T1 - first).toNat < (T - first).toNat) := by have := hT.out; unfold RowKit.Hid; omega
        clear hx y0 y1 hTq hT1 hsf ht
        go_wp2_with fail
        refine (KR.out _ (HS0.out.trans HS.out)).mono ?_
        rintro e W3 ⟨rfl, hs⟩
        have HS3 := Lib.hid (HS.out.trans hs)
        have hfd := fun W so => run_soft (.slice a1 x.cells.length m1) so W
        clear hs c0 c1 KR
        cases so
        · have HTX : Hid (X = T) := by unfold RowKit.Hid; rw [HX.out, HTOP.out, hT.out]; rfl
          go_wp2_with fail
          go_meet
          exact ⟨by rw [HTX.out], HS3.out⟩
        · go_wp2
          have hfin : ∃ (j : Nat) (T2 : Int), j ≤ i ∧ Value.int .i64 T1 = .int .i64 T2 ∧ Hid (T2 = first + j) ∧ Hid (topI ls i = topI ls j) ∧ Sees W0 W3 := ⟨q, T1, by omega, rfl, HT1, HTOP.out, HS3.out⟩
          go_roundw
          case rel => first | exact hfin | ((repeat apply Exists.intro); exact ⟨hfin, rfl⟩)
          case measure => exact hms.out
  case rest =>
    obtain ⟨rfl, hsc⟩ := hcut
    have HSc := Lib.hid hsc
    clear hsc
    go_wp2_with fail
    go_loopw [7] (fun v W => ∃ (j : Nat) (T : Int), j < n ∧ v = .int .i64 T ∧ Hid (T = first + j) ∧ Hid (botI ls i = botI ls j) ∧ Sees W0 W) (fun v _ => (first + n - intOf v).toNat)
    case atStart => exact ⟨i, number, hi, rfl, HNUM, rfl, HSc.out⟩
    case round =>
      obtain ⟨j, T, hj, rfl, hT, ht, hS⟩ := hrel
      have HS := Lib.hid hS
      have c0 := hS.cell C0.out
      have c1 := hS.cell C1.out
      clear hS HSc
      obtain ⟨b1, o1, x, a1, m1, rfl, _, hx, _, y0, y1, _⟩ := HA.out.line hj
      have hTr : T ≤ 1099512627776 ∧ 0 ≤ T := by have := hT.out; omega
      have KR : Hid (∀ W, Sees w W → Calls Tryd.prog 46 #[.agg #[.slice (some ⟨b1, o1, none⟩) n cp, .int .i64 first], .int .i64 T] W fun e w' => e = .returned (.agg #[.slice a1 x.cells.length m1, .bool x.soft]) ∧ Sees W w') := fun W hs =>
        sh_row b1 o1 n cp j a1 x.cells.length m1 x.soft first T W hj hn h0 h1 hT.out (hs.cell y0) (hs.cell y1)
      have v1 : T - first = (j : Int) := by have := hT.out; omega
      have hsf := softAt_of hx
      have HSF := Lib.hid hsf
      generalize x.soft = so at *
      clear hx y0 y1 hsf
      by_cases hj1 : j + 1 < n
      · have v2 : decide ((j : Int) + 1 < (n : Int)) = true := decide_eq_true (by omega)
        have v3 : (j : Int) + 1 < (n : Int) := by omega
        go_wp2_with fail
        refine (KR.out _ (HS0.out.trans HS.out)).mono ?_
        rintro e W3 ⟨rfl, hs⟩
        have HS3 := Lib.hid (HS.out.trans hs)
        have hfd := fun W so => run_soft (.slice a1 x.cells.length m1) so W
        clear hs c0 c1 KR
        cases so
        · have HTY : Hid (Y = T) := by unfold RowKit.Hid; rw [HY.out, ht.out, botI_end (.inr HSF.out), hT.out]
          go_wp2
          go_ret2
          exact ⟨by rw [HTY.out]; rfl, HS0.out.trans HS3.out⟩
        · have HT1 : Hid (T + 1 = first + (j + 1 : Nat)) := by have := hT.out; unfold RowKit.Hid; omega
          have HBT : Hid (botI ls i = botI ls (j + 1)) := by unfold RowKit.Hid; rw [ht.out, botI_step (by have := HN.out; omega) HSF.out]
          have hms : Hid ((first + n - (T + 1)).toNat < (first + n - T).toNat) := by have := hT.out; unfold RowKit.Hid; omega
          go_wp2
          exact ⟨⟨j + 1, T + 1, hj1, rfl, HT1, HBT, HS3.out⟩, hms.out⟩
      · have v2 : decide ((j : Int) + 1 < (n : Int)) = false := decide_eq_false (by omega)
        have v3 : ¬ ((j : Int) + 1 < (n : Int)) := by omega
        have HTY : Hid (Y = T) := by unfold RowKit.Hid; rw [HY.out, ht.out, botI_end (.inl (by have := HN.out; omega)), hT.out]
        go_wp2
        go_ret2
        exact ⟨by rw [HTY.out]; rfl, HS0.out.trans HS.out⟩
set_option maxHeartbeats 2000000 in
set_option maxRecDepth 100000 in
/-- The numbers of a logical line's first and last row. -/
theorem logical_ok (F : Nat → Prop) (v : Value) (ls : List Ln) (w : World) (ht : Tabs w) (ha : lnEl.Rd F w v ls) (hn : ls.length ≤ 1000000) (hnc : ∀ l ∈ ls, l.cells.length ≤ 1000000) (first : Int) (hE : ofE ls first = 0) (i : Nat) (hi : i < ls.length) (c number : Int) (hnum : number = first + i) (hc0 : 0 ≤ c) (hc1 : c < cols ls) :
    Calls Tryd.prog 29 #[v, .int .i64 first, .agg #[.int .i64 number, .int .i64 c]] w fun e w' => e = .returned (.tuple #[.int .i64 (first + topI ls i), .int .i64 (first + botI ls i), .int .i64 0]) ∧ Sees w w' := by
  obtain ⟨a, cp, rfl, _⟩ := ha.slice'
  obtain ⟨n, hnn⟩ : ∃ n, n = ls.length := ⟨_, rfl⟩
  rw [← hnn] at ha ⊢
  obtain ⟨hro, hl⟩ := ofE_zero hE
  obtain ⟨hrow, f0, f1⟩ := rowsOk_ok hro
  have HA := Lib.hid ha
  have KO : Hid (∀ W, Sees w W → Calls Tryd.prog 51 #[.slice a n cp, .int .i64 first] W fun e w' => e = .returned (.tuple #[.agg #[.slice a n cp, .int .i64 first], .int .i64 0]) ∧ Sees W w') := fun W hs => (of_any F _ ls W (ht.sees hs) (ha.sees hs) hn hnc first).mono (by
    rintro e w' ⟨h | h, s⟩
    · exact ⟨h.2, s⟩
    · rw [hE] at h; cases h.1)
  have KI : Hid (∀ W, Sees w W → Calls Tryd.prog 39 #[.agg #[.slice a n cp, .int .i64 first], .agg #[.int .i64 number, .int .i64 c]] W fun e w' => e = .returned (.bool true) ∧ Sees W w') := fun W hs => by
    have q := sh_in F _ ls W (ha.sees hs) (fun x hx => (hrow x hx).1) hn first number c f0 f1 (by omega) (by omega)
    have e : inP ls first number c = true := by
      unfold inP
      rw [decide_eq_true (by omega), decide_eq_true (by omega), decide_eq_true hc0, decide_eq_true hc1]
      rfl
    rw [e] at q
    exact q
  have KL : Hid (∀ W, Sees w W → Calls Tryd.prog 52 #[.agg #[.slice a n cp, .int .i64 first], .int .i64 number] W fun e w' => e = .returned (.tuple #[.int .i64 (first + topI ls i), .int .i64 (first + botI ls i)]) ∧ Sees W w') := fun W hs =>
    sh_logical F _ ls W (ha.sees hs) hn first f0 f1 i hi number hnum
  obtain ⟨X, hX⟩ : ∃ X : Int, X = first + topI ls i := ⟨_, rfl⟩
  obtain ⟨Y, hY⟩ : ∃ Y : Int, Y = first + botI ls i := ⟨_, rfl⟩
  rw [← hX, ← hY] at KL ⊢
  have HE := Lib.hid hE
  clear ha hnn hro hl hrow hE ht hnum hX hY hi
  go_enter Tryd.func29, Tryd.ntmps29
  go_wp2_with fail
  refine (KO.out _ ((Sees.refl w).alloc _)).mono ?_
  rintro e W1 ⟨rfl, hs⟩
  have HS1 := Lib.hid (((Sees.refl w).alloc _).trans hs)
  have p0 : W1.cell? ⟨w.heap.size, 0, none⟩ = some (.int .i64 number) := by rw [hs.cells _ _ (by simp)]; simp
  have p1 : W1.cell? ⟨w.heap.size, 1, none⟩ = some (.int .i64 c) := by rw [hs.cells _ _ (by simp)]; simp
  clear hs KO
  go_upto_block 0 with fail
  refine wp_world fun W2 hW2 => ?_
  have hs2 : Sees W1 W2 := by subst hW2; exact (Sees.refl W1).alloc _
  have q0 : W2.cell? ⟨W1.heap.size, 0, none⟩ = some (.slice a n cp) := by subst hW2; simp
  have q1 : W2.cell? ⟨W1.heap.size, 1, none⟩ = some (.int .i64 first) := by subst hW2; simp
  replace p0 := hs2.cell p0
  replace p1 := hs2.cell p1
  have HS2 := Lib.hid (HS1.out.trans hs2)
  clear hW2 hs2 HS1
  go_wp2_with fail
  refine (KI.out _ HS2.out).mono ?_
  rintro e W3 ⟨rfl, hs⟩
  have HS3 := Lib.hid (HS2.out.trans hs)
  replace p0 := hs.cell p0
  replace q0 := hs.cell q0
  replace q1 := hs.cell q1
  clear hs p1
  go_wp2_with fail
  refine (KL.out _ HS3.out).mono ?_
  rintro e W4 ⟨rfl, hs⟩
  have HS4 := Lib.hid (HS3.out.trans hs)
  clear hs p0 q0 q1
  go_wp2
  go_ret3
  exact ⟨rfl, HS4.out⟩
end Go.Proofs.YtooiiefipdjbjaaDoor

namespace Go.Proofs.YtooiiefipdjbjaaDoor
set_option linter.unusedVariables false
set_option linter.unusedSimpArgs false
open Go.RowKit
attribute [local go_sem] Oper.semAt_some

section
variable {P : Program} {l : List Oper} {Q : Exit → Act → World → Prop} {F : Nat → Prop} {w0 w : World} {a : Act} {f i : Nat} {D : List Nat}
/-- An operation that is not wanted. -/
theorem wpH_off {oi : Oper} (hB : Hid (rgB l = true)) (hi : l[i]? = some oi) (hb : takeB l D i = true) (hQ : ∀ c a t v w, Q (.panic c) (Act.put a (some t) v) w → Q (.panic c) a w)
    (hg : Region.wanted oi (yielded l.toArray a.tmps) = false) (hS : Keeps F w0 w) (h : wpH P l Q F w0 f (i :: D) (a.put oi.dst undef) w) : wpH P l Q F w0 (f + 1) D a w := by
  obtain ⟨hsel, _, _⟩ := rgB_spec hB.out
  unfold takeB at hb
  rw [hi] at hb
  simp only [Bool.and_eq_true, Bool.not_eq_true'] at hb
  obtain ⟨⟨h0, h1⟩, h2⟩ := hb
  rw [List.all_eq_true] at h2
  refine wpAnyH_first (i := i) (oi := oi) (v := undef) (by simpa using hi) (Region.noSelect_spec hsel) (fun c a w hh => by cases hd : oi.dst with | none => rw [hd] at hh; exact hh | some t => rw [hd] at hh; exact hQ c a t _ w hh) _ _ _ _ ?_ (ready_dn hi h0 h1) (.inr ⟨hg, rfl⟩) hS (by rw [dn_set]; exact h)
  intro j oj hj hji hun hno
  have hj : l[j]? = some oj := by simpa using hj
  have hjl := (List.getElem?_eq_some_iff.1 hj).1
  rw [dn_getD hjl] at hun
  have := h2 j (List.mem_range.2 hjl)
  rw [hj, hun] at this
  simp only [Bool.or_eq_true, beq_iff_eq, Bool.false_eq_true, or_false] at this
  rcases this with h | h | h
  · exact absurd h hji
  · obtain ⟨e, he, hb⟩ := Array.any_eq_true'.1 h
    simp only [Bool.and_eq_true, beq_iff_eq] at hb
    exact absurd hb.2 (hno e he hb.1)
  · exact h
end
theorem wpOp_off {P : Program} {l : List Oper} {Q : Exit → Act → World → Prop} {K : Act → World → Prop} {a : Act} {w : World} {i : Nat} {o : Oper} (ho : l[i]? = some o) (hg : Region.wanted o (yielded l.toArray a.tmps) = false) (h : K (a.put o.dst undef) w) : wpOp P l.toArray Q i K a w := by
  unfold wpOp
  rw [show l.toArray[i]? = some o by simpa using ho]
  simp only []
  rw [if_neg (by rw [hg]; exact Bool.false_ne_true)]
  exact h
theorem results_pt {fn : Func} {tmps : Array Value} {W : World} {i j b : Nat} {l c : Int} {v : Value} (hr : fn.results = #[.cell i 25, .tmp j]) (hi : tmps[i]?.getD undef = .pointer (some ⟨b, 0, none⟩)) (hj : tmps[j]?.getD undef = v) (h : PlAt W b l c) :
    (results fn tmps).run Tryd.prog W = .ok (.tuple #[.agg #[.int .i64 l, .int .i64 c], v]) W := by
  have h1 := run_loadPl h
  unfold results
  rw [hr]
  simp [hi, hj, asAddr, h1]
def setP (W : World) (b : Nat) (l c : Int) : World := (W.setCell ⟨b, 0, none⟩ (.int .i64 l)).setCell ⟨b, 1, none⟩ (.int .i64 c)
theorem setP_at {W : World} {b : Nat} {l0 c0 : Int} (h : PlAt W b l0 c0) (l c : Int) : PlAt (setP W b l c) b l c := by
  have h1 := heap_setCell_same W b 0 _ _ (.int .i64 l) h
  exact heap_setCell_same _ b 1 _ _ (.int .i64 c) h1
theorem sees_setP {w W : World} {b : Nat} (h : Sees w W) (hb : w.heap.size ≤ b) (l c : Int) : Sees w (setP W b l c) := (h.setCell (p := ⟨b, 0, none⟩) hb _).setCell (p := ⟨b, 1, none⟩) hb _
def stQ (W : World) (b : Nat) (l c : Int) : World := W.setRow b [Value.int .i64 l, .int .i64 c].toArray
theorem run_storeQ {W : World} {b : Nat} {l0 c0 : Int} (h : PlAt W b l0 c0) (l c : Int) : (Instr.storeAt 25 (.pointer (some ⟨b, 0, none⟩)) (.agg #[.int .i64 l, .int .i64 c])).run Tryd.prog W = .ok () (stQ W b l c) :=
  run_storeAt_row (P := Tryd.prog) (W := W) 25 b _ 25 [.int .i64 l, .int .i64 c] (fun _ => by kernel_rfl) h rfl (by intro v hv; simp only [List.mem_cons, List.not_mem_nil, or_false] at hv; rcases hv with rfl | rfl <;> rfl)
theorem stQ_at {W : World} {b : Nat} {l0 c0 : Int} (h : PlAt W b l0 c0) (l c : Int) : PlAt (stQ W b l c) b l c := by
  unfold PlAt at *
  simp [stQ, World.setRow, Array.getElem?_modify, h]
theorem stQ_keeps (W : World) (b : Nat) (l c : Int) : Keeps (fun y => y = b) W (stQ W b l c) :=
  ⟨rfl, rfl, rfl, by simp [stQ, World.setRow], fun y _ hne => setRow_other _ _ _ _ hne⟩
/-- The place that is together with another one behind it. -/
def nxP (ls : List Ln) (first l c : Int) (k : Nat) : Int × Int × Bool := if c + 1 < (cols ls : Int) then (l, c + 1, true) else (l + 1, 0, softAt ls k && inP ls first (l + 1) 0)
set_option maxHeartbeats 4000000 in
set_option maxRecDepth 100000 in
theorem sh_next (F : Nat → Prop) (v : Value) (ls : List Ln) (w : World) (ha : lnEl.Rd F w v ls) (hr : ∀ x ∈ ls, x.cells.length = cols ls) (hn : ls.length ≤ 1000000) (first : Int) (h0 : 0 ≤ first) (h1 : first ≤ 1099511627776) (k : Nat) (hk : k < ls.length) (l : Int) (hl : l = first + k) (c : Int) (hc0 : 0 ≤ c) (hc1 : c < 1000000) (l' c' : Int) (t : Bool) (hx : nxP ls first l c k = (l', c', t)) :
    Calls Tryd.prog 70 #[.agg #[v, .int .i64 first], .agg #[.int .i64 l, .int .i64 c]] w fun e w' => e = .returned (.tuple #[.agg #[.int .i64 l', .int .i64 c'], .bool t]) ∧ Sees w w' := by
  obtain ⟨a, cp, rfl, _⟩ := ha.slice'
  obtain ⟨n, hnn⟩ : ∃ n, n = ls.length := ⟨_, rfl⟩
  have KI : Hid (∀ W, Sees w W → Calls Tryd.prog 39 #[.agg #[.slice a ls.length cp, .int .i64 first], .agg #[.int .i64 (l + 1), .int .i64 0]] W fun e w' => e = .returned (.bool (inP ls first (l + 1) 0)) ∧ Sees W w') := fun W hs => sh_in _ _ ls W (ha.sees hs) hr hn first (l + 1) 0 h0 h1 (by omega) (by omega)
  rw [← hnn] at ha hn hk KI ⊢
  obtain ⟨b1, o1, x, a1, m1, rfl, _, hxk, _, y0, y1, _⟩ := ha.line hk
  have hxc : x.cells.length = cols ls := hr x (List.mem_iff_getElem?.2 ⟨_, hxk⟩)
  rw [hxc] at y0
  have hso := softAt_of hxk
  have KR : Hid (∀ W, Sees w W → Calls Tryd.prog 46 #[.agg #[.slice (some ⟨b1, o1, none⟩) n cp, .int .i64 first], .int .i64 l] W fun e w' => e = .returned (.agg #[.slice a1 (cols ls) m1, .bool x.soft]) ∧ Sees W w') := fun W hs =>
    sh_row b1 o1 n cp k a1 (cols ls) m1 x.soft first l W hk hn h0 h1 hl (hs.cell y0) (hs.cell y1)
  unfold nxP at hx
  rw [hso] at hx
  obtain ⟨I, hI⟩ : ∃ I, I = inP ls first (l + 1) 0 := ⟨_, rfl⟩
  rw [← hI] at hx KI
  generalize x.soft = so at *
  generalize cols ls = M at *
  have hlr : 0 ≤ l ∧ l ≤ 1099512627776 := by omega
  have HX := Lib.hid hx
  clear ha hr hxk hxc hso y0 y1 hI hx hnn hl
  go_enter Tryd.func70, Tryd.ntmps70
  go_upto_region 1 with fail
  refine wp_world fun W1 hW1 => ?_
  have c0 : W1.cell? ⟨w.heap.size, 0, none⟩ = some (.slice (some ⟨b1, o1, none⟩) n cp) := by
    subst hW1
    exact (((Sees.refl _).alloc _).alloc _).cell (by rw [cell_of_row _ _ _ _ _ _ (heap_alloc_new w _)]; rfl)
  have c1 : W1.cell? ⟨w.heap.size, 1, none⟩ = some (.int .i64 first) := by
    subst hW1
    exact (((Sees.refl _).alloc _).alloc _).cell (by rw [cell_of_row _ _ _ _ _ _ (heap_alloc_new w _)]; rfl)
  have p1 : PlAt W1 (w.heap.size + 1) l c := by
    subst hW1
    have q := heap_alloc_new (w.alloc (.cells #[.slice (some ⟨b1, o1, none⟩) n cp, .int .i64 first] 87)) (.cells #[.int .i64 l, .int .i64 c] 25)
    rw [World.size_alloc] at q
    have q' : PlAt _ _ l c := q
    exact q'.sees ((Sees.refl _).alloc _)
  have p2 : PlAt W1 (w.heap.size + 1 + 1) 0 0 := by
    subst hW1
    have q := heap_alloc_new ((w.alloc (.cells #[.slice (some ⟨b1, o1, none⟩) n cp, .int .i64 first] 87)).alloc (.cells #[.int .i64 l, .int .i64 c] 25)) (.cells #[.int .i64 0, .int .i64 0] 25)
    rw [World.size_alloc, World.size_alloc] at q
    exact q
  have s1 : Sees w W1 := by subst hW1; exact (((Sees.refl w).alloc _).alloc _).alloc _
  have C0 := Lib.hid c0
  have C1 := Lib.hid c1
  have P1 := Lib.hid p1
  have P2 := Lib.hid p2
  have S1 := Lib.hid s1
  clear hW1 c0 c1 p1 p2 s1
  obtain ⟨b4, hb4⟩ : ∃ b4, b4 = w.heap.size + 1 + 1 := ⟨_, rfl⟩
  obtain ⟨b3, hb3⟩ : ∃ b3, b3 = w.heap.size + 1 := ⟨_, rfl⟩
  obtain ⟨b2, hb2⟩ : ∃ b2, b2 = w.heap.size := ⟨_, rfl⟩
  have HB4 : Hid (w.heap.size ≤ b4) := by unfold RowKit.Hid; omega
  have HNE : Hid (b4 ≠ b3 ∧ b4 ≠ b2) := by unfold RowKit.Hid; omega
  rw [← hb4] at P2 ⊢
  rw [← hb3] at P1 ⊢
  rw [← hb2] at C0 C1 ⊢
  clear hb4 hb3 hb2
  obtain ⟨d0, d1⟩ := P1.out.cells
  have c0 := C0.out
  have c1 := C1.out
  have g0 := fun d os => (sees_grow W1 d os).cell c0
  have g1 := fun d os => (sees_grow W1 d os).cell c1
  have g2 := fun d os => (sees_grow W1 d os).cell d0
  have g3 := fun d os => (sees_grow W1 d os).cell d1
  clear c0 c1 d0 d1
  have hfd := fun W => run_cells (.slice a1 M m1) (.bool so) W
  have hfs := fun W => run_soft (.slice a1 M m1) so W
  go_wp2
  refine wp_region_quiet_below (by kernel_rfl) (by kernel_rfl) ?_
  repeat (first | go_big_quiet_skip | (go_big_quiet_want; go_big_quiet_op; go_big_quiet_on))
  (go_big_quiet_want; go_big_quiet_op; apply Exists.intro; refine ⟨fun p => Calls.regrown_of (KR.out _ (S1.out.trans (sees_grow W1 _ _))), ?_⟩; go_big_quiet_on)
  repeat (first | go_big_quiet_skip | (go_big_quiet_want; go_big_quiet_op; go_big_quiet_on))
  refine wpQuiet_nil ?_; intro w2 hw2'; have hw2 := regrown_sees hw2'; clear hw2'
  have S2 := Lib.hid hw2
  have P22 := Lib.hid (P2.out.sees hw2)
  have P12 := Lib.hid (P1.out.sees hw2)
  have C02 := Lib.hid (hw2.cell C0.out)
  have C12 := Lib.hid (hw2.cell C1.out)
  clear hw2 g0 g1 g2 g3
  by_cases hcm : c + 1 < (M : Int)
  · have hcd : decide (c + 1 < (M : Int)) = true := decide_eq_true hcm
    have hx := HX.out
    rw [if_pos hcm] at hx
    obtain ⟨rfl, rfl, rfl⟩ : l = l' ∧ c + 1 = c' ∧ true = t := by cases hx; exact ⟨rfl, rfl, rfl⟩
    have m2 : ∀ i, w2.frozen? ⟨b4, i, none⟩ = false := fun i => frozen_of_row w2 b4 i _ _ P22.out
    obtain ⟨m3, m4⟩ := P22.out.cells
    obtain ⟨m5, m6⟩ := P12.out.cells
    clear hx
    go_wp2
    exact bodyPost_ret (results_pt rfl rfl rfl (setP_at P22.out l (c + 1))) rfl ⟨rfl, sees_setP (S1.out.trans S2.out) HB4.out l (c + 1)⟩
  · have hcd : decide (c + 1 < (M : Int)) = false := decide_eq_false hcm
    have hx := HX.out
    rw [if_neg hcm] at hx
    obtain ⟨rfl, rfl, rfl⟩ : l + 1 = l' ∧ 0 = c' ∧ (so && I) = t := by cases hx; exact ⟨rfl, rfl, rfl⟩
    obtain ⟨m5, m6⟩ := P12.out.cells
    have hlw : IntKind.i64.wrap (l + 1) = l + 1 := IntWalk.i64_in _ (by omega)
    clear hx
    go_upto_region 4 with fail
    refine wp_world fun W4 hW4 => ?_
    have P6 : Hid (PlAt W4 w2.heap.size (l + 1) 0) := by subst hW4; exact heap_alloc_new w2 _
    have S4 : Hid (Sees w2 W4) := by subst hW4; exact (Sees.refl _).alloc _
    have HB6 : Hid (w2.heap.size ≠ b4) := by have := P22.out.lt; unfold RowKit.Hid; omega
    obtain ⟨b6, hb6⟩ : ∃ b6, b6 = w2.heap.size := ⟨_, rfl⟩
    rw [← hb6] at P6 HB6 ⊢
    clear hW4 m5 m6 hb6
    refine wpH_go (fun b => b = b4) 13 (by kernel_rfl) (by kernel_rfl) (by rfl) (fun hB w9 hs9 => ?_)
    have S9 := Lib.hid ((S1.out.trans S2.out).trans (S4.out.trans hs9))
    have P69 := Lib.hid (P6.out.sees hs9)
    have P19 := Lib.hid (P12.out.sees (S4.out.trans hs9))
    have P29 := Lib.hid (P22.out.sees (S4.out.trans hs9))
    have C09 := Lib.hid ((S4.out.trans hs9).cell C02.out)
    have C19 := Lib.hid ((S4.out.trans hs9).cell C12.out)
    clear hs9
    have hS0 : Keeps (fun b => b = b4) w9 w9 := Keeps.refl _ w9
    refine wpH_take (i := 0) (v := .agg #[.int .i64 (l + 1), .int .i64 0]) hB (by rfl) (by kernel_rfl) (fun _ _ _ _ _ h => h) (by rfl) hS0 (fun W hI => by obtain ⟨q0, q1⟩ := (P69.out.keeps hI HB6.out).cells; go_simp) ?_; (try simp only [Act.put, List.setIfInBounds_toArray, List.set_cons_zero, List.set_cons_succ])
    refine wpH_take (i := 1) (v := .agg #[.slice (some ⟨b1, o1, none⟩) n cp, .int .i64 first]) hB (by rfl) (by kernel_rfl) (fun _ _ _ _ _ h => h) (by rfl) hS0 (fun W hI => by have q0 := hI.cell (fun h => HNE.out.2 (Eq.symm h)) C09.out; have q1 := hI.cell (fun h => HNE.out.2 (Eq.symm h)) C19.out; go_simp) ?_; (try simp only [Act.put, List.setIfInBounds_toArray, List.set_cons_zero, List.set_cons_succ])
    refine wpH_take (i := 2) (v := .pointer (some ⟨b3, 0, none⟩)) hB (by rfl) (by kernel_rfl) (fun _ _ _ _ _ h => h) (by rfl) hS0 (fun W hI => by clear hI; go_simp) ?_; (try simp only [Act.put, List.setIfInBounds_toArray, List.set_cons_zero, List.set_cons_succ])
    refine wpH_take (i := 3) (v := .int .i64 l) hB (by rfl) (by kernel_rfl) (fun _ _ _ _ _ h => h) (by rfl) hS0 (fun W hI => by obtain ⟨q0, q1⟩ := (P19.out.keeps hI (fun h => HNE.out.1 (Eq.symm h))).cells; go_simp) ?_; (try simp only [Act.put, List.setIfInBounds_toArray, List.set_cons_zero, List.set_cons_succ])
    refine wpH_one (i := 4) (by kernel_rfl) (wpOp_enter (fn := 46) (args := #[.agg #[.slice (some ⟨b1, o1, none⟩) n cp, .int .i64 first], .int .i64 l]) (by rfl) (by rfl) (by go_simp) ((KR.out w9 S9.out).mono ?_))
    rintro ee w11 ⟨rfl, hs⟩
    have hS1 := hS0.trans (Keeps.of_sees hs)
    refine ⟨_, rfl, hS1, ?_⟩
    (try simp only [Act.put, List.setIfInBounds_toArray, List.set_cons_zero, List.set_cons_succ])
    have S11 := Lib.hid (S9.out.trans hs)
    have P211 := Lib.hid (P29.out.sees hs)
    clear hs hS0
    have hS0 := hS1
    clear hS1
    refine wpH_take (i := 5) (v := .bool so) hB (by rfl) (by kernel_rfl) (fun _ _ _ _ _ h => h) (by rfl) hS0 (fun W hI => by clear hI; go_simp) ?_; (try simp only [Act.put, List.setIfInBounds_toArray, List.set_cons_zero, List.set_cons_succ])
    refine wpH_take (i := 6) (v := .bool so) hB (by rfl) (by kernel_rfl) (fun _ _ _ _ _ h => h) (by rfl) hS0 (fun W hI => by clear hI; go_simp) ?_; (try simp only [Act.put, List.setIfInBounds_toArray, List.set_cons_zero, List.set_cons_succ])
    cases so
    · refine wpH_off (i := 7) hB (by rfl) (by kernel_rfl) (fun _ _ _ _ _ h => h) (by go_simp) hS0 ?_
      (try simp only [Act.put, List.setIfInBounds_toArray, List.set_cons_zero, List.set_cons_succ])
      refine wpH_off (i := 8) hB (by rfl) (by kernel_rfl) (fun _ _ _ _ _ h => h) (by go_simp) hS0 ?_
      (try simp only [Act.put, List.setIfInBounds_toArray, List.set_cons_zero, List.set_cons_succ])
      refine wpH_one (i := 9) (by kernel_rfl) (wpOp_off (by rfl) (by go_simp) ⟨hS0, ?_⟩)
      (try simp only [Act.put, List.setIfInBounds_toArray, List.set_cons_zero, List.set_cons_succ])
      refine wpH_take (i := 10) (v := .bool false) hB (by rfl) (by kernel_rfl) (fun _ _ _ _ _ h => h) (by rfl) hS0 (fun W hI => by clear hI; go_simp) ?_; (try simp only [Act.put, List.setIfInBounds_toArray, List.set_cons_zero, List.set_cons_succ])
      refine wpH_one (i := 11) (by kernel_rfl) (wpOp_skip (w' := stQ w11 b4 (l + 1) 0) (by rfl) (wanted_none (by rfl) _) (exec_store (a := .pointer (some ⟨b4, 0, none⟩)) (v := .agg #[.int .i64 (l + 1), .int .i64 0]) rfl (by go_simp) (by go_simp) (run_storeQ P211.out (l + 1) 0)) ⟨hS0.trans (stQ_keeps _ _ _ _), ?_⟩)
      (try simp only [Act.put, List.setIfInBounds_toArray, List.set_cons_zero, List.set_cons_succ])
      have HF1 := Lib.hid (stQ_at P211.out (l + 1) 0)
      have HF2 : Hid (Sees w (stQ w11 b4 (l + 1) 0)) := by
        unfold RowKit.Hid stQ
        exact ((Keeps.of_sees (F := fun _ => False) S11.out).setRow' HB4.out _).sees_end (fun _ _ h => h)
      have hS1 : Keeps (fun b => b = b4) w9 (stQ w11 b4 (l + 1) 0) := hS0.trans (stQ_keeps _ _ _ _)
      clear hS0
      have hS0 := hS1
      refine wpH_take (i := 12) (v := .bool false) hB (by rfl) (by kernel_rfl) (fun _ _ _ _ _ h => h) (by rfl) hS0 (fun W hI => by clear hI; go_simp) ?_; (try simp only [Act.put, List.setIfInBounds_toArray, List.set_cons_zero, List.set_cons_succ])
      refine wpH_end (by kernel_rfl) ?_
      clear hS0 hS1 hB
      go_wp2
      exact bodyPost_ret (results_pt rfl rfl rfl HF1.out) rfl ⟨rfl, HF2.out⟩
    · refine wpH_takeG (i := 7) (v := .agg #[.slice (some ⟨b1, o1, none⟩) n cp, .int .i64 first]) hB (by rfl) (by kernel_rfl) (fun _ _ _ _ _ h => h) (by go_simp) hS0 (fun W hI => by have q0 := hI.cell (fun h => HNE.out.2 (Eq.symm h)) C09.out; have q1 := hI.cell (fun h => HNE.out.2 (Eq.symm h)) C19.out; go_simp) ?_; (try simp only [Act.put, List.setIfInBounds_toArray, List.set_cons_zero, List.set_cons_succ])
      refine wpH_takeG (i := 8) (v := .agg #[.int .i64 (l + 1), .int .i64 0]) hB (by rfl) (by kernel_rfl) (fun _ _ _ _ _ h => h) (by go_simp) hS0 (fun W hI => by obtain ⟨q0, q1⟩ := (P69.out.keeps hI HB6.out).cells; go_simp) ?_; (try simp only [Act.put, List.setIfInBounds_toArray, List.set_cons_zero, List.set_cons_succ])
      refine wpH_one (i := 9) (by kernel_rfl) (wpOp_enterG (fn := 39) (args := #[.agg #[.slice (some ⟨b1, o1, none⟩) n cp, .int .i64 first], .agg #[.int .i64 (l + 1), .int .i64 0]]) (by rfl) (by go_simp) (by go_simp) ((KI.out w11 S11.out).mono ?_))
      rintro ee w12 ⟨rfl, hs⟩
      have hS1 := hS0.trans (Keeps.of_sees hs)
      refine ⟨_, rfl, hS1, ?_⟩
      (try simp only [Act.put, List.setIfInBounds_toArray, List.set_cons_zero, List.set_cons_succ])
      have S12 := Lib.hid (S11.out.trans hs)
      have P212 := Lib.hid (P211.out.sees hs)
      clear hs hS0
      have hS0 := hS1
      clear hS1
      refine wpH_take (i := 10) (v := .bool (true && I)) hB (by rfl) (by kernel_rfl) (fun _ _ _ _ _ h => h) (by rfl) hS0 (fun W hI => by clear hI; go_simp) ?_; (try simp only [Act.put, List.setIfInBounds_toArray, List.set_cons_zero, List.set_cons_succ])
      refine wpH_one (i := 11) (by kernel_rfl) (wpOp_skip (w' := stQ w12 b4 (l + 1) 0) (by rfl) (wanted_none (by rfl) _) (exec_store (a := .pointer (some ⟨b4, 0, none⟩)) (v := .agg #[.int .i64 (l + 1), .int .i64 0]) rfl (by go_simp) (by go_simp) (run_storeQ P212.out (l + 1) 0)) ⟨hS0.trans (stQ_keeps _ _ _ _), ?_⟩)
      (try simp only [Act.put, List.setIfInBounds_toArray, List.set_cons_zero, List.set_cons_succ])
      have HF1 := Lib.hid (stQ_at P212.out (l + 1) 0)
      have HF2 : Hid (Sees w (stQ w12 b4 (l + 1) 0)) := by
        unfold RowKit.Hid stQ
        exact ((Keeps.of_sees (F := fun _ => False) S12.out).setRow' HB4.out _).sees_end (fun _ _ h => h)
      have hS1 : Keeps (fun b => b = b4) w9 (stQ w12 b4 (l + 1) 0) := hS0.trans (stQ_keeps _ _ _ _)
      clear hS0
      have hS0 := hS1
      refine wpH_take (i := 12) (v := .bool (true && I)) hB (by rfl) (by kernel_rfl) (fun _ _ _ _ _ h => h) (by rfl) hS0 (fun W hI => by clear hI; go_simp) ?_; (try simp only [Act.put, List.setIfInBounds_toArray, List.set_cons_zero, List.set_cons_succ])
      refine wpH_end (by kernel_rfl) ?_
      clear hS0 hS1 hB
      go_wp2
      exact bodyPost_ret (results_pt rfl rfl rfl HF1.out) rfl ⟨rfl, HF2.out⟩
/-- The place that is together with another one before it. -/
def pvP (ls : List Ln) (first l c : Int) (k : Nat) : Int × Int × Bool := if 0 < c then (l, c - 1, true) else (l - 1, (cols ls : Int) - 1, inP ls first (l - 1) ((cols ls : Int) - 1) && softAt ls (k - 1))
set_option maxHeartbeats 4000000 in
set_option maxRecDepth 100000 in
theorem sh_prev (F : Nat → Prop) (v : Value) (ls : List Ln) (w : World) (ha : lnEl.Rd F w v ls) (hr : ∀ x ∈ ls, x.cells.length = cols ls) (hn : ls.length ≤ 1000000) (first : Int) (h0 : 0 ≤ first) (h1 : first ≤ 1099511627776) (k : Nat) (hk : k < ls.length) (l : Int) (hl : l = first + k) (c : Int) (hc0 : 0 ≤ c) (hc1 : c < 1000000) (hm1 : 1 ≤ cols ls) (hm2 : cols ls ≤ 1000000) (l' c' : Int) (t : Bool) (hx : pvP ls first l c k = (l', c', t)) :
    Calls Tryd.prog 68 #[.agg #[v, .int .i64 first], .agg #[.int .i64 l, .int .i64 c]] w fun e w' => e = .returned (.tuple #[.agg #[.int .i64 l', .int .i64 c'], .bool t]) ∧ Sees w w' := by
  obtain ⟨a, cp, rfl, _⟩ := ha.slice'
  obtain ⟨n, hnn⟩ : ∃ n, n = ls.length := ⟨_, rfl⟩
  have KI : Hid (∀ W, Sees w W → Calls Tryd.prog 39 #[.agg #[.slice a ls.length cp, .int .i64 first], .agg #[.int .i64 (l - 1), .int .i64 ((cols ls : Int) - 1)]] W fun e w' => e = .returned (.bool (inP ls first (l - 1) ((cols ls : Int) - 1))) ∧ Sees W w') := fun W hs => sh_in _ _ ls W (ha.sees hs) hr hn first (l - 1) _ h0 h1 (by omega) (by omega)
  rw [← hnn] at ha hn hk KI ⊢
  obtain ⟨b1, o1, x, a1, m1, rfl, _, hxk, _, y0, y1, _⟩ := ha.line (show 0 < n by omega)
  have hxc : x.cells.length = cols ls := hr x (List.mem_iff_getElem?.2 ⟨_, hxk⟩)
  rw [hxc, Nat.zero_mul, Nat.add_zero] at y0
  obtain ⟨I, hI⟩ : ∃ I, I = inP ls first (l - 1) ((cols ls : Int) - 1) := ⟨_, rfl⟩
  obtain ⟨so, hso⟩ : ∃ so, so = softAt ls (k - 1) := ⟨_, rfl⟩
  have KR : Hid (I = true → ∃ a2 m2, ∀ W, Sees w W → Calls Tryd.prog 46 #[.agg #[.slice (some ⟨b1, o1, none⟩) n cp, .int .i64 first], .int .i64 (l - 1)] W fun e w' => e = .returned (.agg #[.slice a2 (cols ls) m2, .bool so]) ∧ Sees W w') := fun hh => by
    rw [hI] at hh
    unfold inP at hh
    simp only [Bool.and_eq_true, decide_eq_true_eq] at hh
    have hk1 : k - 1 < n := by omega
    obtain ⟨b2, o2, x2, a2, m2, e2, _, hx2, _, z0, z1, _⟩ := ha.line hk1
    cases e2
    have hxc2 : x2.cells.length = cols ls := hr x2 (List.mem_iff_getElem?.2 ⟨_, hx2⟩)
    rw [hxc2] at z0
    rw [← softAt_of hx2, ← hso] at z1
    exact ⟨a2, m2, fun W hs => sh_row b1 o1 n cp (k - 1) a2 (cols ls) m2 so first (l - 1) W hk1 hn h0 h1 (by omega) (hs.cell z0) (hs.cell z1)⟩
  unfold pvP at hx
  rw [← hI, ← hso] at hx
  rw [← hI] at KI
  have hn0 : 0 < n := by omega
  have hlr : 0 ≤ l ∧ l ≤ 1099512627776 := by omega
  generalize cols ls = M at *
  obtain ⟨lp, hlp⟩ : ∃ lp, lp = l - 1 := ⟨_, rfl⟩
  obtain ⟨cq, hcq⟩ : ∃ cq, cq = (M : Int) - 1 := ⟨_, rfl⟩
  rw [← hlp] at KI KR hx
  rw [← hcq] at KI hx
  have hlw : IntKind.i64.wrap lp = lp := IntWalk.i64_in _ (by omega)
  have hcw : IntKind.i64.wrap cq = cq := IntWalk.i64_in _ (by omega)
  have e1 : l - 1 = lp := hlp.symm
  have e2 : (M : Int) - 1 = cq := hcq.symm
  have HX := Lib.hid hx
  have Y0 := Lib.hid y0
  clear ha hr hxk hxc hso y0 y1 hI hx hnn hl hk hlp hcq
  go_enter Tryd.func68, Tryd.ntmps68
  go_upto_region 1 with fail
  refine wp_world fun W1 hW1 => ?_
  have c0 : W1.cell? ⟨w.heap.size, 0, none⟩ = some (.slice (some ⟨b1, o1, none⟩) n cp) := by
    subst hW1
    exact (((Sees.refl _).alloc _).alloc _).cell (by rw [cell_of_row _ _ _ _ _ _ (heap_alloc_new w _)]; rfl)
  have c1 : W1.cell? ⟨w.heap.size, 1, none⟩ = some (.int .i64 first) := by
    subst hW1
    exact (((Sees.refl _).alloc _).alloc _).cell (by rw [cell_of_row _ _ _ _ _ _ (heap_alloc_new w _)]; rfl)
  have p1 : PlAt W1 (w.heap.size + 1) l c := by
    subst hW1
    have q := heap_alloc_new (w.alloc (.cells #[.slice (some ⟨b1, o1, none⟩) n cp, .int .i64 first] 87)) (.cells #[.int .i64 l, .int .i64 c] 25)
    rw [World.size_alloc] at q
    have q' : PlAt _ _ l c := q
    exact q'.sees ((Sees.refl _).alloc _)
  have p2 : PlAt W1 (w.heap.size + 1 + 1) 0 0 := by
    subst hW1
    have q := heap_alloc_new ((w.alloc (.cells #[.slice (some ⟨b1, o1, none⟩) n cp, .int .i64 first] 87)).alloc (.cells #[.int .i64 l, .int .i64 c] 25)) (.cells #[.int .i64 0, .int .i64 0] 25)
    rw [World.size_alloc, World.size_alloc] at q
    exact q
  have s1 : Sees w W1 := by subst hW1; exact (((Sees.refl w).alloc _).alloc _).alloc _
  have C0 := Lib.hid c0
  have C1 := Lib.hid c1
  have P1 := Lib.hid p1
  have P2 := Lib.hid p2
  have S1 := Lib.hid s1
  clear hW1 c0 c1 p1 p2 s1
  obtain ⟨b4, hb4⟩ : ∃ b4, b4 = w.heap.size + 1 + 1 := ⟨_, rfl⟩
  obtain ⟨b3, hb3⟩ : ∃ b3, b3 = w.heap.size + 1 := ⟨_, rfl⟩
  obtain ⟨b2, hb2⟩ : ∃ b2, b2 = w.heap.size := ⟨_, rfl⟩
  have HB4 : Hid (w.heap.size ≤ b4) := by unfold RowKit.Hid; omega
  have HNE : Hid (b4 ≠ b3 ∧ b4 ≠ b2) := by unfold RowKit.Hid; omega
  rw [← hb4] at P2 ⊢
  rw [← hb3] at P1 ⊢
  rw [← hb2] at C0 C1 ⊢
  clear hb4 hb3 hb2
  by_cases hcm : 0 < c
  · have hcd : decide (c > 0) = true := decide_eq_true hcm
    have hx := HX.out
    rw [if_pos hcm] at hx
    obtain ⟨rfl, rfl, rfl⟩ : l = l' ∧ c - 1 = c' ∧ true = t := by cases hx; exact ⟨rfl, rfl, rfl⟩
    have m2 : ∀ i, W1.frozen? ⟨b4, i, none⟩ = false := fun i => frozen_of_row W1 b4 i _ _ P2.out
    obtain ⟨m3, m4⟩ := P2.out.cells
    obtain ⟨m5, m6⟩ := P1.out.cells
    clear hx
    go_wp2
    exact bodyPost_ret (results_pt rfl rfl rfl (setP_at P2.out l (c - 1))) rfl ⟨rfl, sees_setP S1.out HB4.out l (c - 1)⟩
  · have hcd : decide (c > 0) = false := decide_eq_false hcm
    have hx := HX.out
    rw [if_neg hcm] at hx
    obtain ⟨g1, g2, g3⟩ : lp = l' ∧ cq = c' ∧ (I && so) = t := by cases hx; exact ⟨rfl, rfl, rfl⟩
    subst g1 g2 g3
    obtain ⟨m5, m6⟩ := P1.out.cells
    have kn : (0 : Int) < n := by omega
    clear hx
    go_upto_region 3 with fail
    refine wpH_go (fun _ => False) 13 (by kernel_rfl) (by kernel_rfl) (by rfl) (fun hB w8 hs8 => ?_)
    have S8 := Lib.hid (S1.out.trans hs8)
    have P18 := Lib.hid (P1.out.sees hs8)
    have P28 := Lib.hid (P2.out.sees hs8)
    have C08 := Lib.hid (hs8.cell C0.out)
    have C18 := Lib.hid (hs8.cell C1.out)
    have Y08 := Lib.hid ((S1.out.trans hs8).cell Y0.out)
    clear hs8 m5 m6
    have hS0 : Keeps (fun _ => False) w8 w8 := Keeps.refl _ w8
    refine wpH_take (i := 0) (v := .pointer (some ⟨b3, 0, none⟩)) hB (by rfl) (by kernel_rfl) (fun _ _ _ _ _ h => h) (by rfl) hS0 (fun W hI => by clear hI; go_simp) ?_; (try simp only [Act.put, List.setIfInBounds_toArray, List.set_cons_zero, List.set_cons_succ])
    refine wpH_take (i := 1) (v := .int .i64 l) hB (by rfl) (by kernel_rfl) (fun _ _ _ _ _ h => h) (by rfl) hS0 (fun W hI => by obtain ⟨q0, q1⟩ := (P18.out.keeps hI (fun h => h)).cells; go_simp) ?_; (try simp only [Act.put, List.setIfInBounds_toArray, List.set_cons_zero, List.set_cons_succ])
    refine wpH_take (i := 2) (v := .int .i64 lp) hB (by rfl) (by kernel_rfl) (fun _ _ _ _ _ h => h) (by rfl) hS0 (fun W hI => by clear hI; go_simp) ?_; (try simp only [Act.put, List.setIfInBounds_toArray, List.set_cons_zero, List.set_cons_succ])
    refine wpH_take (i := 3) (v := .pointer (some ⟨b2, 0, none⟩)) hB (by rfl) (by kernel_rfl) (fun _ _ _ _ _ h => h) (by rfl) hS0 (fun W hI => by clear hI; go_simp) ?_; (try simp only [Act.put, List.setIfInBounds_toArray, List.set_cons_zero, List.set_cons_succ])
    refine wpH_take (i := 4) (v := .slice (some ⟨b1, o1, none⟩) n cp) hB (by rfl) (by kernel_rfl) (fun _ _ _ _ _ h => h) (by rfl) hS0 (fun W hI => by have q0 := hI.cell (fun h => h) C08.out; go_simp) ?_; (try simp only [Act.put, List.setIfInBounds_toArray, List.set_cons_zero, List.set_cons_succ])
    refine wpH_take (i := 5) (v := .pointer (some ⟨b1, o1, none⟩)) hB (by rfl) (by kernel_rfl) (fun _ _ _ _ _ h => h) (by rfl) hS0 (fun W hI => by clear hI; go_simp) ?_; (try simp only [Act.put, List.setIfInBounds_toArray, List.set_cons_zero, List.set_cons_succ])
    refine wpH_take (i := 6) (v := .pointer (some ⟨b1, o1, none⟩)) hB (by rfl) (by kernel_rfl) (fun _ _ _ _ _ h => h) (by rfl) hS0 (fun W hI => by clear hI; go_simp) ?_; (try simp only [Act.put, List.setIfInBounds_toArray, List.set_cons_zero, List.set_cons_succ])
    refine wpH_take (i := 7) (v := .slice a1 M m1) hB (by rfl) (by kernel_rfl) (fun _ _ _ _ _ h => h) (by rfl) hS0 (fun W hI => by have q0 := hI.cell (fun h => h) Y08.out; go_simp) ?_; (try simp only [Act.put, List.setIfInBounds_toArray, List.set_cons_zero, List.set_cons_succ])
    refine wpH_take (i := 8) (v := .int .i64 M) hB (by rfl) (by kernel_rfl) (fun _ _ _ _ _ h => h) (by rfl) hS0 (fun W hI => by clear hI; go_simp) ?_; (try simp only [Act.put, List.setIfInBounds_toArray, List.set_cons_zero, List.set_cons_succ])
    refine wpH_take (i := 9) (v := .int .i64 cq) hB (by rfl) (by kernel_rfl) (fun _ _ _ _ _ h => h) (by rfl) hS0 (fun W hI => by clear hI; go_simp) ?_; (try simp only [Act.put, List.setIfInBounds_toArray, List.set_cons_zero, List.set_cons_succ])
    refine wpH_take (i := 10) (v := .agg #[.int .i64 lp, .int .i64 cq]) hB (by rfl) (by kernel_rfl) (fun _ _ _ _ _ h => h) (by rfl) hS0 (fun W hI => by clear hI; go_simp) ?_; (try simp only [Act.put, List.setIfInBounds_toArray, List.set_cons_zero, List.set_cons_succ])
    obtain ⟨wa, hwa⟩ : ∃ wa, wa = w8.alloc (.cells #[.int .i64 0, .int .i64 0] 25) := ⟨_, rfl⟩
    have E1 : Hid (PlAt wa w8.heap.size 0 0) := by rw [hwa]; exact heap_alloc_new w8 _
    have KA : Keeps (fun _ => False) w8 wa := by rw [hwa]; exact Keeps.of_sees ((Sees.refl _).alloc _)
    have HWA := Lib.hid hwa
    clear hwa
    refine wpH_one (i := 11) (by kernel_rfl) (wpOp_val (v := .pointer (some ⟨w8.heap.size, 0, none⟩)) (w' := wa) (by rfl) (wanted_none (by rfl) _) (by rw [HWA.out]; go_simp) ⟨KA, ?_⟩)
    (try simp only [Act.put, List.setIfInBounds_toArray, List.set_cons_zero, List.set_cons_succ])
    refine wpH_one (i := 12) (by kernel_rfl) (wpOp_skip (w' := stQ wa w8.heap.size lp cq) (by rfl) (wanted_none (by rfl) _) (exec_store (a := .pointer (some ⟨w8.heap.size, 0, none⟩)) (v := .agg #[.int .i64 lp, .int .i64 cq]) rfl (by go_simp) (by go_simp) (run_storeQ E1.out lp cq)) ⟨KA.setRow' (Nat.le_refl _) _, ?_⟩)
    (try simp only [Act.put, List.setIfInBounds_toArray, List.set_cons_zero, List.set_cons_succ])
    refine wpH_end (by kernel_rfl) ?_
    have hss : Sees w8 (stQ wa w8.heap.size lp cq) := (KA.setRow' (Nat.le_refl _) _).sees_end (fun _ _ h => h)
    obtain ⟨W4, hW4⟩ : ∃ W4, W4 = stQ wa w8.heap.size lp cq := ⟨_, rfl⟩
    have P6 : Hid (PlAt W4 w8.heap.size lp cq) := by rw [hW4]; exact stQ_at E1.out lp cq
    have S4 : Hid (Sees w8 W4) := by rw [hW4]; exact hss
    have HB6 : Hid (w8.heap.size ≠ b4) := by have := (Array.getElem?_eq_some_iff.1 P28.out).1; unfold RowKit.Hid; omega
    rw [← hW4]
    obtain ⟨b6, hb6⟩ : ∃ b6, b6 = w8.heap.size := ⟨_, rfl⟩
    rw [← hb6] at P6 HB6 ⊢
    clear hW4 hb6 hss E1 KA HWA hS0 hB
    go_upto_region 4 with fail
    refine wpH_go (fun b => b = b4) 13 (by kernel_rfl) (by kernel_rfl) (by rfl) (fun hB w9 hs9 => ?_)
    have S9 := Lib.hid (S8.out.trans (S4.out.trans hs9))
    have P69 := Lib.hid (P6.out.sees hs9)
    have P29 := Lib.hid (P28.out.sees (S4.out.trans hs9))
    have C09 := Lib.hid ((S4.out.trans hs9).cell C08.out)
    have C19 := Lib.hid ((S4.out.trans hs9).cell C18.out)
    clear hs9
    have hS0 : Keeps (fun b => b = b4) w9 w9 := Keeps.refl _ w9
    refine wpH_take (i := 0) (v := .agg #[.int .i64 lp, .int .i64 cq]) hB (by rfl) (by kernel_rfl) (fun _ _ _ _ _ h => h) (by rfl) hS0 (fun W hI => by obtain ⟨q0, q1⟩ := (P69.out.keeps hI HB6.out).cells; go_simp) ?_; (try simp only [Act.put, List.setIfInBounds_toArray, List.set_cons_zero, List.set_cons_succ])
    refine wpH_take (i := 1) (v := .agg #[.slice (some ⟨b1, o1, none⟩) n cp, .int .i64 first]) hB (by rfl) (by kernel_rfl) (fun _ _ _ _ _ h => h) (by rfl) hS0 (fun W hI => by have q0 := hI.cell (fun h => HNE.out.2 (Eq.symm h)) C09.out; have q1 := hI.cell (fun h => HNE.out.2 (Eq.symm h)) C19.out; go_simp) ?_; (try simp only [Act.put, List.setIfInBounds_toArray, List.set_cons_zero, List.set_cons_succ])
    refine wpH_take (i := 2) (v := .agg #[.int .i64 lp, .int .i64 cq]) hB (by rfl) (by kernel_rfl) (fun _ _ _ _ _ h => h) (by rfl) hS0 (fun W hI => by obtain ⟨q0, q1⟩ := (P69.out.keeps hI HB6.out).cells; go_simp) ?_; (try simp only [Act.put, List.setIfInBounds_toArray, List.set_cons_zero, List.set_cons_succ])
    refine wpH_one (i := 3) (by kernel_rfl) (wpOp_enter (fn := 39) (args := #[.agg #[.slice (some ⟨b1, o1, none⟩) n cp, .int .i64 first], .agg #[.int .i64 lp, .int .i64 cq]]) (by rfl) (by rfl) (by go_simp) ((KI.out w9 S9.out).mono ?_))
    rintro ee w11 ⟨rfl, hs⟩
    have hS1 := hS0.trans (Keeps.of_sees hs)
    refine ⟨_, rfl, hS1, ?_⟩
    (try simp only [Act.put, List.setIfInBounds_toArray, List.set_cons_zero, List.set_cons_succ])
    have S11 := Lib.hid (S9.out.trans hs)
    have P211 := Lib.hid (P29.out.sees hs)
    clear hs hS0
    have hS0 := hS1
    clear hS1
    refine wpH_take (i := 4) (v := .bool I) hB (by rfl) (by kernel_rfl) (fun _ _ _ _ _ h => h) (by rfl) hS0 (fun W hI => by clear hI; go_simp) ?_; (try simp only [Act.put, List.setIfInBounds_toArray, List.set_cons_zero, List.set_cons_succ])
    cases I
    · refine wpH_off (i := 5) hB (by rfl) (by kernel_rfl) (fun _ _ _ _ _ h => h) (by go_simp) hS0 ?_
      (try simp only [Act.put, List.setIfInBounds_toArray, List.set_cons_zero, List.set_cons_succ])
      refine wpH_off (i := 6) hB (by rfl) (by kernel_rfl) (fun _ _ _ _ _ h => h) (by go_simp) hS0 ?_
      (try simp only [Act.put, List.setIfInBounds_toArray, List.set_cons_zero, List.set_cons_succ])
      refine wpH_off (i := 7) hB (by rfl) (by kernel_rfl) (fun _ _ _ _ _ h => h) (by go_simp) hS0 ?_
      (try simp only [Act.put, List.setIfInBounds_toArray, List.set_cons_zero, List.set_cons_succ])
      refine wpH_one (i := 8) (by kernel_rfl) (wpOp_off (by rfl) (by go_simp) ⟨hS0, ?_⟩)
      (try simp only [Act.put, List.setIfInBounds_toArray, List.set_cons_zero, List.set_cons_succ])
      refine wpH_off (i := 9) hB (by rfl) (by kernel_rfl) (fun _ _ _ _ _ h => h) (by go_simp) hS0 ?_
      (try simp only [Act.put, List.setIfInBounds_toArray, List.set_cons_zero, List.set_cons_succ])
      refine wpH_take (i := 10) (v := .bool false) hB (by rfl) (by kernel_rfl) (fun _ _ _ _ _ h => h) (by rfl) hS0 (fun W hI => by clear hI; go_simp) ?_; (try simp only [Act.put, List.setIfInBounds_toArray, List.set_cons_zero, List.set_cons_succ])
      refine wpH_one (i := 11) (by kernel_rfl) (wpOp_skip (w' := stQ w11 b4 lp cq) (by rfl) (wanted_none (by rfl) _) (exec_store (a := .pointer (some ⟨b4, 0, none⟩)) (v := .agg #[.int .i64 lp, .int .i64 cq]) rfl (by go_simp) (by go_simp) (run_storeQ P211.out lp cq)) ⟨hS0.trans (stQ_keeps _ _ _ _), ?_⟩)
      (try simp only [Act.put, List.setIfInBounds_toArray, List.set_cons_zero, List.set_cons_succ])
      have HF1 := Lib.hid (stQ_at P211.out lp cq)
      have HF2 : Hid (Sees w (stQ w11 b4 lp cq)) := by
        unfold RowKit.Hid stQ
        exact ((Keeps.of_sees (F := fun _ => False) S11.out).setRow' HB4.out _).sees_end (fun _ _ h => h)
      have hS1 : Keeps (fun b => b = b4) w9 (stQ w11 b4 lp cq) := hS0.trans (stQ_keeps _ _ _ _)
      clear hS0
      have hS0 := hS1
      refine wpH_take (i := 12) (v := .bool false) hB (by rfl) (by kernel_rfl) (fun _ _ _ _ _ h => h) (by rfl) hS0 (fun W hI => by clear hI; go_simp) ?_; (try simp only [Act.put, List.setIfInBounds_toArray, List.set_cons_zero, List.set_cons_succ])
      refine wpH_end (by kernel_rfl) ?_
      clear hS0 hS1 hB
      go_wp2
      exact bodyPost_ret (results_pt rfl rfl rfl HF1.out) rfl ⟨rfl, HF2.out⟩
    · obtain ⟨a2, m2, hKR⟩ := KR.out rfl
      have KR2 := Lib.hid hKR
      have hfs := fun W => run_soft (.slice a2 M m2) so W
      clear hKR
      refine wpH_takeG (i := 5) (v := .agg #[.slice (some ⟨b1, o1, none⟩) n cp, .int .i64 first]) hB (by rfl) (by kernel_rfl) (fun _ _ _ _ _ h => h) (by go_simp) hS0 (fun W hI => by have q0 := hI.cell (fun h => HNE.out.2 (Eq.symm h)) C09.out; have q1 := hI.cell (fun h => HNE.out.2 (Eq.symm h)) C19.out; go_simp) ?_; (try simp only [Act.put, List.setIfInBounds_toArray, List.set_cons_zero, List.set_cons_succ])
      refine wpH_takeG (i := 6) (v := .pointer (some ⟨b6, 0, none⟩)) hB (by rfl) (by kernel_rfl) (fun _ _ _ _ _ h => h) (by go_simp) hS0 (fun W hI => by clear hI; go_simp) ?_; (try simp only [Act.put, List.setIfInBounds_toArray, List.set_cons_zero, List.set_cons_succ])
      refine wpH_takeG (i := 7) (v := .int .i64 lp) hB (by rfl) (by kernel_rfl) (fun _ _ _ _ _ h => h) (by go_simp) hS0 (fun W hI => by obtain ⟨q0, q1⟩ := (P69.out.keeps hI HB6.out).cells; go_simp) ?_; (try simp only [Act.put, List.setIfInBounds_toArray, List.set_cons_zero, List.set_cons_succ])
      refine wpH_one (i := 8) (by kernel_rfl) (wpOp_enterG (fn := 46) (args := #[.agg #[.slice (some ⟨b1, o1, none⟩) n cp, .int .i64 first], .int .i64 lp]) (by rfl) (by go_simp) (by go_simp) ((KR2.out w11 S11.out).mono ?_))
      rintro ee w12 ⟨rfl, hs⟩
      have hS1 := hS0.trans (Keeps.of_sees hs)
      refine ⟨_, rfl, hS1, ?_⟩
      (try simp only [Act.put, List.setIfInBounds_toArray, List.set_cons_zero, List.set_cons_succ])
      have S12 := Lib.hid (S11.out.trans hs)
      have P212 := Lib.hid (P211.out.sees hs)
      clear hs hS0
      have hS0 := hS1
      clear hS1
      refine wpH_takeG (i := 9) (v := .bool so) hB (by rfl) (by kernel_rfl) (fun _ _ _ _ _ h => h) (by go_simp) hS0 (fun W hI => by clear hI; go_simp) ?_; (try simp only [Act.put, List.setIfInBounds_toArray, List.set_cons_zero, List.set_cons_succ])
      refine wpH_take (i := 10) (v := .bool (true && so)) hB (by rfl) (by kernel_rfl) (fun _ _ _ _ _ h => h) (by rfl) hS0 (fun W hI => by clear hI; go_simp) ?_; (try simp only [Act.put, List.setIfInBounds_toArray, List.set_cons_zero, List.set_cons_succ])
      refine wpH_one (i := 11) (by kernel_rfl) (wpOp_skip (w' := stQ w12 b4 lp cq) (by rfl) (wanted_none (by rfl) _) (exec_store (a := .pointer (some ⟨b4, 0, none⟩)) (v := .agg #[.int .i64 lp, .int .i64 cq]) rfl (by go_simp) (by go_simp) (run_storeQ P212.out lp cq)) ⟨hS0.trans (stQ_keeps _ _ _ _), ?_⟩)
      (try simp only [Act.put, List.setIfInBounds_toArray, List.set_cons_zero, List.set_cons_succ])
      have HF1 := Lib.hid (stQ_at P212.out lp cq)
      have HF2 : Hid (Sees w (stQ w12 b4 lp cq)) := by
        unfold RowKit.Hid stQ
        exact ((Keeps.of_sees (F := fun _ => False) S12.out).setRow' HB4.out _).sees_end (fun _ _ h => h)
      have hS1 : Keeps (fun b => b = b4) w9 (stQ w12 b4 lp cq) := hS0.trans (stQ_keeps _ _ _ _)
      clear hS0
      have hS0 := hS1
      refine wpH_take (i := 12) (v := .bool (true && so)) hB (by rfl) (by kernel_rfl) (fun _ _ _ _ _ h => h) (by rfl) hS0 (fun W hI => by clear hI; go_simp) ?_; (try simp only [Act.put, List.setIfInBounds_toArray, List.set_cons_zero, List.set_cons_succ])
      refine wpH_end (by kernel_rfl) ?_
      clear hS0 hS1 hB
      go_wp2
      exact bodyPost_ret (results_pt rfl rfl rfl HF1.out) rfl ⟨rfl, HF2.out⟩
end Go.Proofs.YtooiiefipdjbjaaDoor

namespace Go.Proofs.YtooiiefipdjbjaaDoor
set_option linter.unusedVariables false
set_option linter.unusedSimpArgs false
open Go.RowKit
attribute [local go_sem] Oper.semAt_some

def stC (W : World) (b : Nat) (c : Cell) : World := W.setRow b c.vals.toArray
theorem run_storeC {W : World} {b : Nat} {cs : Array Value} (h : W.heap[b]? = some (.cells cs 85 (0, 0))) (hs : cs.size = 16) (c : Cell) : (Instr.storeAt 85 (.pointer (some ⟨b, 0, none⟩)) c.val).run Tryd.prog W = .ok () (stC W b c) :=
  run_storeAt_row (P := Tryd.prog) (W := W) 85 b _ 85 c.vals (fun _ => by kernel_rfl) h (by rw [hs]; rfl) (by intro v hv; simp [Cell.vals] at hv; rcases hv with rfl | rfl | rfl | rfl | rfl | rfl | rfl | rfl | rfl | rfl | rfl | rfl | rfl | rfl | rfl | rfl <;> rfl)
theorem stC_at {W : World} {b : Nat} {cs : Array Value} (h : W.heap[b]? = some (.cells cs 85 (0, 0))) (c : Cell) : CellAt (stC W b c) b 0 c := by
  have hg : (stC W b c).heap[b]? = some (.cells c.vals.toArray 85 (0, 0)) := by simp [stC, World.setRow, Array.getElem?_modify, h]
  intro j x hx
  rw [Nat.zero_add, cell_of_row _ _ _ _ _ _ hg]
  simpa using hx
theorem stC_keeps (W : World) (b : Nat) (c : Cell) : Keeps (fun y => y = b) W (stC W b c) :=
  ⟨rfl, rfl, rfl, by simp [stC, World.setRow], fun y _ hne => setRow_other _ _ _ _ hne⟩
theorem cell_keeps {F : Nat → Prop} {w W : World} {b p : Nat} {c : Cell} (h : CellAt w b p c) (hk : Keeps F w W) (hF : ¬ F b) : CellAt W b p c := fun j x hx => hk.cell (a := ⟨b, p + j, none⟩) hF (h j x hx)
set_option maxHeartbeats 4000000 in
set_option maxRecDepth 100000 in
theorem sh_cell (F : Nat → Prop) (v : Value) (ls : List Ln) (w : World) (ha : lnEl.Rd F w v ls) (hF : ∀ b, F b → b < w.heap.size) (hn : ls.length ≤ 1000000) (first : Int) (h0 : 0 ≤ first) (h1 : first ≤ 1099511627776) (k : Nat) (x : Ln) (hx : ls[k]? = some x) (l : Int) (hl : l = first + k) (j : Nat) (d : Cell) (hd : x.cells[j]? = some d) (hj : j ≤ 1000000) :
    Calls Tryd.prog 106 #[.agg #[v, .int .i64 first], .agg #[.int .i64 l, .int .i64 j]] w fun e w' => e = .returned d.val ∧ Sees w w' := by
  obtain ⟨a, cp, rfl, _⟩ := ha.slice'
  obtain ⟨n, hnn⟩ : ∃ n, n = ls.length := ⟨_, rfl⟩
  have hk : k < n := by rw [hnn]; exact (List.getElem?_eq_some_iff.1 hx).1
  rw [← hnn] at ha hn ⊢
  obtain ⟨b1, o1, x', a1, m1, rfl, _, hxk, _, y0, y1, yc⟩ := ha.line hk
  obtain rfl : x' = x := Option.some.inj (hxk.symm.trans hx)
  have KR : Hid (∀ W, Sees w W → Calls Tryd.prog 46 #[.agg #[.slice (some ⟨b1, o1, none⟩) n cp, .int .i64 first], .int .i64 l] W fun e w' => e = .returned (.agg #[.slice a1 x'.cells.length m1, .bool x'.soft]) ∧ Sees W w') := fun W hs =>
    sh_row b1 o1 n cp k a1 x'.cells.length m1 x'.soft first l W hk hn h0 h1 hl (hs.cell y0) (hs.cell y1)
  have hjl : j < x'.cells.length := (List.getElem?_eq_some_iff.1 hd).1
  obtain ⟨b5, o5, d', rfl, hb5, hd', hat⟩ := yc.cell hjl
  have hb5' := hF b5 hb5
  obtain rfl : d' = d := Option.some.inj (hd'.symm.trans hd)
  have hlr : 0 ≤ l ∧ l ≤ 1099512627776 := by omega
  have HAT := Lib.hid hat
  generalize x'.soft = so at *
  generalize x'.cells.length = M at *
  clear ha hnn hx hxk y0 y1 yc hat hd hd' hl hb5
  go_enter Tryd.func106, Tryd.ntmps106
  go_upto_region 1 with fail
  refine wp_world fun W1 hW1 => ?_
  have c0 : W1.cell? ⟨w.heap.size, 0, none⟩ = some (.slice (some ⟨b1, o1, none⟩) n cp) := by
    subst hW1
    exact (((Sees.refl _).alloc _).alloc _).cell (by rw [cell_of_row _ _ _ _ _ _ (heap_alloc_new w _)]; rfl)
  have c1 : W1.cell? ⟨w.heap.size, 1, none⟩ = some (.int .i64 first) := by
    subst hW1
    exact (((Sees.refl _).alloc _).alloc _).cell (by rw [cell_of_row _ _ _ _ _ _ (heap_alloc_new w _)]; rfl)
  have p1 : PlAt W1 (w.heap.size + 1) l j := by
    subst hW1
    have q := heap_alloc_new (w.alloc (.cells #[.slice (some ⟨b1, o1, none⟩) n cp, .int .i64 first] 87)) (.cells #[.int .i64 l, .int .i64 j] 25)
    rw [World.size_alloc] at q
    have q' : PlAt _ _ l j := q
    exact q'.sees ((Sees.refl _).alloc _)
  have p2 : ∃ cs, W1.heap[w.heap.size + 1 + 1]? = some (.cells cs 85 (0, 0)) ∧ cs.size = 16 := by
    subst hW1
    have q := heap_alloc_new ((w.alloc (.cells #[.slice (some ⟨b1, o1, none⟩) n cp, .int .i64 first] 87)).alloc (.cells #[.int .i64 l, .int .i64 j] 25)) (.cells #[.int .i32 0, .int .i32 0, .int .i32 0, .int .i32 0, .int .i64 0, .int .i64 0, .int .u8 0, .int .u8 0, .int .u8 0, .int .u8 0, .int .i64 0, .int .u8 0, .int .u8 0, .int .u8 0, .int .u8 0, .int .u8 0] 85)
    rw [World.size_alloc, World.size_alloc] at q
    exact ⟨_, q, rfl⟩
  have s1 : Sees w W1 := by subst hW1; exact (((Sees.refl w).alloc _).alloc _).alloc _
  obtain ⟨cs, p2, hcs⟩ := p2
  have C0 := Lib.hid c0
  have C1 := Lib.hid c1
  have P1 := Lib.hid p1
  have P2 := Lib.hid p2
  have S1 := Lib.hid s1
  clear hW1 c0 c1 p1 p2 s1
  obtain ⟨b4, hb4⟩ : ∃ b4, b4 = w.heap.size + 1 + 1 := ⟨_, rfl⟩
  obtain ⟨b3, hb3⟩ : ∃ b3, b3 = w.heap.size + 1 := ⟨_, rfl⟩
  obtain ⟨b2, hb2⟩ : ∃ b2, b2 = w.heap.size := ⟨_, rfl⟩
  have HB4 : Hid (w.heap.size ≤ b4) := by unfold RowKit.Hid; omega
  rw [← hb4] at P2 ⊢
  rw [← hb3] at P1 ⊢
  rw [← hb2] at C0 C1 ⊢
  have HNE : Hid (b3 ≠ b4 ∧ b2 ≠ b4 ∧ b5 ≠ b4) := by unfold RowKit.Hid; omega
  clear hb4 hb3 hb2
  have hji : (j : Int) < (M : Int) := by omega
  have hfd := fun W => run_cells (.slice (some ⟨b5, o5, none⟩) M m1) (.bool so) W
  refine wpH_go (fun b => b = b4) 10 (by kernel_rfl) (by kernel_rfl) (by rfl) (fun hB w9 hs9 => ?_)
  have S9 := Lib.hid (S1.out.trans hs9)
  have P19 := Lib.hid (P1.out.sees hs9)
  have P29 : Hid (w9.heap[b4]? = some (.cells cs 85 (0, 0))) := by unfold RowKit.Hid; rw [hs9.block _ (Array.getElem?_eq_some_iff.1 P2.out).1]; exact P2.out
  have C09 := Lib.hid (hs9.cell C0.out)
  have C19 := Lib.hid (hs9.cell C1.out)
  have HAT9 := Lib.hid (HAT.out.sees S9.out)
  clear hs9
  have hS0 : Keeps (fun b => b = b4) w9 w9 := Keeps.refl _ w9
  refine wpH_take (i := 0) (v := .agg #[.slice (some ⟨b1, o1, none⟩) n cp, .int .i64 first]) hB (by rfl) (by kernel_rfl) (fun _ _ _ _ _ h => h) (by rfl) hS0 (fun W hI => by have q0 := hI.cell HNE.out.2.1 C09.out; have q1 := hI.cell HNE.out.2.1 C19.out; go_simp) ?_; (try simp only [Act.put, List.setIfInBounds_toArray, List.set_cons_zero, List.set_cons_succ])
  refine wpH_take (i := 1) (v := .pointer (some ⟨b3, 0, none⟩)) hB (by rfl) (by kernel_rfl) (fun _ _ _ _ _ h => h) (by rfl) hS0 (fun W hI => by clear hI; go_simp) ?_; (try simp only [Act.put, List.setIfInBounds_toArray, List.set_cons_zero, List.set_cons_succ])
  refine wpH_take (i := 2) (v := .int .i64 l) hB (by rfl) (by kernel_rfl) (fun _ _ _ _ _ h => h) (by rfl) hS0 (fun W hI => by obtain ⟨q0, q1⟩ := (P19.out.keeps hI HNE.out.1).cells; go_simp) ?_; (try simp only [Act.put, List.setIfInBounds_toArray, List.set_cons_zero, List.set_cons_succ])
  refine wpH_take (i := 5) (v := .pointer (some ⟨b3, 1, none⟩)) hB (by rfl) (by kernel_rfl) (fun _ _ _ _ _ h => h) (by rfl) hS0 (fun W hI => by clear hI; go_simp) ?_; (try simp only [Act.put, List.setIfInBounds_toArray, List.set_cons_zero, List.set_cons_succ])
  refine wpH_take (i := 6) (v := .int .i64 j) hB (by rfl) (by kernel_rfl) (fun _ _ _ _ _ h => h) (by rfl) hS0 (fun W hI => by obtain ⟨q0, q1⟩ := (P19.out.keeps hI HNE.out.1).cells; go_simp) ?_; (try simp only [Act.put, List.setIfInBounds_toArray, List.set_cons_zero, List.set_cons_succ])
  refine wpH_one (i := 3) (by kernel_rfl) (wpOp_enter (fn := 46) (args := #[.agg #[.slice (some ⟨b1, o1, none⟩) n cp, .int .i64 first], .int .i64 l]) (by rfl) (by rfl) (by go_simp) ((KR.out w9 S9.out).mono ?_))
  rintro ee w11 ⟨rfl, hs⟩
  have hS1 := hS0.trans (Keeps.of_sees hs)
  refine ⟨_, rfl, hS1, ?_⟩
  (try simp only [Act.put, List.setIfInBounds_toArray, List.set_cons_zero, List.set_cons_succ])
  have S11 := Lib.hid (S9.out.trans hs)
  have P211 : Hid (w11.heap[b4]? = some (.cells cs 85 (0, 0))) := by unfold RowKit.Hid; rw [hs.block _ (Array.getElem?_eq_some_iff.1 P29.out).1]; exact P29.out
  clear hs hS0
  have hS0 := hS1
  clear hS1
  refine wpH_take (i := 4) (v := .slice (some ⟨b5, o5, none⟩) M m1) hB (by rfl) (by kernel_rfl) (fun _ _ _ _ _ h => h) (by rfl) hS0 (fun W hI => by clear hI; go_simp) ?_; (try simp only [Act.put, List.setIfInBounds_toArray, List.set_cons_zero, List.set_cons_succ])
  refine wpH_take (i := 7) (v := .pointer (some ⟨b5, o5 + j * 16, none⟩)) hB (by rfl) (by kernel_rfl) (fun _ _ _ _ _ h => h) (by rfl) hS0 (fun W hI => by clear hI; go_simp) ?_; (try simp only [Act.put, List.setIfInBounds_toArray, List.set_cons_zero, List.set_cons_succ])
  refine wpH_take (i := 8) (v := d'.val) hB (by rfl) (by kernel_rfl) (fun _ _ _ _ _ h => h) (by rfl) hS0 (fun W hI => exec_load rfl (by first | rfl | go_simp) (run_loadCell (cell_keeps HAT9.out hI HNE.out.2.2))) ?_
  (try simp only [Act.put, List.setIfInBounds_toArray, List.set_cons_zero, List.set_cons_succ])
  refine wpH_one (i := 9) (by kernel_rfl) (wpOp_skip (w' := stC w11 b4 d') (by rfl) (wanted_none (by rfl) _) (exec_store (a := .pointer (some ⟨b4, 0, none⟩)) (v := d'.val) rfl (by go_simp) (by go_simp) (run_storeC P211.out hcs d')) ⟨hS0.trans (stC_keeps _ _ _), ?_⟩)
  (try simp only [Act.put, List.setIfInBounds_toArray, List.set_cons_zero, List.set_cons_succ])
  refine wpH_end (by kernel_rfl) ?_
  have HF1 := Lib.hid (stC_at P211.out d')
  have HF2 : Hid (Sees w (stC w11 b4 d')) := by
    unfold RowKit.Hid stC
    exact ((Keeps.of_sees (F := fun _ => False) S11.out).setRow' HB4.out _).sees_end (fun _ _ h => h)
  clear hS0 hB
  go_wp2
  exact bodyPost_ret (results_one rfl rfl (run_loadCell HF1.out)) rfl ⟨rfl, HF2.out⟩
end Go.Proofs.YtooiiefipdjbjaaDoor

namespace Go.Proofs.YtooiiefipdjbjaaDoor
set_option linter.unusedVariables false
set_option linter.unusedSimpArgs false
open Go.RowKit
attribute [local go_sem] Oper.semAt_some

/-- Is a byte the first one of a letter of a word? -/
def wdI (q : Int) : Bool := (((decide (q ≥ 128) || (q == 95)) || (decide (q ≥ 48) && decide (q ≤ 57))) || (decide (q ≥ 97) && decide (q ≤ 122))) || (decide (q ≥ 65) && decide (q ≤ 90))
set_option maxHeartbeats 4000000 in
set_option maxRecDepth 100000 in
theorem sh_wordy (F : Nat → Prop) (v : Value) (ls : List Ln) (w : World) (ha : lnEl.Rd F w v ls) (hF : ∀ b, F b → b < w.heap.size) (hn : ls.length ≤ 1000000) (first : Int) (h0 : 0 ≤ first) (h1 : first ≤ 1099511627776) (k : Nat) (x : Ln) (hx : ls[k]? = some x) (l : Int) (hl : l = first + k) (j : Nat) (d : Cell) (hd : x.cells[j]? = some d) (hj : j ≤ 1000000) (e' : Cell) (he : if d.width = 0 then 1 ≤ j ∧ x.cells[j - 1]? = some e' else e' = d) (X : ByteArray) (hXe : X = ⟨e'.txt.toArray⟩) (hX1 : 0 < X.size) (P : Bool) (hP : P = wdI ((X[0]).toNat : Int)) :
    Calls Tryd.prog 86 #[.agg #[v, .int .i64 first], .agg #[.int .i64 l, .int .i64 j]] w fun e w' => e = .returned (.bool P) ∧ Sees w w' := by
  have KC : Hid (∀ W, Sees w W → Calls Tryd.prog 106 #[.agg #[v, .int .i64 first], .agg #[.int .i64 l, .int .i64 j]] W fun e w' => e = .returned d.val ∧ Sees W w') := fun W hs =>
    sh_cell F v ls W (ha.sees hs) (fun b hb => Nat.lt_of_lt_of_le (hF b hb) hs.size) hn first h0 h1 k x hx l hl j d hd hj
  obtain ⟨a, cp, rfl, _⟩ := ha.slice'
  obtain ⟨n, hnn⟩ : ∃ n, n = ls.length := ⟨_, rfl⟩
  have hk : k < n := by rw [hnn]; exact (List.getElem?_eq_some_iff.1 hx).1
  rw [← hnn] at ha hn KC ⊢
  obtain ⟨b1, o1, x', a1, m1, rfl, _, hxk, _, y0, y1, yc⟩ := ha.line hk
  obtain rfl : x' = x := Option.some.inj (hxk.symm.trans hx)
  have KR : Hid (∀ W, Sees w W → Calls Tryd.prog 46 #[.agg #[.slice (some ⟨b1, o1, none⟩) n cp, .int .i64 first], .int .i64 l] W fun e w' => e = .returned (.agg #[.slice a1 x'.cells.length m1, .bool x'.soft]) ∧ Sees W w') := fun W hs =>
    sh_row b1 o1 n cp k a1 x'.cells.length m1 x'.soft first l W hk hn h0 h1 hl (hs.cell y0) (hs.cell y1)
  have hjl : j < x'.cells.length := (List.getElem?_eq_some_iff.1 hd).1
  obtain ⟨b5, o5, d', rfl, hb5, hd', hat⟩ := yc.cell hjl
  have hb5' := hF b5 hb5
  obtain rfl : d' = d := Option.some.inj (hd'.symm.trans hd)
  have HE : Hid (d'.width = 0 → 1 ≤ j ∧ CellAt w b5 (o5 + (j - 1) * 16) e') := fun hw => by
    rw [if_pos hw] at he
    obtain ⟨b6, o6, e2, e6, _, he2, hat2⟩ := yc.cell (show j - 1 < x'.cells.length by omega)
    cases e6
    obtain rfl : e2 = e' := Option.some.inj (he2.symm.trans he.2)
    exact ⟨he.1, hat2⟩
  have HE2 : Hid (d'.width ≠ 0 → e' = d') := fun hw => by rw [if_neg hw] at he; exact he
  have hlr : 0 ≤ l ∧ l ≤ 1099512627776 := by omega
  have HP := Lib.hid hP
  generalize x'.soft = so at *
  generalize x'.cells.length = M at *
  clear ha hnn hx hxk y0 y1 yc hat hd hd' hl hb5 he hP
  have hX0 : (0 : Int) < (X.size : Int) := by omega
  go_enter Tryd.func86, Tryd.ntmps86
  go_upto_region 1 with fail
  refine wp_world fun W1 hW1 => ?_
  have c0 : W1.cell? ⟨w.heap.size, 0, none⟩ = some (.slice (some ⟨b1, o1, none⟩) n cp) := by
    subst hW1
    exact ((Sees.refl _).alloc _).cell (by rw [cell_of_row _ _ _ _ _ _ (heap_alloc_new w _)]; rfl)
  have c1 : W1.cell? ⟨w.heap.size, 1, none⟩ = some (.int .i64 first) := by
    subst hW1
    exact ((Sees.refl _).alloc _).cell (by rw [cell_of_row _ _ _ _ _ _ (heap_alloc_new w _)]; rfl)
  have p1 : PlAt W1 (w.heap.size + 1) l j := by
    subst hW1
    have q := heap_alloc_new (w.alloc (.cells #[.slice (some ⟨b1, o1, none⟩) n cp, .int .i64 first] 87)) (.cells #[.int .i64 l, .int .i64 j] 25)
    rw [World.size_alloc] at q
    exact q
  have s1 : Sees w W1 := by subst hW1; exact ((Sees.refl w).alloc _).alloc _
  have C0 := Lib.hid c0
  have C1 := Lib.hid c1
  have P1 := Lib.hid p1
  have S1 := Lib.hid s1
  have HZ : Hid (W1.heap.size = w.heap.size + 1 + 1) := by unfold RowKit.Hid; subst hW1; rw [World.size_alloc, World.size_alloc]
  clear hW1 c0 c1 p1 s1
  obtain ⟨b3, hb3⟩ : ∃ b3, b3 = w.heap.size + 1 := ⟨_, rfl⟩
  obtain ⟨b2, hb2⟩ : ∃ b2, b2 = w.heap.size := ⟨_, rfl⟩
  have HNB : Hid (b3 < W1.heap.size ∧ b2 < W1.heap.size) := by have := HZ.out; unfold RowKit.Hid; omega
  have HWZ : Hid (w.heap.size ≤ W1.heap.size) := by have := HZ.out; unfold RowKit.Hid; omega
  rw [← hb3] at P1 ⊢
  rw [← hb2] at C0 C1 ⊢
  clear hb3 hb2 HZ
  obtain ⟨d0, d1⟩ := P1.out.cells
  have c0 := C0.out
  have c1 := C1.out
  go_wp2_with fail
  refine (KC.out _ S1.out).mono ?_
  rintro ee W2 ⟨rfl, s2⟩
  have S2 := Lib.hid s2
  clear s2 c0 c1 d0 d1
  go_upto_region 2 with (guard_target = wpList _ _ _ ({ dst := _, op := Op.store 85 _ _, type := _, pos := _, after := _, guard := _ } :: _) _ _; refine wpList_skip rfl (exec_store (v := d'.val) rfl rfl rfl (run_storeNew d' _ rfl _ rfl)) (fun K hK => ?_); go_simp; refine hK _ _ ?_; clear hK K)
  refine wp_world fun W3 hW3 => ?_
  have CD : Hid (CellAt W3 W2.heap.size 0 d') := by subst hW3; exact cellAt_new _ d' _
  have HC3 : Hid (W3.heap[W2.heap.size]? = some (.cells d'.vals.toArray 85 (0, 0))) := by subst hW3; exact heap_alloc_new W2 _
  have S3 : Hid (Sees W1 W3) := by subst hW3; exact S2.out.alloc _
  have HB : Hid (W1.heap.size ≤ W2.heap.size) := S2.out.size
  clear hW3
  obtain ⟨b4, hb4⟩ : ∃ b4, b4 = W2.heap.size := ⟨_, rfl⟩
  rw [← hb4] at CD HC3 HB ⊢
  clear hb4
  have hwd := CD.out.all.2.2.2.2.1
  by_cases hw0 : d'.width = 0
  · have hwb : (d'.width == 0) = true := by rw [hw0]; rfl
    obtain ⟨hj1, hate⟩ := HE.out hw0
    have HAT := Lib.hid hate
    have hjw : IntKind.i64.wrap ((j : Int) - 1) = (j : Int) - 1 := IntWalk.i64_in _ (by omega)
    have hji0 : (0 : Int) ≤ (j : Int) - 1 := by omega
    have hji : (j : Int) - 1 < (M : Int) := by omega
    have hjt : ((j : Int) - 1).toNat = j - 1 := by omega
    have hjn : ¬ ((j : Int) < 1) := by omega
    have hfd := fun W => run_cells (.slice (some ⟨b5, o5, none⟩) M m1) (.bool so) W
    clear hate
    go_upto_region 3 with fail
    refine wpH_go (fun b => b = b4) 11 (by kernel_rfl) (by kernel_rfl) (by rfl) (fun hB w9 hs9 => ?_)
    have S9 := Lib.hid ((S1.out.trans S3.out).trans hs9)
    have S19 := Lib.hid (S3.out.trans hs9)
    have P19 := Lib.hid (P1.out.sees S19.out)
    have C09 := Lib.hid (S19.out.cell C0.out)
    have C19 := Lib.hid (S19.out.cell C1.out)
    have P29 : Hid (w9.heap[b4]? = some (.cells d'.vals.toArray 85 (0, 0))) := by unfold RowKit.Hid; rw [hs9.block _ (Array.getElem?_eq_some_iff.1 HC3.out).1]; exact HC3.out
    have HAT9 := Lib.hid (HAT.out.sees S9.out)
    have HNE : Hid (b3 ≠ b4 ∧ b2 ≠ b4 ∧ b5 ≠ b4) := by have := HNB.out; have := HB.out; have := HWZ.out; unfold RowKit.Hid; omega
    clear hs9 hwd
    have hS0 : Keeps (fun b => b = b4) w9 w9 := Keeps.refl _ w9
    refine wpH_take (i := 0) (v := .agg #[.slice (some ⟨b1, o1, none⟩) n cp, .int .i64 first]) hB (by rfl) (by kernel_rfl) (fun _ _ _ _ _ h => h) (by rfl) hS0 (fun W hI => by have q0 := hI.cell HNE.out.2.1 C09.out; have q1 := hI.cell HNE.out.2.1 C19.out; go_simp) ?_; (try simp only [Act.put, List.setIfInBounds_toArray, List.set_cons_zero, List.set_cons_succ])
    refine wpH_take (i := 1) (v := .pointer (some ⟨b3, 0, none⟩)) hB (by rfl) (by kernel_rfl) (fun _ _ _ _ _ h => h) (by rfl) hS0 (fun W hI => by clear hI; go_simp) ?_; (try simp only [Act.put, List.setIfInBounds_toArray, List.set_cons_zero, List.set_cons_succ])
    refine wpH_take (i := 2) (v := .int .i64 l) hB (by rfl) (by kernel_rfl) (fun _ _ _ _ _ h => h) (by rfl) hS0 (fun W hI => by obtain ⟨q0, q1⟩ := (P19.out.keeps hI HNE.out.1).cells; go_simp) ?_; (try simp only [Act.put, List.setIfInBounds_toArray, List.set_cons_zero, List.set_cons_succ])
    refine wpH_take (i := 5) (v := .pointer (some ⟨b3, 1, none⟩)) hB (by rfl) (by kernel_rfl) (fun _ _ _ _ _ h => h) (by rfl) hS0 (fun W hI => by clear hI; go_simp) ?_; (try simp only [Act.put, List.setIfInBounds_toArray, List.set_cons_zero, List.set_cons_succ])
    refine wpH_take (i := 6) (v := .int .i64 j) hB (by rfl) (by kernel_rfl) (fun _ _ _ _ _ h => h) (by rfl) hS0 (fun W hI => by obtain ⟨q0, q1⟩ := (P19.out.keeps hI HNE.out.1).cells; go_simp) ?_; (try simp only [Act.put, List.setIfInBounds_toArray, List.set_cons_zero, List.set_cons_succ])
    refine wpH_take (i := 7) (v := .int .i64 ((j : Int) - 1)) hB (by rfl) (by kernel_rfl) (fun _ _ _ _ _ h => h) (by rfl) hS0 (fun W hI => by clear hI; go_simp) ?_; (try simp only [Act.put, List.setIfInBounds_toArray, List.set_cons_zero, List.set_cons_succ])
    refine wpH_one (i := 3) (by kernel_rfl) (wpOp_enter (fn := 46) (args := #[.agg #[.slice (some ⟨b1, o1, none⟩) n cp, .int .i64 first], .int .i64 l]) (by rfl) (by rfl) (by go_simp) ((KR.out w9 S9.out).mono ?_))
    rintro ee w11 ⟨rfl, hs⟩
    have hS1 := hS0.trans (Keeps.of_sees hs)
    refine ⟨_, rfl, hS1, ?_⟩
    (try simp only [Act.put, List.setIfInBounds_toArray, List.set_cons_zero, List.set_cons_succ])
    have S11 := Lib.hid (S19.out.trans hs)
    have P211 : Hid (w11.heap[b4]? = some (.cells d'.vals.toArray 85 (0, 0))) := by unfold RowKit.Hid; rw [hs.block _ (Array.getElem?_eq_some_iff.1 P29.out).1]; exact P29.out
    clear hs hS0
    have hS0 := hS1
    clear hS1
    refine wpH_take (i := 4) (v := .slice (some ⟨b5, o5, none⟩) M m1) hB (by rfl) (by kernel_rfl) (fun _ _ _ _ _ h => h) (by rfl) hS0 (fun W hI => by clear hI; go_simp) ?_; (try simp only [Act.put, List.setIfInBounds_toArray, List.set_cons_zero, List.set_cons_succ])
    refine wpH_take (i := 8) (v := .pointer (some ⟨b5, o5 + (j - 1) * 16, none⟩)) hB (by rfl) (by kernel_rfl) (fun _ _ _ _ _ h => h) (by rfl) hS0 (fun W hI => by clear hI; go_simp) ?_; (try simp only [Act.put, List.setIfInBounds_toArray, List.set_cons_zero, List.set_cons_succ])
    refine wpH_take (i := 9) (v := e'.val) hB (by rfl) (by kernel_rfl) (fun _ _ _ _ _ h => h) (by rfl) hS0 (fun W hI => exec_load rfl (by first | rfl | go_simp) (run_loadCell (cell_keeps HAT9.out hI HNE.out.2.2))) ?_
    (try simp only [Act.put, List.setIfInBounds_toArray, List.set_cons_zero, List.set_cons_succ])
    refine wpH_one (i := 10) (by kernel_rfl) (wpOp_skip (w' := stC w11 b4 e') (by rfl) (wanted_none (by rfl) _) (exec_store (a := .pointer (some ⟨b4, 0, none⟩)) (v := e'.val) rfl (by go_simp) (by go_simp) (run_storeC P211.out (by rfl) e')) ⟨hS0.trans (stC_keeps _ _ _), ?_⟩)
    (try simp only [Act.put, List.setIfInBounds_toArray, List.set_cons_zero, List.set_cons_succ])
    refine wpH_end (by kernel_rfl) ?_
    have CE := Lib.hid (stC_at P211.out e')
    have SE : Hid (Sees w (stC w11 b4 e')) := by
      unfold RowKit.Hid stC
      exact S1.out.trans (((Keeps.of_sees (F := fun _ => False) S11.out).setRow' HB.out _).sees_end (fun _ _ h => h))
    clear hS0 hB
    have KT : Hid (∀ W, Calls Tryd.prog 41 #[e'.val] W fun e w' => e = .returned (.string X) ∧ Sees W w') := fun W => by rw [hXe]; exact ctext_any e' W
    clear hXe
    go_wp2_with (guard_target = wpList _ _ _ ({ dst := _, op := Op.load 85 _, type := _, pos := _, after := _, guard := _ } :: _) _ _; refine wpList_val rfl (exec_load (v := e'.val) rfl rfl (run_loadCell CE.out)) (fun K hK => ?_); go_simp; refine hK _ _ ?_; clear hK K)
    refine (KT.out _).mono ?_
    rintro ee W6 ⟨rfl, s6⟩
    have S6 := Lib.hid (SE.out.trans s6)
    clear s6 KT
    go_upto_region 6 with fail
    obtain ⟨q, hq⟩ : ∃ q : Int, q = ((X[0]).toNat : Int) := ⟨_, rfl⟩
    rw [← hq]
    rw [← hq] at HP
    clear hq
    rcases Bool.eq_false_or_eq_true (decide (q ≥ 128)) with a0 | a0
    · have hp := HP.out
      unfold wdI at hp
      rw [a0] at hp
      go_wp2
      go_ret
      exact ⟨by rw [hp]; simp, S6.out⟩
    rcases Bool.eq_false_or_eq_true (q == 95) with d0 | d0
    · have hp := HP.out
      unfold wdI at hp
      rw [a0, d0] at hp
      go_wp2
      go_ret
      exact ⟨by rw [hp]; simp, S6.out⟩
    rcases ways2 (decide (q ≥ 48)) (decide (q ≤ 57)) with ⟨a1, a2⟩ | ⟨a1, a2⟩ | a1 <;> rcases ways2 (decide (q ≥ 97)) (decide (q ≤ 122)) with ⟨d1, d2⟩ | ⟨d1, d2⟩ | d1 <;> rcases ways2 (decide (q ≥ 65)) (decide (q ≤ 90)) with ⟨g1, g2⟩ | ⟨g1, g2⟩ | g1
    all_goals
      have hp := HP.out
      unfold wdI at hp
      rw [a0, d0] at hp
      (try rw [a1] at hp)
      (try rw [a2] at hp)
      (try rw [d1] at hp)
      (try rw [d2] at hp)
      (try rw [g1] at hp)
      (try rw [g2] at hp)
      go_wp2
      go_ret
      exact ⟨by rw [hp]; simp, S6.out⟩
  · have hwb : (d'.width == 0) = false := by rw [beq_eq_false_iff_ne]; exact hw0
    obtain rfl := HE2.out hw0
    have CE := CD
    have SE := Lib.hid (S1.out.trans S3.out)
    have KT : Hid (∀ W, Calls Tryd.prog 41 #[e'.val] W fun e w' => e = .returned (.string X) ∧ Sees W w') := fun W => by rw [hXe]; exact ctext_any e' W
    clear hXe
    go_wp2_with (guard_target = wpList _ _ _ ({ dst := _, op := Op.load 85 _, type := _, pos := _, after := _, guard := _ } :: _) _ _; refine wpList_val rfl (exec_load (v := e'.val) rfl rfl (run_loadCell CE.out)) (fun K hK => ?_); go_simp; refine hK _ _ ?_; clear hK K)
    refine (KT.out _).mono ?_
    rintro ee W6 ⟨rfl, s6⟩
    have S6 := Lib.hid (SE.out.trans s6)
    clear s6 KT
    go_upto_region 6 with fail
    obtain ⟨q, hq⟩ : ∃ q : Int, q = ((X[0]).toNat : Int) := ⟨_, rfl⟩
    rw [← hq]
    rw [← hq] at HP
    clear hq
    rcases Bool.eq_false_or_eq_true (decide (q ≥ 128)) with a0 | a0
    · have hp := HP.out
      unfold wdI at hp
      rw [a0] at hp
      go_wp2
      go_ret
      exact ⟨by rw [hp]; simp, S6.out⟩
    rcases Bool.eq_false_or_eq_true (q == 95) with d0 | d0
    · have hp := HP.out
      unfold wdI at hp
      rw [a0, d0] at hp
      go_wp2
      go_ret
      exact ⟨by rw [hp]; simp, S6.out⟩
    rcases ways2 (decide (q ≥ 48)) (decide (q ≤ 57)) with ⟨a1, a2⟩ | ⟨a1, a2⟩ | a1 <;> rcases ways2 (decide (q ≥ 97)) (decide (q ≤ 122)) with ⟨d1, d2⟩ | ⟨d1, d2⟩ | d1 <;> rcases ways2 (decide (q ≥ 65)) (decide (q ≤ 90)) with ⟨g1, g2⟩ | ⟨g1, g2⟩ | g1
    all_goals
      have hp := HP.out
      unfold wdI at hp
      rw [a0, d0] at hp
      (try rw [a1] at hp)
      (try rw [a2] at hp)
      (try rw [d1] at hp)
      (try rw [d2] at hp)
      (try rw [g1] at hp)
      (try rw [g2] at hp)
      go_wp2
      go_ret
      exact ⟨by rw [hp]; simp, S6.out⟩
end Go.Proofs.YtooiiefipdjbjaaDoor
