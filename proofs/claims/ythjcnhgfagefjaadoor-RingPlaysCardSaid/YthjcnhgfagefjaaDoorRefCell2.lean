/- The reference's tests of runes, pens and cells answer as the program's do. The reference's test of a cell answers as the program's does. No condition. -/
import Derived.Test.YthjcnhgfagefjaaDoorCell
namespace Go.Proofs.YthjcnhgfagefjaaDoor
set_option linter.unusedVariables false
set_option linter.unusedSimpArgs false
open Go.RowKit

set_option maxHeartbeats 800000 in
theorem refColor_any (k i r g b : Int) (w : World) :
    Calls Tryd.prog 77 #[.agg #[.int .i64 k, .int .u8 i, .int .u8 r, .int .u8 g, .int .u8 b]] w fun e w' => e = .returned (.bool (vColor k i r g b)) ∧ Sees w w' := by
  rcases (show k = 0 ∨ k = 1 ∨ k = 2 ∨ ((k == 0) = false ∧ (k == 1) = false ∧ (k == 2) = false) by simp; omega) with rfl | rfl | rfl | ⟨h0, h1, h2⟩
  all_goals
    go_enter Tryd.func77, Tryd.ntmps77
    go_wp2
    all_goals
      go_ret
      exact ⟨by first | (simp_all [vColor, eq5]; done) | (simp_all [vColor, eq5]; rfl), (Sees.refl _).alloc _⟩

set_option maxHeartbeats 400000 in
theorem refPen_any (a0 a1 a2 a3 a4 a5 a6 a7 a8 a9 a10 : Int) (w : World) :
    Calls Tryd.prog 73 #[.agg #[.int .i64 a0, .int .u8 a1, .int .u8 a2, .int .u8 a3, .int .u8 a4, .int .i64 a5, .int .u8 a6, .int .u8 a7, .int .u8 a8, .int .u8 a9, .int .u8 a10]] w
      fun e w' => e = .returned (.bool (vPen a0 a1 a2 a3 a4 a5 a6 a7 a8 a9)) ∧ Sees w w' := by
  unfold vPen
  by_cases h : vColor a0 a1 a2 a3 a4 = true
  · have hv := refColor_any a0 a1 a2 a3 a4
    rw [h] at hv ⊢
    have H := Lib.hid hv; clear h hv
    go_enter Tryd.func73, Tryd.ntmps73
    go_wp2_with fail; refine (H.out _).mono ?_; rintro e w1 ⟨rfl, hs1⟩; have hcw1 := (hs1).cells
    go_wp2_with fail; refine (refColor_any _ _ _ _ _ _).mono ?_; rintro e w2 ⟨rfl, hs2⟩; have hcw2 := (hs2).cells
    go_wp2
    go_ret
    exact ⟨by simp, (((Sees.refl _).alloc _).trans hs1).trans hs2⟩
  · have hv := refColor_any a0 a1 a2 a3 a4
    rw [Bool.not_eq_true] at h
    rw [h] at hv ⊢
    have H := Lib.hid hv; clear h hv
    go_enter Tryd.func73, Tryd.ntmps73
    go_wp2_with fail; refine (H.out _).mono ?_; rintro e w1 ⟨rfl, hs1⟩; have hcw1 := (hs1).cells
    go_wp2
    go_ret
    exact ⟨by simp, (((Sees.refl _).alloc _).trans hs1)⟩

set_option maxHeartbeats 400000 in
theorem printed_any (r : Int) (w : World) :
    Calls Tryd.prog 78 #[.int .i32 r] w fun e w' => e = .returned (.bool (prn r)) ∧ Sees w w' := by
  rcases (show r < 32 ∨ (32 ≤ r ∧ r < 127) ∨ (127 ≤ r ∧ r < 160) ∨ (160 ≤ r ∧ r < 55296) ∨ (55296 ≤ r ∧ r ≤ 57343) ∨ (57344 ≤ r ∧ r ≤ 1114111) ∨ 1114111 < r by omega) with h | h | h | h | h | h | h
  all_goals
    first
    | (have Hf : Hid (prn r = true) := by (unfold Hid prn; simp; omega))
    | (have Hf : Hid (prn r = false) := by (unfold Hid prn; simp; omega))
    go_enter Tryd.func78, Tryd.ntmps78
    go_wp2
    go_ret
    exact ⟨by rw [Hf.out]; first | rfl | (simp; done) | (simp; omega), Sees.refl _⟩

theorem inTab_take {n : Nat} {T : Nat → Int × Int} {r : Int} (h : ∀ k, k < n → ((T k).1 ≤ r && r ≤ (T k).2) = false) : inTab n T r = false := by
  unfold inTab; rw [List.any_eq_false]; intro k hk; rw [h k (List.mem_range.1 hk)]; simp
theorem inTab_hit {n k : Nat} {T : Nat → Int × Int} {r : Int} (hk : k < n) (h1 : (T k).1 ≤ r) (h2 : r ≤ (T k).2) : inTab n T r = true := by
  unfold inTab; rw [List.any_eq_true]; exact ⟨k, List.mem_range.2 hk, by simp [h1, h2]⟩

set_option maxHeartbeats 400000 in
theorem refIn_any (b n cap : Nat) (T : Nat → Int × Int) (r : Int) (w : World) (hn : n ≤ 1000)
    (hT : ∀ (W : World) (i : Nat), Sees w W → i < n → W.cell? ⟨b, i * 2, none⟩ = some (.int .i32 (T i).1) ∧ W.cell? ⟨b, i * 2 + 1, none⟩ = some (.int .i32 (T i).2)) :
    Calls Tryd.prog 79 #[.slice (some ⟨b, 0, none⟩) n cap, .int .i32 r] w fun e w' => e = .returned (.bool (inTab n T r)) ∧ Sees w w' := by
  have hw := Sees.refl w
  go_enter Tryd.func79, Tryd.ntmps79
  go_wp2
  go_loop [5] (fun i => ∃ k : Nat, k ≤ n ∧ i = .int .i64 k ∧ ∀ j, j < k → ((T j).1 ≤ r && r ≤ (T j).2) = false) (fun i => n - (intOf i).toNat)
  case atStart => exact ⟨0, by omega, rfl, fun j hj => by omega⟩
  case round =>
    obtain ⟨k, hk, rfl, hm⟩ := hrel
    have Hm := Lib.hid hm; clear hm
    by_cases hlt : k < n
    · rcases (show r < (T k).1 ∨ (T k).2 < r ∨ ((T k).1 ≤ r ∧ r ≤ (T k).2) by omega) with h | h | ⟨h, h'⟩
      · have hb : Hid (((T k).1 ≤ r && r ≤ (T k).2) = false) := by unfold Hid; simp; omega
        go_wp2
        go_round
        case rel => exact ⟨k + 1, by omega, by go_num, fun j hj => by rcases Nat.lt_or_eq_of_le (Nat.le_of_lt_succ hj) with h1 | rfl; exact Hm.out j h1; exact hb.out⟩
        case measure => simp [intOf]; omega
      · have hb : Hid (((T k).1 ≤ r && r ≤ (T k).2) = false) := by unfold Hid; simp; omega
        go_wp2
        all_goals
          go_round
          case rel => exact ⟨k + 1, by omega, by go_num, fun j hj => by rcases Nat.lt_or_eq_of_le (Nat.le_of_lt_succ hj) with h1 | rfl; exact Hm.out j h1; exact hb.out⟩
          case measure => simp [intOf]; omega
      · have hb : Hid (inTab n T r = true) := inTab_hit hlt h h'
        go_wp2
        go_ret
        exact ⟨by rw [hb.out]; rfl, hw⟩
    · obtain rfl : k = n := by omega
      have hb : Hid (inTab k T r = false) := inTab_take Hm.out
      go_wp2
      go_ret
      exact ⟨by rw [hb.out]; rfl, hw⟩

/-- Pairs of numbers, laid one behind the other. -/
def pairV : List (Int × Int) → List Value
  | [] => []
  | p :: r => .int .i32 p.1 :: .int .i32 p.2 :: pairV r
theorem pairV_get : ∀ (L : List (Int × Int)) (i : Nat), i < L.length → (pairV L)[i * 2]? = some (.int .i32 (L.getD i (0, 0)).1) ∧ (pairV L)[i * 2 + 1]? = some (.int .i32 (L.getD i (0, 0)).2)
  | [], _, h => by cases h
  | p :: r, 0, _ => by simp [pairV]
  | p :: r, i + 1, h => by
    have := pairV_get r i (by simpa using h)
    rw [show (i + 1) * 2 = i * 2 + 2 by omega, show i * 2 + 2 + 1 = i * 2 + 1 + 2 by omega]
    simpa [pairV] using this
theorem alloc_pairs (w : World) (L : List (Int × Int)) (t : TypeId) (i : Nat) (hi : i < L.length) :
    (w.alloc (.cells (pairV L).toArray t)).cell? ⟨w.heap.size, i * 2, none⟩ = some (.int .i32 (L.getD i (0, 0)).1) ∧ (w.alloc (.cells (pairV L).toArray t)).cell? ⟨w.heap.size, i * 2 + 1, none⟩ = some (.int .i32 (L.getD i (0, 0)).2) := by
  have h := pairV_get L i hi
  rw [cell_of_row _ _ _ _ _ _ (heap_alloc_new w _), cell_of_row _ _ _ _ _ _ (heap_alloc_new w _)]
  simpa using h

set_option maxRecDepth 100000 in
set_option maxHeartbeats 1000000 in
theorem refMarks_any (w : World) :
    Calls Tryd.prog 80 #[] w fun e w' => ∃ b, e = .returned (.slice (some ⟨b, 0, none⟩) 18 18) ∧ Sees w w' ∧ (∀ i, i < 18 → w'.cell? ⟨b, i * 2, none⟩ = some (.int .i32 (marksT i).1) ∧ w'.cell? ⟨b, i * 2 + 1, none⟩ = some (.int .i32 (marksT i).2)) := by
  go_enter Tryd.func80, Tryd.ntmps80
  go_wp2
  go_ret
  exact ⟨w.heap.size, rfl, (Sees.refl _).alloc _, alloc_pairs w marksL 114⟩

set_option maxRecDepth 100000 in
set_option maxHeartbeats 1000000 in
theorem refWide_any (w : World) :
    Calls Tryd.prog 81 #[] w fun e w' => ∃ b, e = .returned (.slice (some ⟨b, 0, none⟩) 19 19) ∧ Sees w w' ∧ (∀ i, i < 19 → w'.cell? ⟨b, i * 2, none⟩ = some (.int .i32 (wideT i).1) ∧ w'.cell? ⟨b, i * 2 + 1, none⟩ = some (.int .i32 (wideT i).2)) := by
  go_enter Tryd.func81, Tryd.ntmps81
  go_wp2
  go_ret
  exact ⟨w.heap.size, rfl, (Sees.refl _).alloc _, alloc_pairs w wideL 114⟩

set_option maxHeartbeats 800000 in
theorem refOf_any (r : Int) (w : World) :
    Calls Tryd.prog 74 #[.int .i32 r] w fun e w' => e = .returned (.int .i64 (wOf r)) ∧ Sees w w' := by
  have hp := printed_any r
  rcases (show prn r = false ∨ prn r = true by cases prn r <;> simp) with h | h
  · rw [h] at hp
    have Hp := Lib.hid hp; clear hp
    have Hf : Hid (wOf r = -1) := by unfold Hid wOf; rw [h]; rfl
    clear h
    go_enter Tryd.func74, Tryd.ntmps74
    go_wp2_with fail; refine (Hp.out _).mono ?_; rintro e w1 ⟨rfl, hs1⟩; have hcw1 := (hs1).cells
    go_wp2
    go_ret
    exact ⟨by rw [Hf.out]; rfl, hs1⟩
  · rw [h] at hp
    have Hp := Lib.hid hp; clear hp
    have hm := fun b w h => refIn_any b 18 18 marksT r w (by omega) h
    rcases (show inTab 18 marksT r = true ∨ inTab 18 marksT r = false by cases inTab 18 marksT r <;> simp) with h1 | h1
    · rw [h1] at hm
      have Hm := Lib.hid hm; clear hm
      have Hf : Hid (wOf r = 0) := by unfold Hid wOf; rw [h, h1]; rfl
      clear h h1
      go_enter Tryd.func74, Tryd.ntmps74
      go_wp2_with fail; refine (Hp.out _).mono ?_; rintro e w1 ⟨rfl, hs1⟩; have hcw1 := (hs1).cells
      go_wp2_with fail
      refine (refMarks_any _).mono ?_
      rintro e w2 ⟨b, rfl, hs2, hT⟩
      have HT := Lib.hid hT; clear hT
      go_wp2_with fail; refine (Hm.out _ _ (fun W i hW hi => ⟨hW.cell (HT.out i hi).1, hW.cell (HT.out i hi).2⟩)).mono ?_; rintro e w3 ⟨rfl, hs3⟩; have hcw3 := (hs3).cells
      go_wp2
      go_ret
      exact ⟨by rw [Hf.out]; rfl, (hs1.trans hs2).trans hs3⟩
    · rw [h1] at hm
      have Hm := Lib.hid hm; clear hm
      have hw := fun b w h => refIn_any b 19 19 wideT r w (by omega) h
      rcases (show inTab 19 wideT r = true ∨ inTab 19 wideT r = false by cases inTab 19 wideT r <;> simp) with h2 | h2
      all_goals
        rw [h2] at hw
        have Hw := Lib.hid hw; clear hw
        have Hf := Lib.hid (show wOf r = if inTab 19 wideT r then 2 else 1 by unfold wOf; rw [h, h1]; rfl)
        rw [h2] at Hf
        clear h h1 h2
        go_enter Tryd.func74, Tryd.ntmps74
        go_wp2_with fail; refine (Hp.out _).mono ?_; rintro e w1 ⟨rfl, hs1⟩; have hcw1 := (hs1).cells
        go_wp2_with fail
        refine (refMarks_any _).mono ?_
        rintro e w2 ⟨b, rfl, hs2, hT⟩
        have HT := Lib.hid hT; clear hT
        go_wp2_with fail; refine (Hm.out _ _ (fun W i hW hi => ⟨hW.cell (HT.out i hi).1, hW.cell (HT.out i hi).2⟩)).mono ?_; rintro e w3 ⟨rfl, hs3⟩; have hcw3 := (hs3).cells
        go_wp2_with fail
        refine (refWide_any _).mono ?_
        rintro e w4 ⟨b4, rfl, hs4, hT4⟩
        have HT4 := Lib.hid hT4; clear hT4
        go_wp2_with fail; refine (Hw.out _ _ (fun W i hW hi => ⟨hW.cell (HT4.out i hi).1, hW.cell (HT4.out i hi).2⟩)).mono ?_; rintro e w5 ⟨rfl, hs5⟩; have hcw5 := (hs5).cells
        go_wp2
        go_ret
        exact ⟨by rw [Hf.out]; rfl, (((hs1.trans hs2).trans hs3).trans hs4).trans hs5⟩
end Go.Proofs.YthjcnhgfagefjaaDoor

namespace Go.Proofs.YthjcnhgfagefjaaDoor
set_option linter.unusedVariables false
set_option linter.unusedSimpArgs false
open Go.RowKit

set_option maxRecDepth 100000 in
set_option maxHeartbeats 1000000 in
theorem marks_A (c : Cell) (w : World) (a0 : (c.m0 != 0) = false) (a1 : (c.m1 != 0) = false) (a2 : (c.m2 != 0) = false)  :
    Calls Tryd.prog 72 #[c.val] w fun e w' => e = .returned (.tuple #[.int .i64 0, .bool true]) ∧ Sees w w' := by
  unfold Cell.val
  go_enter Tryd.func72, Tryd.ntmps72
  go_wp2
  refine wp_world fun v0 hv0 => ?_
  have HS0 : Hid (Sees w v0) := by rw [hv0]; exact (Sees.refl w).alloc _
  have hbox : ∀ W, Sees v0 W → ∀ j, W.cell? ⟨w.heap.size, j, none⟩ = #[Value.int .i32 c.rune, .int .i32 c.m0, .int .i32 c.m1, .int .i32 c.m2, .int .i64 c.width, .int .i64 c.f0, .int .u8 c.f1, .int .u8 c.f2, .int .u8 c.f3, .int .u8 c.f4, .int .i64 c.b0, .int .u8 c.b1, .int .u8 c.b2, .int .u8 c.b3, .int .u8 c.b4, .int .u8 c.flags][j]? := by
    intro W hW j
    rw [hW.cells _ _ (by rw [hv0]; simp), hv0]
    simp
  clear hv0
  have hS0 := Sees.refl v0
  refine wp_loop_rounds 5 ?_
  rw [rounds_succ]
  go_wp2_with fail
  refine wp_loop_rounds 5 ?_
  rw [rounds_succ]
  go_wp2_with fail
  rw [rounds_succ]
  go_wp2_with fail
  rw [rounds_succ]
  go_wp2_with fail
  rw [rounds_succ]
  go_wp2_with fail
  go_ret2
  exact ⟨rfl, HS0.out.trans hS0⟩

set_option maxRecDepth 100000 in
set_option maxHeartbeats 1000000 in
theorem marks_B (c : Cell) (w : World) (a0 : (c.m0 != 0) = false) (a1 : (c.m1 != 0) = false) (a2 : (c.m2 != 0) = true)  :
    Calls Tryd.prog 72 #[c.val] w fun e w' => e = .returned (.tuple #[.int .i64 0, .bool false]) ∧ Sees w w' := by
  unfold Cell.val
  go_enter Tryd.func72, Tryd.ntmps72
  go_wp2
  refine wp_world fun v0 hv0 => ?_
  have HS0 : Hid (Sees w v0) := by rw [hv0]; exact (Sees.refl w).alloc _
  have hbox : ∀ W, Sees v0 W → ∀ j, W.cell? ⟨w.heap.size, j, none⟩ = #[Value.int .i32 c.rune, .int .i32 c.m0, .int .i32 c.m1, .int .i32 c.m2, .int .i64 c.width, .int .i64 c.f0, .int .u8 c.f1, .int .u8 c.f2, .int .u8 c.f3, .int .u8 c.f4, .int .i64 c.b0, .int .u8 c.b1, .int .u8 c.b2, .int .u8 c.b3, .int .u8 c.b4, .int .u8 c.flags][j]? := by
    intro W hW j
    rw [hW.cells _ _ (by rw [hv0]; simp), hv0]
    simp
  clear hv0
  have hS0 := Sees.refl v0
  refine wp_loop_rounds 5 ?_
  rw [rounds_succ]
  go_wp2_with fail
  refine wp_loop_rounds 5 ?_
  rw [rounds_succ]
  go_wp2_with fail
  rw [rounds_succ]
  go_wp2_with fail
  rw [rounds_succ]
  go_wp2_with fail
  go_ret2
  exact ⟨rfl, HS0.out.trans hS0⟩

set_option maxRecDepth 100000 in
set_option maxHeartbeats 1000000 in
theorem marks_C (c : Cell) (w : World) (a0 : (c.m0 != 0) = false) (a1 : (c.m1 != 0) = true)  :
    Calls Tryd.prog 72 #[c.val] w fun e w' => e = .returned (.tuple #[.int .i64 0, .bool false]) ∧ Sees w w' := by
  unfold Cell.val
  go_enter Tryd.func72, Tryd.ntmps72
  go_wp2
  refine wp_world fun v0 hv0 => ?_
  have HS0 : Hid (Sees w v0) := by rw [hv0]; exact (Sees.refl w).alloc _
  have hbox : ∀ W, Sees v0 W → ∀ j, W.cell? ⟨w.heap.size, j, none⟩ = #[Value.int .i32 c.rune, .int .i32 c.m0, .int .i32 c.m1, .int .i32 c.m2, .int .i64 c.width, .int .i64 c.f0, .int .u8 c.f1, .int .u8 c.f2, .int .u8 c.f3, .int .u8 c.f4, .int .i64 c.b0, .int .u8 c.b1, .int .u8 c.b2, .int .u8 c.b3, .int .u8 c.b4, .int .u8 c.flags][j]? := by
    intro W hW j
    rw [hW.cells _ _ (by rw [hv0]; simp), hv0]
    simp
  clear hv0
  have hS0 := Sees.refl v0
  refine wp_loop_rounds 5 ?_
  rw [rounds_succ]
  go_wp2_with fail
  refine wp_loop_rounds 5 ?_
  rw [rounds_succ]
  go_wp2_with fail
  rw [rounds_succ]
  go_wp2_with fail
  go_ret2
  exact ⟨rfl, HS0.out.trans hS0⟩

set_option maxRecDepth 100000 in
set_option maxHeartbeats 1000000 in
theorem marks_D (c : Cell) (w : World) (a0 : (c.m0 != 0) = true) (w0 : (wOf c.m0 != 0) = true) :
    Calls Tryd.prog 72 #[c.val] w fun e w' => e = .returned (.tuple #[.int .i64 0, .bool false]) ∧ Sees w w' := by
  have h0 := refOf_any c.m0
  generalize wOf c.m0 = x0 at h0 w0
  have H0 := Lib.hid h0; clear h0
  unfold Cell.val
  go_enter Tryd.func72, Tryd.ntmps72
  go_wp2
  refine wp_world fun v0 hv0 => ?_
  have HS0 : Hid (Sees w v0) := by rw [hv0]; exact (Sees.refl w).alloc _
  have hbox : ∀ W, Sees v0 W → ∀ j, W.cell? ⟨w.heap.size, j, none⟩ = #[Value.int .i32 c.rune, .int .i32 c.m0, .int .i32 c.m1, .int .i32 c.m2, .int .i64 c.width, .int .i64 c.f0, .int .u8 c.f1, .int .u8 c.f2, .int .u8 c.f3, .int .u8 c.f4, .int .i64 c.b0, .int .u8 c.b1, .int .u8 c.b2, .int .u8 c.b3, .int .u8 c.b4, .int .u8 c.flags][j]? := by
    intro W hW j
    rw [hW.cells _ _ (by rw [hv0]; simp), hv0]
    simp
  clear hv0
  have hS0 := Sees.refl v0
  refine wp_loop_rounds 5 ?_
  rw [rounds_succ]
  go_wp2_with fail
  refine (H0.out _).mono ?_
  rintro e v1 ⟨rfl, hs⟩
  have hS1 := hS0.trans hs
  clear hs
  go_wp2_with fail
  go_ret2
  exact ⟨rfl, HS0.out.trans hS1⟩

set_option maxRecDepth 100000 in
set_option maxHeartbeats 1000000 in
theorem marks_E (c : Cell) (w : World) (a0 : (c.m0 != 0) = true) (a1 : (c.m1 != 0) = false) (a2 : (c.m2 != 0) = false) (w0 : (wOf c.m0 != 0) = false) :
    Calls Tryd.prog 72 #[c.val] w fun e w' => e = .returned (.tuple #[.int .i64 1, .bool true]) ∧ Sees w w' := by
  have h0 := refOf_any c.m0
  generalize wOf c.m0 = x0 at h0 w0
  have H0 := Lib.hid h0; clear h0
  unfold Cell.val
  go_enter Tryd.func72, Tryd.ntmps72
  go_wp2
  refine wp_world fun v0 hv0 => ?_
  have HS0 : Hid (Sees w v0) := by rw [hv0]; exact (Sees.refl w).alloc _
  have hbox : ∀ W, Sees v0 W → ∀ j, W.cell? ⟨w.heap.size, j, none⟩ = #[Value.int .i32 c.rune, .int .i32 c.m0, .int .i32 c.m1, .int .i32 c.m2, .int .i64 c.width, .int .i64 c.f0, .int .u8 c.f1, .int .u8 c.f2, .int .u8 c.f3, .int .u8 c.f4, .int .i64 c.b0, .int .u8 c.b1, .int .u8 c.b2, .int .u8 c.b3, .int .u8 c.b4, .int .u8 c.flags][j]? := by
    intro W hW j
    rw [hW.cells _ _ (by rw [hv0]; simp), hv0]
    simp
  clear hv0
  have hS0 := Sees.refl v0
  refine wp_loop_rounds 5 ?_
  rw [rounds_succ]
  go_wp2_with fail
  refine (H0.out _).mono ?_
  rintro e v1 ⟨rfl, hs⟩
  have hS1 := hS0.trans hs
  clear hs
  go_wp2_with fail
  rw [rounds_succ]
  go_wp2_with fail
  refine wp_loop_rounds 5 ?_
  rw [rounds_succ]
  go_wp2_with fail
  rw [rounds_succ]
  go_wp2_with fail
  rw [rounds_succ]
  go_wp2_with fail
  go_ret2
  exact ⟨rfl, HS0.out.trans hS1⟩

set_option maxRecDepth 100000 in
set_option maxHeartbeats 1000000 in
theorem marks_F (c : Cell) (w : World) (a0 : (c.m0 != 0) = true) (a1 : (c.m1 != 0) = false) (a2 : (c.m2 != 0) = true) (w0 : (wOf c.m0 != 0) = false) :
    Calls Tryd.prog 72 #[c.val] w fun e w' => e = .returned (.tuple #[.int .i64 1, .bool false]) ∧ Sees w w' := by
  have h0 := refOf_any c.m0
  generalize wOf c.m0 = x0 at h0 w0
  have H0 := Lib.hid h0; clear h0
  unfold Cell.val
  go_enter Tryd.func72, Tryd.ntmps72
  go_wp2
  refine wp_world fun v0 hv0 => ?_
  have HS0 : Hid (Sees w v0) := by rw [hv0]; exact (Sees.refl w).alloc _
  have hbox : ∀ W, Sees v0 W → ∀ j, W.cell? ⟨w.heap.size, j, none⟩ = #[Value.int .i32 c.rune, .int .i32 c.m0, .int .i32 c.m1, .int .i32 c.m2, .int .i64 c.width, .int .i64 c.f0, .int .u8 c.f1, .int .u8 c.f2, .int .u8 c.f3, .int .u8 c.f4, .int .i64 c.b0, .int .u8 c.b1, .int .u8 c.b2, .int .u8 c.b3, .int .u8 c.b4, .int .u8 c.flags][j]? := by
    intro W hW j
    rw [hW.cells _ _ (by rw [hv0]; simp), hv0]
    simp
  clear hv0
  have hS0 := Sees.refl v0
  refine wp_loop_rounds 5 ?_
  rw [rounds_succ]
  go_wp2_with fail
  refine (H0.out _).mono ?_
  rintro e v1 ⟨rfl, hs⟩
  have hS1 := hS0.trans hs
  clear hs
  go_wp2_with fail
  rw [rounds_succ]
  go_wp2_with fail
  refine wp_loop_rounds 5 ?_
  rw [rounds_succ]
  go_wp2_with fail
  rw [rounds_succ]
  go_wp2_with fail
  go_ret2
  exact ⟨rfl, HS0.out.trans hS1⟩

set_option maxRecDepth 100000 in
set_option maxHeartbeats 1000000 in
theorem marks_G (c : Cell) (w : World) (a0 : (c.m0 != 0) = true) (a1 : (c.m1 != 0) = true) (w0 : (wOf c.m0 != 0) = false) (w1 : (wOf c.m1 != 0) = true) :
    Calls Tryd.prog 72 #[c.val] w fun e w' => e = .returned (.tuple #[.int .i64 1, .bool false]) ∧ Sees w w' := by
  have h0 := refOf_any c.m0
  generalize wOf c.m0 = x0 at h0 w0
  have H0 := Lib.hid h0; clear h0
  have h1 := refOf_any c.m1
  generalize wOf c.m1 = x1 at h1 w1
  have H1 := Lib.hid h1; clear h1
  unfold Cell.val
  go_enter Tryd.func72, Tryd.ntmps72
  go_wp2
  refine wp_world fun v0 hv0 => ?_
  have HS0 : Hid (Sees w v0) := by rw [hv0]; exact (Sees.refl w).alloc _
  have hbox : ∀ W, Sees v0 W → ∀ j, W.cell? ⟨w.heap.size, j, none⟩ = #[Value.int .i32 c.rune, .int .i32 c.m0, .int .i32 c.m1, .int .i32 c.m2, .int .i64 c.width, .int .i64 c.f0, .int .u8 c.f1, .int .u8 c.f2, .int .u8 c.f3, .int .u8 c.f4, .int .i64 c.b0, .int .u8 c.b1, .int .u8 c.b2, .int .u8 c.b3, .int .u8 c.b4, .int .u8 c.flags][j]? := by
    intro W hW j
    rw [hW.cells _ _ (by rw [hv0]; simp), hv0]
    simp
  clear hv0
  have hS0 := Sees.refl v0
  refine wp_loop_rounds 5 ?_
  rw [rounds_succ]
  go_wp2_with fail
  refine (H0.out _).mono ?_
  rintro e v1 ⟨rfl, hs⟩
  have hS1 := hS0.trans hs
  clear hs
  go_wp2_with fail
  rw [rounds_succ]
  go_wp2_with fail
  refine (H1.out _).mono ?_
  rintro e v2 ⟨rfl, hs⟩
  have hS2 := hS1.trans hs
  clear hs
  go_wp2_with fail
  go_ret2
  exact ⟨rfl, HS0.out.trans hS2⟩

set_option maxRecDepth 100000 in
set_option maxHeartbeats 1000000 in
theorem marks_H (c : Cell) (w : World) (a0 : (c.m0 != 0) = true) (a1 : (c.m1 != 0) = true) (a2 : (c.m2 != 0) = false) (w0 : (wOf c.m0 != 0) = false) (w1 : (wOf c.m1 != 0) = false) :
    Calls Tryd.prog 72 #[c.val] w fun e w' => e = .returned (.tuple #[.int .i64 2, .bool true]) ∧ Sees w w' := by
  have h0 := refOf_any c.m0
  generalize wOf c.m0 = x0 at h0 w0
  have H0 := Lib.hid h0; clear h0
  have h1 := refOf_any c.m1
  generalize wOf c.m1 = x1 at h1 w1
  have H1 := Lib.hid h1; clear h1
  unfold Cell.val
  go_enter Tryd.func72, Tryd.ntmps72
  go_wp2
  refine wp_world fun v0 hv0 => ?_
  have HS0 : Hid (Sees w v0) := by rw [hv0]; exact (Sees.refl w).alloc _
  have hbox : ∀ W, Sees v0 W → ∀ j, W.cell? ⟨w.heap.size, j, none⟩ = #[Value.int .i32 c.rune, .int .i32 c.m0, .int .i32 c.m1, .int .i32 c.m2, .int .i64 c.width, .int .i64 c.f0, .int .u8 c.f1, .int .u8 c.f2, .int .u8 c.f3, .int .u8 c.f4, .int .i64 c.b0, .int .u8 c.b1, .int .u8 c.b2, .int .u8 c.b3, .int .u8 c.b4, .int .u8 c.flags][j]? := by
    intro W hW j
    rw [hW.cells _ _ (by rw [hv0]; simp), hv0]
    simp
  clear hv0
  have hS0 := Sees.refl v0
  refine wp_loop_rounds 5 ?_
  rw [rounds_succ]
  go_wp2_with fail
  refine (H0.out _).mono ?_
  rintro e v1 ⟨rfl, hs⟩
  have hS1 := hS0.trans hs
  clear hs
  go_wp2_with fail
  rw [rounds_succ]
  go_wp2_with fail
  refine (H1.out _).mono ?_
  rintro e v2 ⟨rfl, hs⟩
  have hS2 := hS1.trans hs
  clear hs
  go_wp2_with fail
  rw [rounds_succ]
  go_wp2_with fail
  refine wp_loop_rounds 5 ?_
  rw [rounds_succ]
  go_wp2_with fail
  rw [rounds_succ]
  go_wp2_with fail
  go_ret2
  exact ⟨rfl, HS0.out.trans hS2⟩

set_option maxRecDepth 100000 in
set_option maxHeartbeats 1000000 in
theorem marks_I (c : Cell) (w : World) (a0 : (c.m0 != 0) = true) (a1 : (c.m1 != 0) = true) (a2 : (c.m2 != 0) = true) (w0 : (wOf c.m0 != 0) = false) (w1 : (wOf c.m1 != 0) = false) (w2 : (wOf c.m2 != 0) = true) :
    Calls Tryd.prog 72 #[c.val] w fun e w' => e = .returned (.tuple #[.int .i64 2, .bool false]) ∧ Sees w w' := by
  have h0 := refOf_any c.m0
  generalize wOf c.m0 = x0 at h0 w0
  have H0 := Lib.hid h0; clear h0
  have h1 := refOf_any c.m1
  generalize wOf c.m1 = x1 at h1 w1
  have H1 := Lib.hid h1; clear h1
  have h2 := refOf_any c.m2
  generalize wOf c.m2 = x2 at h2 w2
  have H2 := Lib.hid h2; clear h2
  unfold Cell.val
  go_enter Tryd.func72, Tryd.ntmps72
  go_wp2
  refine wp_world fun v0 hv0 => ?_
  have HS0 : Hid (Sees w v0) := by rw [hv0]; exact (Sees.refl w).alloc _
  have hbox : ∀ W, Sees v0 W → ∀ j, W.cell? ⟨w.heap.size, j, none⟩ = #[Value.int .i32 c.rune, .int .i32 c.m0, .int .i32 c.m1, .int .i32 c.m2, .int .i64 c.width, .int .i64 c.f0, .int .u8 c.f1, .int .u8 c.f2, .int .u8 c.f3, .int .u8 c.f4, .int .i64 c.b0, .int .u8 c.b1, .int .u8 c.b2, .int .u8 c.b3, .int .u8 c.b4, .int .u8 c.flags][j]? := by
    intro W hW j
    rw [hW.cells _ _ (by rw [hv0]; simp), hv0]
    simp
  clear hv0
  have hS0 := Sees.refl v0
  refine wp_loop_rounds 5 ?_
  rw [rounds_succ]
  go_wp2_with fail
  refine (H0.out _).mono ?_
  rintro e v1 ⟨rfl, hs⟩
  have hS1 := hS0.trans hs
  clear hs
  go_wp2_with fail
  rw [rounds_succ]
  go_wp2_with fail
  refine (H1.out _).mono ?_
  rintro e v2 ⟨rfl, hs⟩
  have hS2 := hS1.trans hs
  clear hs
  go_wp2_with fail
  rw [rounds_succ]
  go_wp2_with fail
  refine (H2.out _).mono ?_
  rintro e v3 ⟨rfl, hs⟩
  have hS3 := hS2.trans hs
  clear hs
  go_wp2_with fail
  go_ret2
  exact ⟨rfl, HS0.out.trans hS3⟩

set_option maxRecDepth 100000 in
set_option maxHeartbeats 1000000 in
theorem marks_J (c : Cell) (w : World) (a0 : (c.m0 != 0) = true) (a1 : (c.m1 != 0) = true) (a2 : (c.m2 != 0) = true) (w0 : (wOf c.m0 != 0) = false) (w1 : (wOf c.m1 != 0) = false) (w2 : (wOf c.m2 != 0) = false) :
    Calls Tryd.prog 72 #[c.val] w fun e w' => e = .returned (.tuple #[.int .i64 3, .bool true]) ∧ Sees w w' := by
  have h0 := refOf_any c.m0
  generalize wOf c.m0 = x0 at h0 w0
  have H0 := Lib.hid h0; clear h0
  have h1 := refOf_any c.m1
  generalize wOf c.m1 = x1 at h1 w1
  have H1 := Lib.hid h1; clear h1
  have h2 := refOf_any c.m2
  generalize wOf c.m2 = x2 at h2 w2
  have H2 := Lib.hid h2; clear h2
  unfold Cell.val
  go_enter Tryd.func72, Tryd.ntmps72
  go_wp2
  refine wp_world fun v0 hv0 => ?_
  have HS0 : Hid (Sees w v0) := by rw [hv0]; exact (Sees.refl w).alloc _
  have hbox : ∀ W, Sees v0 W → ∀ j, W.cell? ⟨w.heap.size, j, none⟩ = #[Value.int .i32 c.rune, .int .i32 c.m0, .int .i32 c.m1, .int .i32 c.m2, .int .i64 c.width, .int .i64 c.f0, .int .u8 c.f1, .int .u8 c.f2, .int .u8 c.f3, .int .u8 c.f4, .int .i64 c.b0, .int .u8 c.b1, .int .u8 c.b2, .int .u8 c.b3, .int .u8 c.b4, .int .u8 c.flags][j]? := by
    intro W hW j
    rw [hW.cells _ _ (by rw [hv0]; simp), hv0]
    simp
  clear hv0
  have hS0 := Sees.refl v0
  refine wp_loop_rounds 5 ?_
  rw [rounds_succ]
  go_wp2_with fail
  refine (H0.out _).mono ?_
  rintro e v1 ⟨rfl, hs⟩
  have hS1 := hS0.trans hs
  clear hs
  go_wp2_with fail
  rw [rounds_succ]
  go_wp2_with fail
  refine (H1.out _).mono ?_
  rintro e v2 ⟨rfl, hs⟩
  have hS2 := hS1.trans hs
  clear hs
  go_wp2_with fail
  rw [rounds_succ]
  go_wp2_with fail
  refine (H2.out _).mono ?_
  rintro e v3 ⟨rfl, hs⟩
  have hS3 := hS2.trans hs
  clear hs
  go_wp2_with fail
  rw [rounds_succ]
  go_wp2_with fail
  refine wp_loop_rounds 5 ?_
  rw [rounds_succ]
  go_wp2_with fail
  go_ret2
  exact ⟨rfl, HS0.out.trans hS3⟩



/-- How many marks a cell has from the front on; are all right? -/
def rmN (c : Cell) : Int := if c.m0 = 0 then 0 else if wOf c.m0 ≠ 0 then 0 else if c.m1 = 0 then 1 else if wOf c.m1 ≠ 0 then 1 else if c.m2 = 0 then 2 else if wOf c.m2 ≠ 0 then 2 else 3
def rmOk (c : Cell) : Bool := if c.m0 = 0 then c.m1 == 0 && c.m2 == 0 else if wOf c.m0 ≠ 0 then false else if c.m1 = 0 then c.m2 == 0 else if wOf c.m1 ≠ 0 then false else if c.m2 = 0 then true else wOf c.m2 == 0

theorem bne_t {a : Int} (h : a ≠ 0) : (a != 0) = true := by simpa using h
theorem bne_f {a : Int} (h : a = 0) : (a != 0) = false := by simpa using h
theorem beq_t {a : Int} (h : a = 0) : (a == 0) = true := by simpa using h
theorem beq_f {a : Int} (h : a ≠ 0) : (a == 0) = false := by simpa using h

theorem refMk_any (c : Cell) (w : World) :
    Calls Tryd.prog 72 #[c.val] w fun e w' => e = .returned (.tuple #[.int .i64 (rmN c), .bool (rmOk c)]) ∧ Sees w w' := by
  by_cases a0 : c.m0 = 0
  · by_cases a1 : c.m1 = 0
    · by_cases a2 : c.m2 = 0
      · rw [show rmN c = 0 by simp [rmN, a0], show rmOk c = true by simp [rmOk, a0, a1, a2]]; exact marks_A c w (bne_f a0) (bne_f a1) (bne_f a2)
      · rw [show rmN c = 0 by simp [rmN, a0], show rmOk c = false by simp [rmOk, a0, a1, a2]]; exact marks_B c w (bne_f a0) (bne_f a1) (bne_t a2)
    · rw [show rmN c = 0 by simp [rmN, a0], show rmOk c = false by simp [rmOk, a0, a1]]; exact marks_C c w (bne_f a0) (bne_t a1)
  by_cases w0 : wOf c.m0 = 0
  · by_cases a1 : c.m1 = 0
    · by_cases a2 : c.m2 = 0
      · rw [show rmN c = 1 by simp [rmN, a0, w0, a1], show rmOk c = true by simp [rmOk, a0, w0, a1, a2]]; exact marks_E c w (bne_t a0) (bne_f a1) (bne_f a2) (bne_f w0)
      · rw [show rmN c = 1 by simp [rmN, a0, w0, a1], show rmOk c = false by simp [rmOk, a0, w0, a1, a2]]; exact marks_F c w (bne_t a0) (bne_f a1) (bne_t a2) (bne_f w0)
    by_cases w1 : wOf c.m1 = 0
    · by_cases a2 : c.m2 = 0
      · rw [show rmN c = 2 by simp [rmN, a0, w0, a1, w1, a2], show rmOk c = true by simp [rmOk, a0, w0, a1, w1, a2]]; exact marks_H c w (bne_t a0) (bne_t a1) (bne_f a2) (bne_f w0) (bne_f w1)
      by_cases w2 : wOf c.m2 = 0
      · rw [show rmN c = 3 by simp [rmN, a0, w0, a1, w1, a2, w2], show rmOk c = true by simp [rmOk, a0, w0, a1, w1, a2, w2]]; exact marks_J c w (bne_t a0) (bne_t a1) (bne_t a2) (bne_f w0) (bne_f w1) (bne_f w2)
      · rw [show rmN c = 2 by simp [rmN, a0, w0, a1, w1, a2, w2], show rmOk c = false by simp [rmOk, a0, w0, a1, w1, a2, w2]]; exact marks_I c w (bne_t a0) (bne_t a1) (bne_t a2) (bne_f w0) (bne_f w1) (bne_t w2)
    · rw [show rmN c = 1 by simp [rmN, a0, w0, a1, w1], show rmOk c = false by simp [rmOk, a0, w0, a1, w1]]; exact marks_G c w (bne_t a0) (bne_t a1) (bne_f w0) (bne_t w1)
  · rw [show rmN c = 0 by simp [rmN, a0, w0], show rmOk c = false by simp [rmOk, a0, w0]]; exact marks_D c w (bne_t a0) (bne_t w0)

theorem rm_ok (c : Cell) : rmOk c = mkOk c.m0 c.m1 c.m2 := by
  by_cases a0 : c.m0 = 0 <;> by_cases a1 : c.m1 = 0 <;> by_cases a2 : c.m2 = 0 <;> by_cases w0 : wOf c.m0 = 0 <;> by_cases w1 : wOf c.m1 = 0 <;> by_cases w2 : wOf c.m2 = 0 <;>
    simp_all [rmOk, mkOk, mkBad, bne, beq_f]
theorem rm_zero (c : Cell) : (rmOk c && rmN c == 0) = eq3 c.m0 c.m1 c.m2 0 0 0 := by
  by_cases a0 : c.m0 = 0 <;> by_cases a1 : c.m1 = 0 <;> by_cases a2 : c.m2 = 0 <;> by_cases w0 : wOf c.m0 = 0 <;> by_cases w1 : wOf c.m1 = 0 <;> by_cases w2 : wOf c.m2 = 0 <;>
    simp_all [rmOk, rmN, eq3, beq_f]
theorem wOf_zero : wOf 0 = -1 := by decide
theorem wOf_range (r : Int) : wOf r = -1 ∨ wOf r = 0 ∨ wOf r = 1 ∨ wOf r = 2 := by
  unfold wOf; split <;> (try split) <;> (try split) <;> simp

/-- What the reference answers. -/
theorem valid_ref (c : Cell) : c.valid = (vPen c.f0 c.f1 c.f2 c.f3 c.f4 c.b0 c.b1 c.b2 c.b3 c.b4 && (rmOk c &&
    (if c.width = 0 then c.rune == 0 && rmN c == 0 else if c.width = 1 then (c.rune == 0 && rmN c == 0) || (c.rune != 0 && wOf c.rune == 1) else if c.width = 2 then wOf c.rune == 2 else false))) := by
  unfold Cell.valid
  have h1 := rm_ok c
  have h2 := rm_zero c
  have h3 := wOf_range c.rune
  congr 1
  by_cases hr : c.rune = 0
  · rw [if_pos hr, ← h2, hr, wOf_zero]
    by_cases e0 : c.width = 0
    · simp [e0]
    by_cases e1 : c.width = 1
    · simp [e1]
    by_cases e2 : c.width = 2
    · simp [e2]
    · simp [e0, e1, e2]
  · rw [if_neg hr, ← h1]
    congr 1
    by_cases e0 : c.width = 0
    · simp [e0, hr]
    by_cases e1 : c.width = 1
    · simp [e1, hr]; rw [Bool.eq_iff_iff]; simp; omega
    by_cases e2 : c.width = 2
    · simp [e2]; rw [Bool.eq_iff_iff]; simp; omega
    · simp [e0, e1, e2]; omega

set_option maxHeartbeats 800000 in
theorem refValid_nopen (c : Cell) (n x : Int) (b : Bool) (w : World) (hm : ∀ w, Calls Tryd.prog 72 #[c.val] w fun e w' => e = .returned (.tuple #[.int .i64 n, .bool b]) ∧ Sees w w') (hp : ∀ w, Calls Tryd.prog 73 #[.agg #[.int .i64 c.f0, .int .u8 c.f1, .int .u8 c.f2, .int .u8 c.f3, .int .u8 c.f4, .int .i64 c.b0, .int .u8 c.b1, .int .u8 c.b2, .int .u8 c.b3, .int .u8 c.b4, .int .u8 c.flags]] w fun e w' => e = .returned (.bool false) ∧ Sees w w') (hw : ∀ w, Calls Tryd.prog 74 #[.int .i32 c.rune] w fun e w' => e = .returned (.int .i64 x) ∧ Sees w w') (v : Bool) (hv : v = false) :
    Calls Tryd.prog 69 #[c.val] w fun e w' => e = .returned (.bool v) ∧ Sees w w' := by
  have Hm := Lib.hid hm; clear hm
  have Hp := Lib.hid hp; clear hp
  have Hw := Lib.hid hw; clear hw
  unfold Cell.val at *
  have Hv := Lib.hid hv; clear hv
  go_enter Tryd.func69, Tryd.ntmps69
  go_wp2_with fail; refine (Hm.out _).mono ?_; rintro e w1 ⟨rfl, hs1⟩; have hcw1 := (hs1).cells
  go_wp2_with fail; refine (Hp.out _).mono ?_; rintro e w2 ⟨rfl, hs2⟩; have hcw2 := (hs2).cells
  have hz : w.heap.size < w1.heap.size := by have := hs1.size; simp at this; omega
  go_wp2
  go_ret
  exact ⟨by rw [Hv.out]; rfl, (((Sees.refl _).alloc _).trans hs1).trans hs2⟩

set_option maxHeartbeats 800000 in
theorem refValid_nomarks (c : Cell) (n x : Int) (w : World) (hm : ∀ w, Calls Tryd.prog 72 #[c.val] w fun e w' => e = .returned (.tuple #[.int .i64 n, .bool false]) ∧ Sees w w') (hp : ∀ w, Calls Tryd.prog 73 #[.agg #[.int .i64 c.f0, .int .u8 c.f1, .int .u8 c.f2, .int .u8 c.f3, .int .u8 c.f4, .int .i64 c.b0, .int .u8 c.b1, .int .u8 c.b2, .int .u8 c.b3, .int .u8 c.b4, .int .u8 c.flags]] w fun e w' => e = .returned (.bool true) ∧ Sees w w') (hw : ∀ w, Calls Tryd.prog 74 #[.int .i32 c.rune] w fun e w' => e = .returned (.int .i64 x) ∧ Sees w w') (v : Bool) (hv : v = false) :
    Calls Tryd.prog 69 #[c.val] w fun e w' => e = .returned (.bool v) ∧ Sees w w' := by
  have Hm := Lib.hid hm; clear hm
  have Hp := Lib.hid hp; clear hp
  have Hw := Lib.hid hw; clear hw
  unfold Cell.val at *
  have Hv := Lib.hid hv; clear hv
  go_enter Tryd.func69, Tryd.ntmps69
  go_wp2_with fail; refine (Hm.out _).mono ?_; rintro e w1 ⟨rfl, hs1⟩; have hcw1 := (hs1).cells
  go_wp2_with fail; refine (Hp.out _).mono ?_; rintro e w2 ⟨rfl, hs2⟩; have hcw2 := (hs2).cells
  have hz : w.heap.size < w1.heap.size := by have := hs1.size; simp at this; omega
  go_wp2
  go_ret
  exact ⟨by rw [Hv.out]; rfl, (((Sees.refl _).alloc _).trans hs1).trans hs2⟩

set_option maxHeartbeats 800000 in
theorem refValid_z0 (c : Cell) (n x : Int) (w : World) (hm : ∀ w, Calls Tryd.prog 72 #[c.val] w fun e w' => e = .returned (.tuple #[.int .i64 n, .bool true]) ∧ Sees w w') (hp : ∀ w, Calls Tryd.prog 73 #[.agg #[.int .i64 c.f0, .int .u8 c.f1, .int .u8 c.f2, .int .u8 c.f3, .int .u8 c.f4, .int .i64 c.b0, .int .u8 c.b1, .int .u8 c.b2, .int .u8 c.b3, .int .u8 c.b4, .int .u8 c.flags]] w fun e w' => e = .returned (.bool true) ∧ Sees w w') (hw : ∀ w, Calls Tryd.prog 74 #[.int .i32 c.rune] w fun e w' => e = .returned (.int .i64 x) ∧ Sees w w') (v : Bool) (hv : v = (n == 0)) (hr : c.rune = 0) (h : c.width = 0) :
    Calls Tryd.prog 69 #[c.val] w fun e w' => e = .returned (.bool v) ∧ Sees w w' := by
  have Hm := Lib.hid hm; clear hm
  have Hp := Lib.hid hp; clear hp
  have Hw := Lib.hid hw; clear hw
  unfold Cell.val at *
  rw [h] at Hm ⊢
  clear h
  rw [hr] at Hm Hw ⊢
  clear hr
  have Hv := Lib.hid hv; clear hv
  go_enter Tryd.func69, Tryd.ntmps69
  go_wp2_with fail; refine (Hm.out _).mono ?_; rintro e w1 ⟨rfl, hs1⟩; have hcw1 := (hs1).cells
  go_wp2_with fail; refine (Hp.out _).mono ?_; rintro e w2 ⟨rfl, hs2⟩; have hcw2 := (hs2).cells
  have hz : w.heap.size < w1.heap.size := by have := hs1.size; simp at this; omega
  go_wp2
  go_ret
  exact ⟨by rw [Hv.out]; rfl, (((Sees.refl _).alloc _).trans hs1).trans hs2⟩

set_option maxHeartbeats 800000 in
theorem refValid_z1 (c : Cell) (n x : Int) (w : World) (hm : ∀ w, Calls Tryd.prog 72 #[c.val] w fun e w' => e = .returned (.tuple #[.int .i64 n, .bool true]) ∧ Sees w w') (hp : ∀ w, Calls Tryd.prog 73 #[.agg #[.int .i64 c.f0, .int .u8 c.f1, .int .u8 c.f2, .int .u8 c.f3, .int .u8 c.f4, .int .i64 c.b0, .int .u8 c.b1, .int .u8 c.b2, .int .u8 c.b3, .int .u8 c.b4, .int .u8 c.flags]] w fun e w' => e = .returned (.bool true) ∧ Sees w w') (hw : ∀ w, Calls Tryd.prog 74 #[.int .i32 c.rune] w fun e w' => e = .returned (.int .i64 x) ∧ Sees w w') (v : Bool) (hv : v = (n == 0)) (hr : c.rune = 0) (h : c.width = 1) :
    Calls Tryd.prog 69 #[c.val] w fun e w' => e = .returned (.bool v) ∧ Sees w w' := by
  have Hm := Lib.hid hm; clear hm
  have Hp := Lib.hid hp; clear hp
  have Hw := Lib.hid hw; clear hw
  unfold Cell.val at *
  rw [h] at Hm ⊢
  clear h
  rw [hr] at Hm Hw ⊢
  clear hr
  rcases (show (n == 0) = true ∨ (n == 0) = false by cases (n == 0) <;> simp) with hn | hn
  all_goals
    rw [hn] at hv
    have Hv := Lib.hid hv; clear hv
    go_enter Tryd.func69, Tryd.ntmps69
    go_wp2_with fail; refine (Hm.out _).mono ?_; rintro e w1 ⟨rfl, hs1⟩; have hcw1 := (hs1).cells
    go_wp2_with fail; refine (Hp.out _).mono ?_; rintro e w2 ⟨rfl, hs2⟩; have hcw2 := (hs2).cells
    have hz : w.heap.size < w1.heap.size := by have := hs1.size; simp at this; omega
    go_wp2
    go_ret
    exact ⟨by rw [Hv.out]; rfl, (((Sees.refl _).alloc _).trans hs1).trans hs2⟩

set_option maxHeartbeats 800000 in
theorem refValid_z2 (c : Cell) (n x : Int) (w : World) (hm : ∀ w, Calls Tryd.prog 72 #[c.val] w fun e w' => e = .returned (.tuple #[.int .i64 n, .bool true]) ∧ Sees w w') (hp : ∀ w, Calls Tryd.prog 73 #[.agg #[.int .i64 c.f0, .int .u8 c.f1, .int .u8 c.f2, .int .u8 c.f3, .int .u8 c.f4, .int .i64 c.b0, .int .u8 c.b1, .int .u8 c.b2, .int .u8 c.b3, .int .u8 c.b4, .int .u8 c.flags]] w fun e w' => e = .returned (.bool true) ∧ Sees w w') (hw : ∀ w, Calls Tryd.prog 74 #[.int .i32 c.rune] w fun e w' => e = .returned (.int .i64 x) ∧ Sees w w') (v : Bool) (hv : v = (x == 2)) (hr : c.rune = 0) (h : c.width = 2) :
    Calls Tryd.prog 69 #[c.val] w fun e w' => e = .returned (.bool v) ∧ Sees w w' := by
  have Hm := Lib.hid hm; clear hm
  have Hp := Lib.hid hp; clear hp
  have Hw := Lib.hid hw; clear hw
  unfold Cell.val at *
  rw [h] at Hm ⊢
  clear h
  rw [hr] at Hm Hw ⊢
  clear hr
  have Hv := Lib.hid hv; clear hv
  go_enter Tryd.func69, Tryd.ntmps69
  go_wp2_with fail; refine (Hm.out _).mono ?_; rintro e w1 ⟨rfl, hs1⟩; have hcw1 := (hs1).cells
  go_wp2_with fail; refine (Hp.out _).mono ?_; rintro e w2 ⟨rfl, hs2⟩; have hcw2 := (hs2).cells
  have hz : w.heap.size < w1.heap.size := by have := hs1.size; simp at this; omega
  go_wp2_with fail; refine (Hw.out _).mono ?_; rintro e w3 ⟨rfl, hs3⟩; have hcw3 := (hs3).cells
  go_wp2
  go_ret
  exact ⟨by rw [Hv.out]; rfl, ((((Sees.refl _).alloc _).trans hs1).trans hs2).trans hs3⟩

set_option maxHeartbeats 800000 in
theorem refValid_zo (c : Cell) (n x : Int) (w : World) (hm : ∀ w, Calls Tryd.prog 72 #[c.val] w fun e w' => e = .returned (.tuple #[.int .i64 n, .bool true]) ∧ Sees w w') (hp : ∀ w, Calls Tryd.prog 73 #[.agg #[.int .i64 c.f0, .int .u8 c.f1, .int .u8 c.f2, .int .u8 c.f3, .int .u8 c.f4, .int .i64 c.b0, .int .u8 c.b1, .int .u8 c.b2, .int .u8 c.b3, .int .u8 c.b4, .int .u8 c.flags]] w fun e w' => e = .returned (.bool true) ∧ Sees w w') (hw : ∀ w, Calls Tryd.prog 74 #[.int .i32 c.rune] w fun e w' => e = .returned (.int .i64 x) ∧ Sees w w') (v : Bool) (hv : v = false) (hr : c.rune = 0) (h1 : c.width ≠ 0) (h2 : c.width ≠ 1) (h3 : c.width ≠ 2) :
    Calls Tryd.prog 69 #[c.val] w fun e w' => e = .returned (.bool v) ∧ Sees w w' := by
  have Hm := Lib.hid hm; clear hm
  have Hp := Lib.hid hp; clear hp
  have Hw := Lib.hid hw; clear hw
  unfold Cell.val at *
  have h1 := beq_f h1
  have h2 : (c.width == 1) = false := by simpa using h2
  have h3 : (c.width == 2) = false := by simpa using h3
  rw [hr] at Hm Hw ⊢
  clear hr
  have Hv := Lib.hid hv; clear hv
  go_enter Tryd.func69, Tryd.ntmps69
  go_wp2_with fail; refine (Hm.out _).mono ?_; rintro e w1 ⟨rfl, hs1⟩; have hcw1 := (hs1).cells
  go_wp2_with fail; refine (Hp.out _).mono ?_; rintro e w2 ⟨rfl, hs2⟩; have hcw2 := (hs2).cells
  have hz : w.heap.size < w1.heap.size := by have := hs1.size; simp at this; omega
  go_wp2
  go_ret
  exact ⟨by rw [Hv.out]; rfl, (((Sees.refl _).alloc _).trans hs1).trans hs2⟩

set_option maxHeartbeats 800000 in
theorem refValid_r0 (c : Cell) (n x : Int) (w : World) (hm : ∀ w, Calls Tryd.prog 72 #[c.val] w fun e w' => e = .returned (.tuple #[.int .i64 n, .bool true]) ∧ Sees w w') (hp : ∀ w, Calls Tryd.prog 73 #[.agg #[.int .i64 c.f0, .int .u8 c.f1, .int .u8 c.f2, .int .u8 c.f3, .int .u8 c.f4, .int .i64 c.b0, .int .u8 c.b1, .int .u8 c.b2, .int .u8 c.b3, .int .u8 c.b4, .int .u8 c.flags]] w fun e w' => e = .returned (.bool true) ∧ Sees w w') (hw : ∀ w, Calls Tryd.prog 74 #[.int .i32 c.rune] w fun e w' => e = .returned (.int .i64 x) ∧ Sees w w') (v : Bool) (hv : v = false) (hr : c.rune ≠ 0) (h : c.width = 0) :
    Calls Tryd.prog 69 #[c.val] w fun e w' => e = .returned (.bool v) ∧ Sees w w' := by
  have Hm := Lib.hid hm; clear hm
  have Hp := Lib.hid hp; clear hp
  have Hw := Lib.hid hw; clear hw
  unfold Cell.val at *
  rw [h] at Hm ⊢
  clear h
  have hrn := bne_t hr
  have hr := beq_f hr
  have Hv := Lib.hid hv; clear hv
  go_enter Tryd.func69, Tryd.ntmps69
  go_wp2_with fail; refine (Hm.out _).mono ?_; rintro e w1 ⟨rfl, hs1⟩; have hcw1 := (hs1).cells
  go_wp2_with fail; refine (Hp.out _).mono ?_; rintro e w2 ⟨rfl, hs2⟩; have hcw2 := (hs2).cells
  have hz : w.heap.size < w1.heap.size := by have := hs1.size; simp at this; omega
  go_wp2
  go_ret
  exact ⟨by rw [Hv.out]; rfl, (((Sees.refl _).alloc _).trans hs1).trans hs2⟩

set_option maxHeartbeats 800000 in
theorem refValid_r1 (c : Cell) (n x : Int) (w : World) (hm : ∀ w, Calls Tryd.prog 72 #[c.val] w fun e w' => e = .returned (.tuple #[.int .i64 n, .bool true]) ∧ Sees w w') (hp : ∀ w, Calls Tryd.prog 73 #[.agg #[.int .i64 c.f0, .int .u8 c.f1, .int .u8 c.f2, .int .u8 c.f3, .int .u8 c.f4, .int .i64 c.b0, .int .u8 c.b1, .int .u8 c.b2, .int .u8 c.b3, .int .u8 c.b4, .int .u8 c.flags]] w fun e w' => e = .returned (.bool true) ∧ Sees w w') (hw : ∀ w, Calls Tryd.prog 74 #[.int .i32 c.rune] w fun e w' => e = .returned (.int .i64 x) ∧ Sees w w') (v : Bool) (hv : v = (x == 1)) (hr : c.rune ≠ 0) (h : c.width = 1) :
    Calls Tryd.prog 69 #[c.val] w fun e w' => e = .returned (.bool v) ∧ Sees w w' := by
  have Hm := Lib.hid hm; clear hm
  have Hp := Lib.hid hp; clear hp
  have Hw := Lib.hid hw; clear hw
  unfold Cell.val at *
  rw [h] at Hm ⊢
  clear h
  have hrn := bne_t hr
  have hr := beq_f hr
  have Hv := Lib.hid hv; clear hv
  go_enter Tryd.func69, Tryd.ntmps69
  go_wp2_with fail; refine (Hm.out _).mono ?_; rintro e w1 ⟨rfl, hs1⟩; have hcw1 := (hs1).cells
  go_wp2_with fail; refine (Hp.out _).mono ?_; rintro e w2 ⟨rfl, hs2⟩; have hcw2 := (hs2).cells
  have hz : w.heap.size < w1.heap.size := by have := hs1.size; simp at this; omega
  go_wp2_with fail; refine (Hw.out _).mono ?_; rintro e w3 ⟨rfl, hs3⟩; have hcw3 := (hs3).cells
  go_wp2
  go_ret
  exact ⟨by rw [Hv.out]; rfl, ((((Sees.refl _).alloc _).trans hs1).trans hs2).trans hs3⟩

set_option maxHeartbeats 800000 in
theorem refValid_r2 (c : Cell) (n x : Int) (w : World) (hm : ∀ w, Calls Tryd.prog 72 #[c.val] w fun e w' => e = .returned (.tuple #[.int .i64 n, .bool true]) ∧ Sees w w') (hp : ∀ w, Calls Tryd.prog 73 #[.agg #[.int .i64 c.f0, .int .u8 c.f1, .int .u8 c.f2, .int .u8 c.f3, .int .u8 c.f4, .int .i64 c.b0, .int .u8 c.b1, .int .u8 c.b2, .int .u8 c.b3, .int .u8 c.b4, .int .u8 c.flags]] w fun e w' => e = .returned (.bool true) ∧ Sees w w') (hw : ∀ w, Calls Tryd.prog 74 #[.int .i32 c.rune] w fun e w' => e = .returned (.int .i64 x) ∧ Sees w w') (v : Bool) (hv : v = (x == 2)) (hr : c.rune ≠ 0) (h : c.width = 2) :
    Calls Tryd.prog 69 #[c.val] w fun e w' => e = .returned (.bool v) ∧ Sees w w' := by
  have Hm := Lib.hid hm; clear hm
  have Hp := Lib.hid hp; clear hp
  have Hw := Lib.hid hw; clear hw
  unfold Cell.val at *
  rw [h] at Hm ⊢
  clear h
  have hrn := bne_t hr
  have hr := beq_f hr
  have Hv := Lib.hid hv; clear hv
  go_enter Tryd.func69, Tryd.ntmps69
  go_wp2_with fail; refine (Hm.out _).mono ?_; rintro e w1 ⟨rfl, hs1⟩; have hcw1 := (hs1).cells
  go_wp2_with fail; refine (Hp.out _).mono ?_; rintro e w2 ⟨rfl, hs2⟩; have hcw2 := (hs2).cells
  have hz : w.heap.size < w1.heap.size := by have := hs1.size; simp at this; omega
  go_wp2_with fail; refine (Hw.out _).mono ?_; rintro e w3 ⟨rfl, hs3⟩; have hcw3 := (hs3).cells
  go_wp2
  go_ret
  exact ⟨by rw [Hv.out]; rfl, ((((Sees.refl _).alloc _).trans hs1).trans hs2).trans hs3⟩

set_option maxHeartbeats 800000 in
theorem refValid_ro (c : Cell) (n x : Int) (w : World) (hm : ∀ w, Calls Tryd.prog 72 #[c.val] w fun e w' => e = .returned (.tuple #[.int .i64 n, .bool true]) ∧ Sees w w') (hp : ∀ w, Calls Tryd.prog 73 #[.agg #[.int .i64 c.f0, .int .u8 c.f1, .int .u8 c.f2, .int .u8 c.f3, .int .u8 c.f4, .int .i64 c.b0, .int .u8 c.b1, .int .u8 c.b2, .int .u8 c.b3, .int .u8 c.b4, .int .u8 c.flags]] w fun e w' => e = .returned (.bool true) ∧ Sees w w') (hw : ∀ w, Calls Tryd.prog 74 #[.int .i32 c.rune] w fun e w' => e = .returned (.int .i64 x) ∧ Sees w w') (v : Bool) (hv : v = false) (hr : c.rune ≠ 0) (h1 : c.width ≠ 0) (h2 : c.width ≠ 1) (h3 : c.width ≠ 2) :
    Calls Tryd.prog 69 #[c.val] w fun e w' => e = .returned (.bool v) ∧ Sees w w' := by
  have Hm := Lib.hid hm; clear hm
  have Hp := Lib.hid hp; clear hp
  have Hw := Lib.hid hw; clear hw
  unfold Cell.val at *
  have h1 := beq_f h1
  have h2 : (c.width == 1) = false := by simpa using h2
  have h3 : (c.width == 2) = false := by simpa using h3
  have hrn := bne_t hr
  have hr := beq_f hr
  have Hv := Lib.hid hv; clear hv
  go_enter Tryd.func69, Tryd.ntmps69
  go_wp2_with fail; refine (Hm.out _).mono ?_; rintro e w1 ⟨rfl, hs1⟩; have hcw1 := (hs1).cells
  go_wp2_with fail; refine (Hp.out _).mono ?_; rintro e w2 ⟨rfl, hs2⟩; have hcw2 := (hs2).cells
  have hz : w.heap.size < w1.heap.size := by have := hs1.size; simp at this; omega
  go_wp2
  go_ret
  exact ⟨by rw [Hv.out]; rfl, (((Sees.refl _).alloc _).trans hs1).trans hs2⟩

theorem refValid_any (c : Cell) (w : World) :
    Calls Tryd.prog 69 #[c.val] w fun e w' => e = .returned (.bool c.valid) ∧ Sees w w' := by
  have hf := valid_ref c
  have hm := refMk_any c
  have hp := refPen_any c.f0 c.f1 c.f2 c.f3 c.f4 c.b0 c.b1 c.b2 c.b3 c.b4 c.flags
  have hw := refOf_any c.rune
  rcases (show vPen c.f0 c.f1 c.f2 c.f3 c.f4 c.b0 c.b1 c.b2 c.b3 c.b4 = false ∨ vPen c.f0 c.f1 c.f2 c.f3 c.f4 c.b0 c.b1 c.b2 c.b3 c.b4 = true by cases vPen c.f0 c.f1 c.f2 c.f3 c.f4 c.b0 c.b1 c.b2 c.b3 c.b4 <;> simp) with h | h
  · rw [h] at hf hp; exact refValid_nopen c _ _ _ w hm hp hw _ hf
  rw [h] at hf hp
  rcases (show rmOk c = false ∨ rmOk c = true by cases rmOk c <;> simp) with h | h
  · rw [h] at hf hm; exact refValid_nomarks c _ _ w hm hp hw _ hf
  rw [h] at hf hm
  rw [Bool.true_and, Bool.true_and] at hf
  by_cases hr : c.rune = 0
  · by_cases h0 : c.width = 0
    · exact refValid_z0 c _ _ w hm hp hw _ (by rw [hf, if_pos h0, beq_t hr, Bool.true_and]) hr h0
    by_cases h1 : c.width = 1
    · exact refValid_z1 c _ _ w hm hp hw _ (by rw [hf, if_neg h0, if_pos h1, beq_t hr, bne_f hr]; simp) hr h1
    by_cases h2 : c.width = 2
    · exact refValid_z2 c _ _ w hm hp hw _ (by rw [hf, if_neg h0, if_neg h1, if_pos h2]) hr h2
    · exact refValid_zo c _ _ w hm hp hw _ (by rw [hf, if_neg h0, if_neg h1, if_neg h2]) hr h0 h1 h2
  · by_cases h0 : c.width = 0
    · exact refValid_r0 c _ _ w hm hp hw _ (by rw [hf, if_pos h0, beq_f hr, Bool.false_and]) hr h0
    by_cases h1 : c.width = 1
    · exact refValid_r1 c _ _ w hm hp hw _ (by rw [hf, if_neg h0, if_pos h1, beq_f hr, bne_t hr]; simp) hr h1
    by_cases h2 : c.width = 2
    · exact refValid_r2 c _ _ w hm hp hw _ (by rw [hf, if_neg h0, if_neg h1, if_pos h2]) hr h2
    · exact refValid_ro c _ _ w hm hp hw _ (by rw [hf, if_neg h0, if_neg h1, if_neg h2]) hr h0 h1 h2
end Go.Proofs.YthjcnhgfagefjaaDoor
