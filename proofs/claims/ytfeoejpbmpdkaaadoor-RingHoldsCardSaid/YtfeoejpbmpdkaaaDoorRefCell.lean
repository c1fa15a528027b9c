/- The reference's tests of runes, pens and cells answer as the program's do. No condition. -/
import Derived.Test.YtfeoejpbmpdkaaaDoorCell
namespace Go.Proofs.YtfeoejpbmpdkaaaDoor
set_option linter.unusedVariables false
set_option linter.unusedSimpArgs false
open Go.RowKit

set_option maxHeartbeats 800000 in
theorem refColor_any (k i r g b : Int) (w : World) :
    Calls Tryd.prog 102 #[.agg #[.int .i64 k, .int .u8 i, .int .u8 r, .int .u8 g, .int .u8 b]] w fun e w' => e = .returned (.bool (vColor k i r g b)) ∧ Sees w w' := by
  rcases (show k = 0 ∨ k = 1 ∨ k = 2 ∨ ((k == 0) = false ∧ (k == 1) = false ∧ (k == 2) = false) by simp; omega) with rfl | rfl | rfl | ⟨h0, h1, h2⟩
  all_goals
    go_enter Tryd.func102, Tryd.ntmps102
    go_wp2
    all_goals
      go_ret
      exact ⟨by first | (simp_all [vColor, eq5]; done) | (simp_all [vColor, eq5]; rfl), (Sees.refl _).alloc _⟩

set_option maxHeartbeats 400000 in
theorem refPen_any (a0 a1 a2 a3 a4 a5 a6 a7 a8 a9 a10 : Int) (w : World) :
    Calls Tryd.prog 96 #[.agg #[.int .i64 a0, .int .u8 a1, .int .u8 a2, .int .u8 a3, .int .u8 a4, .int .i64 a5, .int .u8 a6, .int .u8 a7, .int .u8 a8, .int .u8 a9, .int .u8 a10]] w
      fun e w' => e = .returned (.bool (vPen a0 a1 a2 a3 a4 a5 a6 a7 a8 a9)) ∧ Sees w w' := by
  unfold vPen
  by_cases h : vColor a0 a1 a2 a3 a4 = true
  · have hv := refColor_any a0 a1 a2 a3 a4
    rw [h] at hv ⊢
    have H := Lib.hid hv; clear h hv
    go_enter Tryd.func96, Tryd.ntmps96
    go_wp2_with fail; refine (H.out _).mono ?_; rintro e w1 ⟨rfl, hs1⟩; have hcw1 := (hs1).cells
    go_wp2_with fail; refine (refColor_any _ _ _ _ _ _).mono ?_; rintro e w2 ⟨rfl, hs2⟩; have hcw2 := (hs2).cells
    go_wp2
    go_ret
    exact ⟨by simp, (((Sees.refl _).alloc _).trans hs1).trans hs2⟩
  · have hv := refColor_any a0 a1 a2 a3 a4
    rw [Bool.not_eq_true] at h
    rw [h] at hv ⊢
    have H := Lib.hid hv; clear h hv
    go_enter Tryd.func96, Tryd.ntmps96
    go_wp2_with fail; refine (H.out _).mono ?_; rintro e w1 ⟨rfl, hs1⟩; have hcw1 := (hs1).cells
    go_wp2
    go_ret
    exact ⟨by simp, (((Sees.refl _).alloc _).trans hs1)⟩

set_option maxHeartbeats 400000 in
theorem printed_any (r : Int) (w : World) :
    Calls Tryd.prog 103 #[.int .i32 r] w fun e w' => e = .returned (.bool (prn r)) ∧ Sees w w' := by
  rcases (show r < 32 ∨ (32 ≤ r ∧ r < 127) ∨ (127 ≤ r ∧ r < 160) ∨ (160 ≤ r ∧ r < 55296) ∨ (55296 ≤ r ∧ r ≤ 57343) ∨ (57344 ≤ r ∧ r ≤ 1114111) ∨ 1114111 < r by omega) with h | h | h | h | h | h | h
  all_goals
    first
    | (have Hf : Hid (prn r = true) := by (unfold Hid prn; simp; omega))
    | (have Hf : Hid (prn r = false) := by (unfold Hid prn; simp; omega))
    go_enter Tryd.func103, Tryd.ntmps103
    go_wp2
    go_ret
    exact ⟨by rw [Hf.out]; first | rfl | (simp; done) | (simp; omega), Sees.refl _⟩

theorem inTab_take {n : Nat} {T : Nat → Int × Int} {r : Int} (h : ∀ k, k < n → ((T k).1 ≤ r && r ≤ (T k).2) = false) : inTab n T r = false := by
  unfold inTab; rw [List.any_eq_false]; intro k hk; rw [h k (List.mem_range.1 hk)]; simp
theorem inTab_hit {n k : Nat} {T : Nat → Int × Int} {r : Int} (hk : k < n) (h1 : (T k).1 ≤ r) (h2 : r ≤ (T k).2) : inTab n T r = true := by
  unfold inTab; rw [List.any_eq_true]; exact ⟨k, List.mem_range.2 hk, by simp [h1, h2]⟩

set_option maxHeartbeats 400000 in
theorem refIn_any (b n cap : Nat) (T : Nat → Int × Int) (r : Int) (w : World) (hn : n ≤ 1000)
    (hT : ∀ (W : World) (i : Nat), Sees w W → i < n → W.cell? ⟨b, i * 2, none⟩ = some (.int .i32 (T i).1) ∧ W.cell? ⟨b, i * 2 + 1, none⟩ = some (.int .i32 (T i).2)) :
    Calls Tryd.prog 104 #[.slice (some ⟨b, 0, none⟩) n cap, .int .i32 r] w fun e w' => e = .returned (.bool (inTab n T r)) ∧ Sees w w' := by
  have hw := Sees.refl w
  go_enter Tryd.func104, Tryd.ntmps104
  go_wp2
  go_loop [5] (fun i => ∃ k : Nat, k ≤ n ∧ i = .int .i64 k ∧ ∀ j, j < k → ((T j).1 ≤ r && r ≤ (T j).2) = false) (fun i => n - (intOf i).toNat)
  case atStart => exact ⟨0, by omega, rfl, fun j hj => by omega⟩
  case round =>
    obtain ⟨k, hk, rfl, hm⟩ := hrel
    have Hm := Lib.hid hm; clear hm
    by_cases hlt : k < n
    · rcases (show r < (T k).1 ∨ (T k).2 < r ∨ ((T k).1 ≤ r ∧ r ≤ (T k).2) by omega) with h | h | ⟨h, h'⟩
      · have hb : Hid (((T k).1 ≤ r && r ≤ (T k).2) = false) := by unfold Hid; simp; omega
        go_wp2
        go_round
        case rel => exact ⟨k + 1, by omega, by go_num, fun j hj => by rcases Nat.lt_or_eq_of_le (Nat.le_of_lt_succ hj) with h1 | rfl; exact Hm.out j h1; exact hb.out⟩
        case measure => simp [intOf]; omega
      · have hb : Hid (((T k).1 ≤ r && r ≤ (T k).2) = false) := by unfold Hid; simp; omega
        go_wp2
        all_goals
          go_round
          case rel => exact ⟨k + 1, by omega, by go_num, fun j hj => by rcases Nat.lt_or_eq_of_le (Nat.le_of_lt_succ hj) with h1 | rfl; exact Hm.out j h1; exact hb.out⟩
          case measure => simp [intOf]; omega
      · have hb : Hid (inTab n T r = true) := inTab_hit hlt h h'
        go_wp2
        go_ret
        exact ⟨by rw [hb.out]; rfl, hw⟩
    · obtain rfl : k = n := by omega
      have hb : Hid (inTab k T r = false) := inTab_take Hm.out
      go_wp2
      go_ret
      exact ⟨by rw [hb.out]; rfl, hw⟩

/-- Pairs of numbers, laid one behind the other. -/
def pairV : List (Int × Int) → List Value
  | [] => []
  | p :: r => .int .i32 p.1 :: .int .i32 p.2 :: pairV r
theorem pairV_get : ∀ (L : List (Int × Int)) (i : Nat), i < L.length → (pairV L)[i * 2]? = some (.int .i32 (L.getD i (0, 0)).1) ∧ (pairV L)[i * 2 + 1]? = some (.int .i32 (L.getD i (0, 0)).2)
  | [], _, h => by cases h
  | p :: r, 0, _ => by simp [pairV]
  | p :: r, i + 1, h => by
    have := pairV_get r i (by simpa using h)
    rw [show (i + 1) * 2 = i * 2 + 2 by omega, show i * 2 + 2 + 1 = i * 2 + 1 + 2 by omega]
    simpa [pairV] using this
theorem alloc_pairs (w : World) (L : List (Int × Int)) (t : TypeId) (i : Nat) (hi : i < L.length) :
    (w.alloc (.cells (pairV L).toArray t)).cell? ⟨w.heap.size, i * 2, none⟩ = some (.int .i32 (L.getD i (0, 0)).1) ∧ (w.alloc (.cells (pairV L).toArray t)).cell? ⟨w.heap.size, i * 2 + 1, none⟩ = some (.int .i32 (L.getD i (0, 0)).2) := by
  have h := pairV_get L i hi
  rw [cell_of_row _ _ _ _ _ _ (heap_alloc_new w _), cell_of_row _ _ _ _ _ _ (heap_alloc_new w _)]
  simpa using h

set_option maxRecDepth 100000 in
set_option maxHeartbeats 1000000 in
theorem refMarks_any (w : World) :
    Calls Tryd.prog 105 #[] w fun e w' => ∃ b, e = .returned (.slice (some ⟨b, 0, none⟩) 18 18) ∧ Sees w w' ∧ (∀ i, i < 18 → w'.cell? ⟨b, i * 2, none⟩ = some (.int .i32 (marksT i).1) ∧ w'.cell? ⟨b, i * 2 + 1, none⟩ = some (.int .i32 (marksT i).2)) := by
  go_enter Tryd.func105, Tryd.ntmps105
  go_wp2
  go_ret
  exact ⟨w.heap.size, rfl, (Sees.refl _).alloc _, alloc_pairs w marksL 140⟩

set_option maxRecDepth 100000 in
set_option maxHeartbeats 1000000 in
theorem refWide_any (w : World) :
    Calls Tryd.prog 106 #[] w fun e w' => ∃ b, e = .returned (.slice (some ⟨b, 0, none⟩) 19 19) ∧ Sees w w' ∧ (∀ i, i < 19 → w'.cell? ⟨b, i * 2, none⟩ = some (.int .i32 (wideT i).1) ∧ w'.cell? ⟨b, i * 2 + 1, none⟩ = some (.int .i32 (wideT i).2)) := by
  go_enter Tryd.func106, Tryd.ntmps106
  go_wp2
  go_ret
  exact ⟨w.heap.size, rfl, (Sees.refl _).alloc _, alloc_pairs w wideL 140⟩

set_option maxHeartbeats 800000 in
theorem refOf_any (r : Int) (w : World) :
    Calls Tryd.prog 97 #[.int .i32 r] w fun e w' => e = .returned (.int .i64 (wOf r)) ∧ Sees w w' := by
  have hp := printed_any r
  rcases (show prn r = false ∨ prn r = true by cases prn r <;> simp) with h | h
  · rw [h] at hp
    have Hp := Lib.hid hp; clear hp
    have Hf : Hid (wOf r = -1) := by unfold Hid wOf; rw [h]; rfl
    clear h
    go_enter Tryd.func97, Tryd.ntmps97
    go_wp2_with fail; refine (Hp.out _).mono ?_; rintro e w1 ⟨rfl, hs1⟩; have hcw1 := (hs1).cells
    go_wp2
    go_ret
    exact ⟨by rw [Hf.out]; rfl, hs1⟩
  · rw [h] at hp
    have Hp := Lib.hid hp; clear hp
    have hm := fun b w h => refIn_any b 18 18 marksT r w (by omega) h
    rcases (show inTab 18 marksT r = true ∨ inTab 18 marksT r = false by cases inTab 18 marksT r <;> simp) with h1 | h1
    · rw [h1] at hm
      have Hm := Lib.hid hm; clear hm
      have Hf : Hid (wOf r = 0) := by unfold Hid wOf; rw [h, h1]; rfl
      clear h h1
      go_enter Tryd.func97, Tryd.ntmps97
      go_wp2_with fail; refine (Hp.out _).mono ?_; rintro e w1 ⟨rfl, hs1⟩; have hcw1 := (hs1).cells
      go_wp2_with fail
      refine (refMarks_any _).mono ?_
      rintro e w2 ⟨b, rfl, hs2, hT⟩
      have HT := Lib.hid hT; clear hT
      go_wp2_with fail; refine (Hm.out _ _ (fun W i hW hi => ⟨hW.cell (HT.out i hi).1, hW.cell (HT.out i hi).2⟩)).mono ?_; rintro e w3 ⟨rfl, hs3⟩; have hcw3 := (hs3).cells
      go_wp2
      go_ret
      exact ⟨by rw [Hf.out]; rfl, (hs1.trans hs2).trans hs3⟩
    · rw [h1] at hm
      have Hm := Lib.hid hm; clear hm
      have hw := fun b w h => refIn_any b 19 19 wideT r w (by omega) h
      rcases (show inTab 19 wideT r = true ∨ inTab 19 wideT r = false by cases inTab 19 wideT r <;> simp) with h2 | h2
      all_goals
        rw [h2] at hw
        have Hw := Lib.hid hw; clear hw
        have Hf := Lib.hid (show wOf r = if inTab 19 wideT r then 2 else 1 by unfold wOf; rw [h, h1]; rfl)
        rw [h2] at Hf
        clear h h1 h2
        go_enter Tryd.func97, Tryd.ntmps97
        go_wp2_with fail; refine (Hp.out _).mono ?_; rintro e w1 ⟨rfl, hs1⟩; have hcw1 := (hs1).cells
        go_wp2_with fail
        refine (refMarks_any _).mono ?_
        rintro e w2 ⟨b, rfl, hs2, hT⟩
        have HT := Lib.hid hT; clear hT
        go_wp2_with fail; refine (Hm.out _ _ (fun W i hW hi => ⟨hW.cell (HT.out i hi).1, hW.cell (HT.out i hi).2⟩)).mono ?_; rintro e w3 ⟨rfl, hs3⟩; have hcw3 := (hs3).cells
        go_wp2_with fail
        refine (refWide_any _).mono ?_
        rintro e w4 ⟨b4, rfl, hs4, hT4⟩
        have HT4 := Lib.hid hT4; clear hT4
        go_wp2_with fail; refine (Hw.out _ _ (fun W i hW hi => ⟨hW.cell (HT4.out i hi).1, hW.cell (HT4.out i hi).2⟩)).mono ?_; rintro e w5 ⟨rfl, hs5⟩; have hcw5 := (hs5).cells
        go_wp2
        go_ret
        exact ⟨by rw [Hf.out]; rfl, (((hs1.trans hs2).trans hs3).trans hs4).trans hs5⟩
end Go.Proofs.YtfeoejpbmpdkaaaDoor
