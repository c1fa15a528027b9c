/- The methods of tab stops (20): New, Set, Clear, Reset, Default, walk, Next, Prev, Cols. No condition. -/
import Derived.Test.YtdblmoaimghplaaTbT
namespace Go.Proofs.Ytdblmoaimghplaa
set_option linter.unusedVariables false
set_option linter.unusedSimpArgs false
open Go.RowKit Go.Maps

section
variable {w : World} {p mb : Nat} {L : List Bool}
theorem getB_false (n : Nat) (k : Int) : getB (List.replicate n false) k = false := by
  by_cases hk : 0 ≤ k
  · obtain ⟨j, rfl⟩ : ∃ j : Nat, k = (j : Int) := ⟨k.toNat, by omega⟩
    rw [getB_nat, List.getD_eq_getElem?_getD, List.getElem?_replicate]
    split <;> rfl
  · exact getB_neg _ (by omega)
set_option maxHeartbeats 1000000 in
theorem new_ok (w : World) (c : Nat) (hc : 1 ≤ c ∧ c ≤ 1000) : Calls Try.prog 9 #[i64 c] w fun e w' => ∃ p mb, e = .returned (.tuple #[ptr p, i64 0]) ∧ w.heap.size ≤ p ∧ w.heap.size ≤ mb ∧ SpAt w' p mb (defL c) ∧ Sees w w' := by
  have d1 : decide ((c : Int) < 1) = false := decide_eq_false (by omega)
  have d2 : decide ((c : Int) > 1000) = false := decide_eq_false (by omega)
  have d3 : decide (1000 < (c : Int)) = false := decide_eq_false (by omega)
  have hG0 : GpAt ((w.alloc (.map #[] 0)).alloc (.cells #[.int .i64 (c : Int), .map (some w.heap.size)] 53)) (w.heap.size + 1) w.heap.size c (fun _ => false) := by
    refine ⟨?_, ⟨.map [], ((World.ownsMap_made w Try.prog 3 RV).alloc _).mono (by omega), MapIs.empty⟩, by omega, fun k hk => by cases hk⟩
    have := heap_alloc_new (w.alloc (.map #[] 0)) (.cells #[.int .i64 (c : Int), .map (some w.heap.size)] 53)
    simpa using this
  have hs : Sees w ((w.alloc (.map #[] 0)).alloc (.cells #[.int .i64 (c : Int), .map (some w.heap.size)] 53)) := ((Sees.refl w).alloc _).alloc _
  have hF := fill_at hG0 (by omega) 0
  have hmk : (Instr.makeMap 51 none).run Try.prog w = .ok (.map (some w.heap.size)) (w.alloc (.map #[] 0)) := by
    simp [Instr.makeMap, run_underlying Try.underlying51, go_sem, Result.andThen]
  go_enter Try.func9, Try.ntmps9
  go_wp2_with fail
  refine hF.mono ?_
  rintro e W1 ⟨rfl, hG, hK⟩
  go_wp2
  go_ret2
  refine ⟨_, _, rfl, by omega, Nat.le_refl _, ⟨?_, by rw [defL_length]; omega⟩, ?_⟩
  · rw [defL_length]
    exact hG.congr fun k => by
      rw [getB_defL]
      by_cases h0 : 0 < k
      · rw [decide_eq_true (show 0 ≤ k by omega)]
        simp
      · rw [decide_eq_false h0]
        simp
  · exact ((Keeps.of_sees (F := fun b => b = w.heap.size) hs).trans hK).sees_end (fun b hb e => by omega)
set_option maxHeartbeats 1000000 in
theorem new_bad (w : World) (c : Int) (hc : ¬ (1 ≤ c ∧ c ≤ 1000)) : Calls Try.prog 9 #[i64 c] w fun e w' => e = .returned (.tuple #[.pointer none, i64 2]) ∧ w' = w := by
  by_cases h1 : c < 1
  · have d1 : decide (c < 1) = true := decide_eq_true h1
    go_enter Try.func9, Try.ntmps9
    go_wp2
    go_ret2
    exact ⟨rfl, rfl⟩
  · have d1 : decide (c < 1) = false := decide_eq_false h1
    have d2 : decide (c > 1000) = true := decide_eq_true (by omega)
    have d3 : decide (1000 < c) = true := decide_eq_true (by omega)
    go_enter Try.func9, Try.ntmps9
    go_wp2
    go_ret2
    exact ⟨rfl, rfl⟩
set_option maxHeartbeats 1000000 in
theorem set_in (h : SpAt w p mb L) (i : Nat) (hi : i < L.length) : Calls Try.prog 15 #[ptr p, i64 i] w fun e w' => e = .returned (i64 0) ∧ SpAt w' p mb (L.set i true) ∧ Keeps (fun b => b = mb) w w' := by
  have hl := h.2
  have hc := check_ok h.1 (by omega) i (by omega)
  obtain ⟨W2, hrun, hG2, hK2⟩ := h.1.put (k := (i : Int)) (g' := getB (L.set i true)) (by omega) (getB_set hi true)
  obtain ⟨q0, q1⟩ := h.1.cs
  clear h
  go_enter Try.func15, Try.ntmps15
  go_wp2_with (go_at_call 30; refine hc.mono ?_)
  try (rintro e W ⟨rfl, rfl⟩; go_wp2)
  go_ret
  exact ⟨rfl, ⟨by rw [List.length_set]; exact hG2, by rw [List.length_set]; exact hl⟩, hK2⟩
set_option maxHeartbeats 1000000 in
theorem clear_in (h : SpAt w p mb L) (i : Nat) (hi : i < L.length) : Calls Try.prog 16 #[ptr p, i64 i] w fun e w' => e = .returned (i64 0) ∧ SpAt w' p mb (L.set i false) ∧ Keeps (fun b => b = mb) w w' := by
  have hl := h.2
  have hc := check_ok h.1 (by omega) i (by omega)
  obtain ⟨W2, hrun, hG2, hK2⟩ := h.1.drop (k := (i : Int)) (g' := getB (L.set i false)) (by omega) (getB_set hi false) 0
  obtain ⟨q0, q1⟩ := h.1.cs
  clear h
  go_enter Try.func16, Try.ntmps16
  go_wp2_with (go_at_call 30; refine hc.mono ?_)
  try (rintro e W ⟨rfl, rfl⟩; go_wp2)
  go_ret
  exact ⟨rfl, ⟨by rw [List.length_set]; exact hG2, by rw [List.length_set]; exact hl⟩, hK2⟩
set_option maxHeartbeats 1000000 in
theorem reset_at (h : SpAt w p mb L) : Calls Try.prog 17 #[ptr p] w fun e w' => e = .returned (i64 0) ∧ SpAt w' p mb (List.replicate L.length false) ∧ Keeps (fun b => b = mb) w w' := by
  have hl := h.2
  have hc := check_ok h.1 (by omega) 0 (by omega)
  obtain ⟨W2, hrun, hG2, hK2⟩ := h.1.none 0
  obtain ⟨q0, q1⟩ := h.1.cs
  clear h
  go_enter Try.func17, Try.ntmps17
  go_wp2_with (go_at_call 30; refine hc.mono ?_)
  try (rintro e W ⟨rfl, rfl⟩; go_wp2)
  go_ret
  exact ⟨rfl, ⟨by rw [List.length_replicate]; exact hG2.congr fun k => (getB_false _ k).symm, by rw [List.length_replicate]; exact hl⟩, hK2⟩
set_option maxHeartbeats 1000000 in
theorem default_at (h : SpAt w p mb L) : Calls Try.prog 18 #[ptr p] w fun e w' => e = .returned (i64 0) ∧ SpAt w' p mb (defL L.length) ∧ Keeps (fun b => b = mb) w w' := by
  have hl := h.2
  have hc := reset_at h
  go_enter Try.func18, Try.ntmps18
  go_wp2_with fail
  refine hc.mono ?_
  rintro e W1 ⟨rfl, hS, hK⟩
  have hF := fill_at hS.1 (by rw [List.length_replicate]; omega) 0
  go_wp2_with fail
  refine hF.mono ?_
  rintro e W2 ⟨rfl, hG, hK2⟩
  go_wp2
  go_ret
  refine ⟨rfl, ⟨?_, by rw [defL_length]; exact hl⟩, hK.trans hK2⟩
  rw [defL_length]
  rw [List.length_replicate] at hG
  exact hG.congr fun k => by
    rw [getB_defL, getB_false]
    by_cases h0 : 0 < k
    · rw [decide_eq_true (show 0 ≤ k by omega)]
      simp
    · rw [decide_eq_false h0]
      simp
theorem set_out (h : SpAt w p mb L) (i : Int) (hi : ¬ (0 ≤ i ∧ i < L.length)) : Calls Try.prog 15 #[ptr p, i64 i] w fun e w' => e = .returned (i64 3) ∧ w' = w := by
  have hl := h.2
  have hc := check_out h.1 (by omega) i hi
  go_enter Try.func15, Try.ntmps15
  go_wp2_with (go_at_call 30; refine hc.mono ?_)
  try (rintro e W ⟨rfl, rfl⟩; go_wp2)
  go_ret
  exact ⟨rfl, rfl⟩
theorem clear_out (h : SpAt w p mb L) (i : Int) (hi : ¬ (0 ≤ i ∧ i < L.length)) : Calls Try.prog 16 #[ptr p, i64 i] w fun e w' => e = .returned (i64 3) ∧ w' = w := by
  have hl := h.2
  have hc := check_out h.1 (by omega) i hi
  go_enter Try.func16, Try.ntmps16
  go_wp2_with (go_at_call 30; refine hc.mono ?_)
  try (rintro e W ⟨rfl, rfl⟩; go_wp2)
  go_ret
  exact ⟨rfl, rfl⟩
theorem cols_at (h : SpAt w p mb L) : Calls Try.prog 12 #[ptr p] w fun e w' => e = .returned (i64 L.length) ∧ w' = w := by
  obtain ⟨q0, q1⟩ := h.1.cs
  clear h
  go_enter Try.func12, Try.ntmps12
  go_wp2
  go_ret
  exact ⟨rfl, rfl⟩
set_option maxHeartbeats 2000000 in
theorem walk_up (h : SpAt w p mb L) (n col : Nat) (hc : col < L.length) (hn : n ≤ 9223372036854775807) : Calls Try.prog 33 #[ptr p, i64 col, i64 n, i64 1, i64 ((L.length : Int) - 1)] w fun e w' => e = .returned (.tuple #[i64 (up L n col), i64 0]) ∧ w' = w := by
  have hl := h.2
  have hk := check_ok h.1 (by omega) col (by omega)
  obtain ⟨q0, q1⟩ := h.1.cs
  have H := Lib.hid h
  clear h
  obtain ⟨V, hV⟩ : ∃ V, V = up L n col := ⟨_, rfl⟩
  rw [← hV]
  replace hV := Lib.hid hV
  have d0 : decide ((n : Int) < 0) = false := decide_eq_false (by omega)
  obtain ⟨N, hN⟩ : ∃ N, N = L.length := ⟨_, rfl⟩
  rw [← hN] at hc hl ⊢
  replace hN := Lib.hid hN
  go_enter Try.func33, Try.ntmps33
  go_wp2_with (go_at_call 30; refine hk.mono ?_)
  try (rintro e W ⟨rfl, rfl⟩; go_wp2)
  go_loop [1, 2] (fun x y => ∃ k m : Nat, x = .int .i64 k ∧ y = .int .i64 m ∧ k < N ∧ m ≤ n ∧ RowKit.Hid (up L m k = V)) (fun x _ => N - (vInt x).toNat)
  case atStart => exact ⟨col, n, rfl, rfl, hc, Nat.le_refl _, Lib.hid hV.out.symm⟩
  case round =>
    obtain ⟨k, m, rfl, rfl, hkN, hmn, hm⟩ := hrel
    clear hk
    by_cases hm0 : m = 0
    · subst hm0
      have d1 : decide (((0 : Nat) : Int) > 0) = false := rfl
      have e := hm.out
      rw [up_zero] at e
      subst e
      go_wp2
      go_ret2
      exact ⟨rfl, rfl⟩
    · have d1 : decide ((m : Int) > 0) = true := decide_eq_true (by omega)
      have d1' : decide (0 < (m : Int)) = true := decide_eq_true (by omega)
      by_cases hke : k + 1 = N
      · have d2 : ((k : Int) == (N : Int) - 1) = true := beq_iff_eq.2 (by omega)
        have e := hm.out
        rw [up_end L m (by have := hN.out; omega)] at e
        subst e
        go_wp2
        go_ret2
        exact ⟨rfl, rfl⟩
      · have d2 : ((k : Int) == (N : Int) - 1) = false := beq_eq_false_iff_ne.2 (by omega)
        have hlk := H.out.1.look (k := (k : Int) + 1) (by omega)
        have e := hm.out
        rw [up_step L (by have := hN.out; omega) hm0] at e
        obtain ⟨b, hb⟩ : ∃ b, b = getB L ((k : Int) + 1) := ⟨_, rfl⟩
        rw [← hb] at hlk
        have hb2 : L.getD (k + 1) false = b := by rw [hb, show ((k : Int) + 1) = ((k + 1 : Nat) : Int) by omega, getB_nat]
        rw [hb2] at e
        clear hb hb2
        cases b
        · rw [if_neg (by decide)] at e
          replace e := Lib.hid e
          go_wp2
          go_round
          case rel => exact ⟨k + 1, m, by go_num, rfl, by omega, hmn, e⟩
          case measure => simp [vInt]; omega
        · rw [if_pos rfl] at e
          replace e := Lib.hid e
          go_wp2
          go_round
          case rel => exact ⟨k + 1, m - 1, by go_num, by go_num, by omega, by omega, e⟩
          case measure => simp [vInt]; omega
set_option maxHeartbeats 2000000 in
theorem walk_dn (h : SpAt w p mb L) (n col : Nat) (hc : col < L.length) (hn : n ≤ 9223372036854775807) : Calls Try.prog 33 #[ptr p, i64 col, i64 n, i64 (-1), i64 0] w fun e w' => e = .returned (.tuple #[i64 (dn L n col), i64 0]) ∧ w' = w := by
  have hl := h.2
  have hk := check_ok h.1 (by omega) col (by omega)
  obtain ⟨q0, q1⟩ := h.1.cs
  have H := Lib.hid h
  clear h
  obtain ⟨V, hV⟩ : ∃ V, V = dn L n col := ⟨_, rfl⟩
  rw [← hV]
  replace hV := Lib.hid hV
  have d0 : decide ((n : Int) < 0) = false := decide_eq_false (by omega)
  obtain ⟨N, hN⟩ : ∃ N, N = L.length := ⟨_, rfl⟩
  rw [← hN] at hc hl
  rw [← hN] at q0
  replace hN := Lib.hid hN
  go_enter Try.func33, Try.ntmps33
  go_wp2_with (go_at_call 30; refine hk.mono ?_)
  try (rintro e W ⟨rfl, rfl⟩; go_wp2)
  go_loop [1, 2] (fun x y => ∃ k m : Nat, x = .int .i64 k ∧ y = .int .i64 m ∧ k < N ∧ m ≤ n ∧ RowKit.Hid (dn L m k = V)) (fun x _ => (vInt x).toNat)
  case atStart => exact ⟨col, n, rfl, rfl, hc, Nat.le_refl _, Lib.hid hV.out.symm⟩
  case round =>
    obtain ⟨k, m, rfl, rfl, hkN, hmn, hm⟩ := hrel
    clear hk
    by_cases hm0 : m = 0
    · subst hm0
      have d1 : decide (((0 : Nat) : Int) > 0) = false := rfl
      have e := hm.out
      rw [dn_zero] at e
      subst e
      go_wp2
      go_ret2
      exact ⟨rfl, rfl⟩
    · have d1 : decide ((m : Int) > 0) = true := decide_eq_true (by omega)
      have d1' : decide (0 < (m : Int)) = true := decide_eq_true (by omega)
      cases k with
      | zero =>
        have e : 0 = V := hm.out
        subst e
        go_wp2
        go_ret2
        exact ⟨rfl, rfl⟩
      | succ k =>
        have d2 : (((k + 1 : Nat) : Int) == 0) = false := beq_eq_false_iff_ne.2 (by omega)
        have hlk := H.out.1.look (k := (k : Int)) (by omega)
        have e := hm.out
        rw [dn_step L hm0] at e
        obtain ⟨b, hb⟩ : ∃ b, b = getB L (k : Int) := ⟨_, rfl⟩
        rw [← hb] at hlk
        have hb2 : L.getD k false = b := by rw [hb, getB_nat]
        rw [hb2] at e
        clear hb hb2
        have hkk : ((k + 1 : Nat) : Int) + -1 = (k : Int) := by omega
        have hkk2 : ((k : Int) + 1) + -1 = (k : Int) := by omega
        cases b
        · rw [if_neg (by decide)] at e
          replace e := Lib.hid e
          go_wp2
          go_round
          case rel => exact ⟨k, m, by go_num, rfl, by omega, hmn, e⟩
          case measure => simp [vInt]; try omega
        · rw [if_pos rfl] at e
          replace e := Lib.hid e
          go_wp2
          go_round
          case rel => exact ⟨k, m - 1, by go_num, by go_num, by omega, by omega, e⟩
          case measure => simp [vInt]; try omega
end
end Go.Proofs.Ytdblmoaimghplaa
