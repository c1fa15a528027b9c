/- The chapter's examples, walked (23). No condition but what the library's variables hold. -/
import Derived.Test.YtfgifjdholdohaaDoorSaG
import Derived.Deep.Cut
namespace Go.Proofs.YtfgifjdholdohaaDoor
set_option linter.unusedVariables false
set_option linter.unusedSimpArgs false
open Go.RowKit

set_option maxHeartbeats 32000000 in
set_option maxRecDepth 100000 in
theorem known_any (w : World) (hw : Std w) : Calls Tryd.prog 12 #[] w fun e w' => e = .returned (.bool true) ∧ Sees w w' := by
  have HW := Lib.hid hw
  clear hw
  have C1 : RowKit.Hid (∀ W, Calls Tryd.prog 14 #[kS.val, kS.val, .int .i64 0] W fun e w' => e = .returned (.bool true) ∧ Sees W w') := fun W => by have h := saves_any kS kS 0 W; rw [kS_ok, if_pos rfl, if_pos rfl, eqSv_self] at h; exact h
  have C2 : RowKit.Hid (∀ W, Calls Tryd.prog 11 #[kS.val, kA.val, kS.val, .int .i64 0] W fun e w' => e = .returned (.bool true) ∧ Sees W w') := fun W => by have h := restores_ok kS kA kS 0 kS_ok kA_right W; rw [kS_resto, eqSv_self] at h; exact h
  have C3 : RowKit.Hid (∀ W, Calls Tryd.prog 11 #[kT.val, kA.val, kW.val, .int .i64 0] W fun e w' => e = .returned (.bool true) ∧ Sees W w') := fun W => by have h := restores_ok kT kA kW 0 kT_ok kA_right W; rw [kT_resto, eqSv_self] at h; exact h
  have C4 : RowKit.Hid (∀ W, Calls Tryd.prog 11 #[kS.val, kB.v, kU.val, .int .i64 0] W fun e w' => e = .returned (.bool true) ∧ Sees W w') := fun W => by have h := restores_ok kS kB kU 0 kS_ok kB_right W; rw [kU_resto, eqSv_self] at h; exact h
  have C5 : RowKit.Hid (∀ W, Std W → Calls Tryd.prog 15 #[kS.val, .string ⟨#[51, 32, 55, 57, 32, 49, 32, 48, 32, 48, 32, 48, 32, 48, 32, 48]⟩, .int .i64 0] W fun e w' => e = .returned (.bool true) ∧ Sees W w') := fun W h0 => by
    have h := texts_ok kS ⟨#[51, 32, 55, 57, 32, 49, 32, 48, 32, 48, 32, 48, 32, 48, 32, 48]⟩ 0 kS_ok kS_fits W h0
    rw [kS_text, Lib.toList_data] at h
    exact h
  have C6 : RowKit.Hid (∀ W, Std W → Calls Tryd.prog 18 #[.string ⟨#[51, 32, 55, 57, 32, 49, 32, 48, 32, 48, 32, 48, 32, 48, 32, 48]⟩, kS.val, .int .i64 0] W fun e w' => e = .returned (.bool true) ∧ Sees W w') := fun W h0 => by
    have h := parses_text kS kS 0 kS_ok kS_fits ⟨#[51, 32, 55, 57, 32, 49, 32, 48, 32, 48, 32, 48, 32, 48, 32, 48]⟩ (by rw [kS_text]) (by decide) W h0
    rw [eqSv_self] at h
    exact h
  have C7 : RowKit.Hid (∀ W, Std W → Calls Tryd.prog 18 #[.string ⟨#[48, 51, 32, 55, 57, 32, 49, 32, 48, 32, 48, 32, 48, 32, 48, 32, 48]⟩, zSv.val, .int .i64 6] W fun e w' => e = .returned (.bool true) ∧ Sees W w') := fun W h0 => by
    have h := parses_none zSv 6 ⟨#[48, 51, 32, 55, 57, 32, 49, 32, 48, 32, 48, 32, 48, 32, 48, 32, 48]⟩ none1 (by decide) W h0
    rw [eqSv_self] at h
    exact h
  have C8 : RowKit.Hid (∀ W, Std W → Calls Tryd.prog 18 #[.string ⟨#[51, 32, 55, 57, 32, 49, 32, 48, 32, 50, 32, 48, 32, 48, 32, 48]⟩, zSv.val, .int .i64 6] W fun e w' => e = .returned (.bool true) ∧ Sees W w') := fun W h0 => by
    have h := parses_none zSv 6 ⟨#[51, 32, 55, 57, 32, 49, 32, 48, 32, 50, 32, 48, 32, 48, 32, 48]⟩ none2 (by decide) W h0
    rw [eqSv_self] at h
    exact h
  have C9 : RowKit.Hid (∀ W, Std W → Calls Tryd.prog 15 #[zSv.val, .string ⟨#[48, 32, 48, 32, 48, 32, 48, 32, 48, 32, 48, 32, 48, 32, 48]⟩, .int .i64 0] W fun e w' => e = .returned (.bool true) ∧ Sees W w') := fun W h0 => by
    have h := texts_ok zSv ⟨#[48, 32, 48, 32, 48, 32, 48, 32, 48, 32, 48, 32, 48, 32, 48]⟩ 0 kZS_ok kZS_fits W h0
    rw [kZ_text, Lib.toList_data] at h
    exact h
  have C10 : RowKit.Hid (∀ W, Calls Tryd.prog 11 #[kS.val, kZ.v, zSv.val, .int .i64 2] W fun e w' => e = .returned (.bool true) ∧ Sees W w') := fun W => by have h := restores_wrong kS kZ zSv 2 kS_ok kZ_right W; rw [eqSv_self] at h; exact h
  have C11 : RowKit.Hid (∀ W, Calls Tryd.prog 8 #[kV.val] W fun e w' => e = .returned (.bool false) ∧ Sees W w') := fun W => by have h := sValid_any kV W; rw [kV_ok] at h; exact h
  have C12 : RowKit.Hid (∀ W, Calls Tryd.prog 8 #[kS.val] W fun e w' => e = .returned (.bool true) ∧ Sees W w') := fun W => by have h := sValid_any kS W; rw [kS_ok] at h; exact h
  have C13 : RowKit.Hid (∀ W, Calls Tryd.prog 29 #[] W fun e w' => e = .returned zSv.val ∧ Sees W w') := fun W => new_any W
  have C14 : RowKit.Hid (∀ W, Calls Tryd.prog 28 #[.agg #[.int .i64 (-1), .int .i64 0, .bool false], .agg #[.int .i64 0, .int .u8 0, .int .u8 0, .int .u8 0, .int .u8 0, .int .i64 0, .int .u8 0, .int .u8 0, .int .u8 0, .int .u8 0, .int .u8 0], .bool false, .agg #[.int .i64 0, .int .i64 0, .int .i64 0]] W fun e w' => e = .returned (.tuple #[zSv.val, .int .i64 2]) ∧ Sees W w') := fun W => save_any ⟨-1, 0, false, 0, 0, 0, 0, 0, 0, 0, 0, 0, 0, 0, false, 0, 0, 0⟩ W
  have C15 := Lib.hid (run_eqSv zSv zSv)
  rw [eqSv_self] at C15
  go_enter Tryd.func12, Tryd.ntmps12
  have Z0 := SvAt.new w zSv
  go_upto_region 2 with (first
    | (refine wpList_val rfl (exec_build_kS rfl rfl) (fun K hK => ?_); go_simp; refine hK _ _ ?_; clear hK K)
    | (refine wpList_val rfl (exec_alloc_sv rfl) (fun K hK => ?_); go_simp; refine hK _ _ ?_; clear hK K)
    | (refine wpList_skip rfl (exec_store (v := kS.val) rfl rfl rfl (run_storeSv Z0 kS)) (fun K hK => ?_); go_simp; refine hK _ _ ?_; clear hK K))
  refine wp_world fun W1 hW1 => ?_
  have A1 : SvAt W1 w.heap.size kS := hW1 ▸ SvAt.stored Z0 kS
  have S1 : Sees w W1 := hW1 ▸ ((Sees.refl w).alloc _).setRow (Nat.le_refl _) _
  clear Z0
  clear hW1
  obtain ⟨p1, hp1⟩ : ∃ p, p = w.heap.size := ⟨_, rfl⟩
  rw [← hp1] at A1
  simp only [← hp1]
  have hp := Lib.hid hp1
  clear hp1
  go_wp2_with (refine wpList_val rfl (exec_load (v := kS.val) rfl rfl (run_loadSv A1)) (fun K hK => ?_); go_simp; refine hK _ _ ?_; clear hK K)
  refine (C1.out _).mono ?_
  rintro e W2 ⟨rfl, s2⟩
  have A2 := A1.sees s2
  have S2 := S1.trans s2
  clear A1 S1 s2
  go_upto_region 5 with fail
  refine wp_world fun W3 hW3 => ?_
  have B3 : ArAt W3 W2.heap.size kA := hW3 ▸ ArAt.new W2 kA
  have s3 : Sees W2 W3 := hW3 ▸ (Sees.refl W2).alloc _
  have A3 := A2.sees s3
  have S3 := S2.trans s3
  have n12 : p1 < W2.heap.size := A2.lt
  clear hW3 A2 S2 s3
  generalize W2.heap.size = p2 at *
  obtain ⟨Q5, hQ5⟩ : ∃ W, W = W3 := ⟨_, rfl⟩
  have B3' := Lib.hid B3
  have A3' := Lib.hid A3
  have S3' := Lib.hid S3
  have N12 := Lib.hid n12
  have hlo := Lib.hid (And.intro A3.lt B3.lt)
  clear hQ5 B3 A3 S3 n12 Q5
  go_cut [3, 4, 5] from 17 to 19 (fun v3 v4 v5 wx => ∃ p3 p4 p5 : Nat, v3 = .pointer (some ⟨p3, 0, none⟩) ∧ v4 = .pointer (some ⟨p4, 0, none⟩) ∧ v5 = .pointer (some ⟨p5, 0, none⟩) ∧ W3.heap.size ≤ p3 ∧ W3.heap.size ≤ p4 ∧ W3.heap.size ≤ p5 ∧ p3 ≠ p4 ∧ p3 ≠ p5 ∧ p4 ≠ p5 ∧ SvAt wx p3 kS ∧ SvAt wx p4 kS ∧ SvAt wx p5 kS ∧ Sees W3 wx)
  case first =>
    (try go_wp2_with fail)
    refine wpH_go (fun _ => False) 9 (by kernel_rfl) (by kernel_rfl) (by rfl) (fun hB w4 hw4 => ?_)
    have hS0 : Keeps (fun _ => False) w4 w4 := Keeps.refl _ w4
    have Hw4 : RowKit.Hid (W3.heap.size ≤ w4.heap.size) := hw4.size
    refine wpH_take (i := 0) (v := kS.val) hB (by rfl) (by kernel_rfl) (fun _ _ _ _ _ h => h) (by rfl) hS0 (fun W hI => exec_load rfl (by go_simp) (run_loadSv (A3'.out.sees (hw4.trans (hI.sees_end (fun _ _ h => h)))))) ?_; (try simp only [Act.put, List.setIfInBounds_toArray, List.set_cons_zero, List.set_cons_succ])
    refine wpH_take (i := 1) (v := kS.val) hB (by rfl) (by kernel_rfl) (fun _ _ _ _ _ h => h) (by rfl) hS0 (fun W hI => exec_load rfl (by go_simp) (run_loadSv (A3'.out.sees (hw4.trans (hI.sees_end (fun _ _ h => h)))))) ?_; (try simp only [Act.put, List.setIfInBounds_toArray, List.set_cons_zero, List.set_cons_succ])
    refine wpH_take (i := 2) (v := kS.val) hB (by rfl) (by kernel_rfl) (fun _ _ _ _ _ h => h) (by rfl) hS0 (fun W hI => exec_load rfl (by go_simp) (run_loadSv (A3'.out.sees (hw4.trans (hI.sees_end (fun _ _ h => h)))))) ?_; (try simp only [Act.put, List.setIfInBounds_toArray, List.set_cons_zero, List.set_cons_succ])
    refine wpH_three (i := 3) (j := 4) (k := 5) (by kernel_rfl) ?_ ?_ ?_
    · obtain ⟨p3, hp3⟩ : ∃ b, b = w4.heap.size := ⟨_, rfl⟩
      obtain ⟨x1, hnew⟩ : ∃ x, x = w4.alloc (.cells zSv.cells 35) := ⟨_, rfl⟩
      have hal : Sees w4 x1 := by rw [hnew]; exact (Sees.refl w4).alloc _
      have T3 : RowKit.Hid (SvAt x1 p3 zSv) := by show SvAt _ _ _; rw [hnew, hp3]; exact SvAt.new _ _
      have G3 : RowKit.Hid (w4.heap.size ≤ p3 ∧ p3 < x1.heap.size) := ⟨by have := hS0.size; omega, T3.out.lt⟩
      have hS0 : Keeps (fun _ => False) w4 x1 := hS0.trans (Keeps.of_sees hal)
      refine wpOp_val (v := .pointer (some ⟨p3, 0, none⟩)) (w' := x1) (by rfl) (wanted_none (by rfl) _) (by rw [hp3, hnew]; exact exec_alloc_sv rfl) ⟨hS0, ?_⟩
      (try simp only [Act.put, List.setIfInBounds_toArray, List.set_cons_zero, List.set_cons_succ])
      clear hnew hp3 hal
      refine wpH_two (i := 4) (j := 5) (by kernel_rfl) ?_ ?_
      · obtain ⟨p4, hp4⟩ : ∃ b, b = x1.heap.size := ⟨_, rfl⟩
        obtain ⟨x2, hnew⟩ : ∃ x, x = x1.alloc (.cells zSv.cells 35) := ⟨_, rfl⟩
        have hal : Sees x1 x2 := by rw [hnew]; exact (Sees.refl x1).alloc _
        have T4 : RowKit.Hid (SvAt x2 p4 zSv) := by show SvAt _ _ _; rw [hnew, hp4]; exact SvAt.new _ _
        have G4 : RowKit.Hid (w4.heap.size ≤ p4 ∧ p4 < x2.heap.size) := ⟨by have := hS0.size; omega, T4.out.lt⟩
        have NE34 : RowKit.Hid (p3 ≠ p4) := by have := G3.out; show _ ≠ _; omega
        have T3 := Lib.hid (T3.out.sees hal)
        have G3 : RowKit.Hid (w4.heap.size ≤ p3 ∧ p3 < x2.heap.size) := ⟨G3.out.1, by have := G3.out.2; have := hal.size; omega⟩
        have hS0 : Keeps (fun _ => False) w4 x2 := hS0.trans (Keeps.of_sees hal)
        refine wpOp_val (v := .pointer (some ⟨p4, 0, none⟩)) (w' := x2) (by rfl) (wanted_none (by rfl) _) (by rw [hp4, hnew]; exact exec_alloc_sv rfl) ⟨hS0, ?_⟩
        (try simp only [Act.put, List.setIfInBounds_toArray, List.set_cons_zero, List.set_cons_succ])
        clear hnew hp4 hal
        obtain ⟨p5, hp5⟩ : ∃ b, b = x2.heap.size := ⟨_, rfl⟩
        obtain ⟨x3, hnew⟩ : ∃ x, x = x2.alloc (.cells zSv.cells 35) := ⟨_, rfl⟩
        have hal : Sees x2 x3 := by rw [hnew]; exact (Sees.refl x2).alloc _
        have T5 : RowKit.Hid (SvAt x3 p5 zSv) := by show SvAt _ _ _; rw [hnew, hp5]; exact SvAt.new _ _
        have G5 : RowKit.Hid (w4.heap.size ≤ p5 ∧ p5 < x3.heap.size) := ⟨by have := hS0.size; omega, T5.out.lt⟩
        have NE35 : RowKit.Hid (p3 ≠ p5) := by have := G3.out; show _ ≠ _; omega
        have T3 := Lib.hid (T3.out.sees hal)
        have G3 : RowKit.Hid (w4.heap.size ≤ p3 ∧ p3 < x3.heap.size) := ⟨G3.out.1, by have := G3.out.2; have := hal.size; omega⟩
        have NE45 : RowKit.Hid (p4 ≠ p5) := by have := G4.out; show _ ≠ _; omega
        have T4 := Lib.hid (T4.out.sees hal)
        have G4 : RowKit.Hid (w4.heap.size ≤ p4 ∧ p4 < x3.heap.size) := ⟨G4.out.1, by have := G4.out.2; have := hal.size; omega⟩
        have hS0 : Keeps (fun _ => False) w4 x3 := hS0.trans (Keeps.of_sees hal)
        refine wpH_one (i := 5) (by kernel_rfl) (wpOp_val (v := .pointer (some ⟨p5, 0, none⟩)) (w' := x3) (by rfl) (wanted_none (by rfl) _) (by rw [hp5, hnew]; exact exec_alloc_sv rfl) ⟨hS0, ?_⟩)
        (try simp only [Act.put, List.setIfInBounds_toArray, List.set_cons_zero, List.set_cons_succ])
        clear hnew hp5 hal
        obtain ⟨x4, hnew⟩ : ∃ x, x = x3.setRow p3 kS.cells := ⟨_, rfl⟩
        have hst : (Instr.storeAt 35 (.pointer (some ⟨p3, 0, none⟩)) kS.val).run Tryd.prog x3 = .ok () x4 := by rw [hnew]; exact run_storeSv T3.out kS
        have hS0 : Keeps (fun _ => False) w4 x4 := by rw [hnew]; exact hS0.setRow' (by have := G3.out; omega) _
        have hsz : x4.heap.size = x3.heap.size := by rw [hnew]; simp [World.setRow]
        have T3n : RowKit.Hid (SvAt x4 p3 kS) := by show SvAt _ _ _; rw [hnew]; exact SvAt.stored T3.out kS
        have G3n : RowKit.Hid (w4.heap.size ≤ p3 ∧ p3 < x4.heap.size) := ⟨G3.out.1, by have := G3.out.2; omega⟩
        have T4n : RowKit.Hid (SvAt x4 p4 zSv) := by show SvAt _ _ _; rw [hnew]; exact T4.out.other (by have := NE34.out; omega) _
        have G4n : RowKit.Hid (w4.heap.size ≤ p4 ∧ p4 < x4.heap.size) := ⟨G4.out.1, by have := G4.out.2; omega⟩
        have T5n : RowKit.Hid (SvAt x4 p5 zSv) := by show SvAt _ _ _; rw [hnew]; exact T5.out.other (by have := NE35.out; omega) _
        have G5n : RowKit.Hid (w4.heap.size ≤ p5 ∧ p5 < x4.heap.size) := ⟨G5.out.1, by have := G5.out.2; omega⟩
        clear T3 T4 T5 G3 G4 G5
        have T3 := T3n
        have G3 := G3n
        have T4 := T4n
        have G4 := G4n
        have T5 := T5n
        have G5 := G5n
        clear T3n T4n T5n G3n G4n G5n
        refine wpH_one (i := 6) (by kernel_rfl) (wpOp_skip (w' := x4) (by rfl) (wanted_none (by rfl) _) (exec_store (a := .pointer (some ⟨p3, 0, none⟩)) (v := kS.val) rfl (by go_simp) (by go_simp) hst) ⟨hS0, ?_⟩)
        (try simp only [Act.put, List.setIfInBounds_toArray, List.set_cons_zero, List.set_cons_succ])
        clear hnew hst hsz
        obtain ⟨x5, hnew⟩ : ∃ x, x = x4.setRow p4 kS.cells := ⟨_, rfl⟩
        have hst : (Instr.storeAt 35 (.pointer (some ⟨p4, 0, none⟩)) kS.val).run Tryd.prog x4 = .ok () x5 := by rw [hnew]; exact run_storeSv T4.out kS
        have hS0 : Keeps (fun _ => False) w4 x5 := by rw [hnew]; exact hS0.setRow' (by have := G4.out; omega) _
        have hsz : x5.heap.size = x4.heap.size := by rw [hnew]; simp [World.setRow]
        have T3n : RowKit.Hid (SvAt x5 p3 kS) := by show SvAt _ _ _; rw [hnew]; exact T3.out.other (by have := NE34.out; omega) _
        have G3n : RowKit.Hid (w4.heap.size ≤ p3 ∧ p3 < x5.heap.size) := ⟨G3.out.1, by have := G3.out.2; omega⟩
        have T4n : RowKit.Hid (SvAt x5 p4 kS) := by show SvAt _ _ _; rw [hnew]; exact SvAt.stored T4.out kS
        have G4n : RowKit.Hid (w4.heap.size ≤ p4 ∧ p4 < x5.heap.size) := ⟨G4.out.1, by have := G4.out.2; omega⟩
        have T5n : RowKit.Hid (SvAt x5 p5 zSv) := by show SvAt _ _ _; rw [hnew]; exact T5.out.other (by have := NE45.out; omega) _
        have G5n : RowKit.Hid (w4.heap.size ≤ p5 ∧ p5 < x5.heap.size) := ⟨G5.out.1, by have := G5.out.2; omega⟩
        clear T3 T4 T5 G3 G4 G5
        have T3 := T3n
        have G3 := G3n
        have T4 := T4n
        have G4 := G4n
        have T5 := T5n
        have G5 := G5n
        clear T3n T4n T5n G3n G4n G5n
        refine wpH_one (i := 7) (by kernel_rfl) (wpOp_skip (w' := x5) (by rfl) (wanted_none (by rfl) _) (exec_store (a := .pointer (some ⟨p4, 0, none⟩)) (v := kS.val) rfl (by go_simp) (by go_simp) hst) ⟨hS0, ?_⟩)
        (try simp only [Act.put, List.setIfInBounds_toArray, List.set_cons_zero, List.set_cons_succ])
        clear hnew hst hsz
        obtain ⟨x6, hnew⟩ : ∃ x, x = x5.setRow p5 kS.cells := ⟨_, rfl⟩
        have hst : (Instr.storeAt 35 (.pointer (some ⟨p5, 0, none⟩)) kS.val).run Tryd.prog x5 = .ok () x6 := by rw [hnew]; exact run_storeSv T5.out kS
        have hS0 : Keeps (fun _ => False) w4 x6 := by rw [hnew]; exact hS0.setRow' (by have := G5.out; omega) _
        have hsz : x6.heap.size = x5.heap.size := by rw [hnew]; simp [World.setRow]
        have T3n : RowKit.Hid (SvAt x6 p3 kS) := by show SvAt _ _ _; rw [hnew]; exact T3.out.other (by have := NE35.out; omega) _
        have G3n : RowKit.Hid (w4.heap.size ≤ p3 ∧ p3 < x6.heap.size) := ⟨G3.out.1, by have := G3.out.2; omega⟩
        have T4n : RowKit.Hid (SvAt x6 p4 kS) := by show SvAt _ _ _; rw [hnew]; exact T4.out.other (by have := NE45.out; omega) _
        have G4n : RowKit.Hid (w4.heap.size ≤ p4 ∧ p4 < x6.heap.size) := ⟨G4.out.1, by have := G4.out.2; omega⟩
        have T5n : RowKit.Hid (SvAt x6 p5 kS) := by show SvAt _ _ _; rw [hnew]; exact SvAt.stored T5.out kS
        have G5n : RowKit.Hid (w4.heap.size ≤ p5 ∧ p5 < x6.heap.size) := ⟨G5.out.1, by have := G5.out.2; omega⟩
        clear T3 T4 T5 G3 G4 G5
        have T3 := T3n
        have G3 := G3n
        have T4 := T4n
        have G4 := G4n
        have T5 := T5n
        have G5 := G5n
        clear T3n T4n T5n G3n G4n G5n
        refine wpH_one (i := 8) (by kernel_rfl) (wpOp_skip (w' := x6) (by rfl) (wanted_none (by rfl) _) (exec_store (a := .pointer (some ⟨p5, 0, none⟩)) (v := kS.val) rfl (by go_simp) (by go_simp) hst) ⟨hS0, ?_⟩)
        (try simp only [Act.put, List.setIfInBounds_toArray, List.set_cons_zero, List.set_cons_succ])
        clear hnew hst hsz
        refine wpH_end (by kernel_rfl) ?_
        go_wp2_with fail
        go_meet
        exact ⟨p3, p4, p5, rfl, rfl, rfl, Nat.le_trans Hw4.out G3.out.1, Nat.le_trans Hw4.out G4.out.1, Nat.le_trans Hw4.out G5.out.1, NE34.out, NE35.out, NE45.out, T3.out, T4.out, T5.out, hw4.trans (hS0.sees_end (fun _ _ h => h))⟩
      · obtain ⟨p5, hp5⟩ : ∃ b, b = x1.heap.size := ⟨_, rfl⟩
        obtain ⟨x7, hnew⟩ : ∃ x, x = x1.alloc (.cells zSv.cells 35) := ⟨_, rfl⟩
        have hal : Sees x1 x7 := by rw [hnew]; exact (Sees.refl x1).alloc _
        have T5 : RowKit.Hid (SvAt x7 p5 zSv) := by show SvAt _ _ _; rw [hnew, hp5]; exact SvAt.new _ _
        have G5 : RowKit.Hid (w4.heap.size ≤ p5 ∧ p5 < x7.heap.size) := ⟨by have := hS0.size; omega, T5.out.lt⟩
        have NE35 : RowKit.Hid (p3 ≠ p5) := by have := G3.out; show _ ≠ _; omega
        have T3 := Lib.hid (T3.out.sees hal)
        have G3 : RowKit.Hid (w4.heap.size ≤ p3 ∧ p3 < x7.heap.size) := ⟨G3.out.1, by have := G3.out.2; have := hal.size; omega⟩
        have hS0 : Keeps (fun _ => False) w4 x7 := hS0.trans (Keeps.of_sees hal)
        refine wpOp_val (v := .pointer (some ⟨p5, 0, none⟩)) (w' := x7) (by rfl) (wanted_none (by rfl) _) (by rw [hp5, hnew]; exact exec_alloc_sv rfl) ⟨hS0, ?_⟩
        (try simp only [Act.put, List.setIfInBounds_toArray, List.set_cons_zero, List.set_cons_succ])
        clear hnew hp5 hal
        obtain ⟨p4, hp4⟩ : ∃ b, b = x7.heap.size := ⟨_, rfl⟩
        obtain ⟨x8, hnew⟩ : ∃ x, x = x7.alloc (.cells zSv.cells 35) := ⟨_, rfl⟩
        have hal : Sees x7 x8 := by rw [hnew]; exact (Sees.refl x7).alloc _
        have T4 : RowKit.Hid (SvAt x8 p4 zSv) := by show SvAt _ _ _; rw [hnew, hp4]; exact SvAt.new _ _
        have G4 : RowKit.Hid (w4.heap.size ≤ p4 ∧ p4 < x8.heap.size) := ⟨by have := hS0.size; omega, T4.out.lt⟩
        have NE34 : RowKit.Hid (p3 ≠ p4) := by have := G3.out; show _ ≠ _; omega
        have T3 := Lib.hid (T3.out.sees hal)
        have G3 : RowKit.Hid (w4.heap.size ≤ p3 ∧ p3 < x8.heap.size) := ⟨G3.out.1, by have := G3.out.2; have := hal.size; omega⟩
        have NE45 : RowKit.Hid (p4 ≠ p5) := by have := G5.out; show _ ≠ _; omega
        have T5 := Lib.hid (T5.out.sees hal)
        have G5 : RowKit.Hid (w4.heap.size ≤ p5 ∧ p5 < x8.heap.size) := ⟨G5.out.1, by have := G5.out.2; have := hal.size; omega⟩
        have hS0 : Keeps (fun _ => False) w4 x8 := hS0.trans (Keeps.of_sees hal)
        refine wpH_one (i := 4) (by kernel_rfl) (wpOp_val (v := .pointer (some ⟨p4, 0, none⟩)) (w' := x8) (by rfl) (wanted_none (by rfl) _) (by rw [hp4, hnew]; exact exec_alloc_sv rfl) ⟨hS0, ?_⟩)
        (try simp only [Act.put, List.setIfInBounds_toArray, List.set_cons_zero, List.set_cons_succ])
        clear hnew hp4 hal
        obtain ⟨x9, hnew⟩ : ∃ x, x = x8.setRow p3 kS.cells := ⟨_, rfl⟩
        have hst : (Instr.storeAt 35 (.pointer (some ⟨p3, 0, none⟩)) kS.val).run Tryd.prog x8 = .ok () x9 := by rw [hnew]; exact run_storeSv T3.out kS
        have hS0 : Keeps (fun _ => False) w4 x9 := by rw [hnew]; exact hS0.setRow' (by have := G3.out; omega) _
        have hsz : x9.heap.size = x8.heap.size := by rw [hnew]; simp [World.setRow]
        have T3n : RowKit.Hid (SvAt x9 p3 kS) := by show SvAt _ _ _; rw [hnew]; exact SvAt.stored T3.out kS
        have G3n : RowKit.Hid (w4.heap.size ≤ p3 ∧ p3 < x9.heap.size) := ⟨G3.out.1, by have := G3.out.2; omega⟩
        have T4n : RowKit.Hid (SvAt x9 p4 zSv) := by show SvAt _ _ _; rw [hnew]; exact T4.out.other (by have := NE34.out; omega) _
        have G4n : RowKit.Hid (w4.heap.size ≤ p4 ∧ p4 < x9.heap.size) := ⟨G4.out.1, by have := G4.out.2; omega⟩
        have T5n : RowKit.Hid (SvAt x9 p5 zSv) := by show SvAt _ _ _; rw [hnew]; exact T5.out.other (by have := NE35.out; omega) _
        have G5n : RowKit.Hid (w4.heap.size ≤ p5 ∧ p5 < x9.heap.size) := ⟨G5.out.1, by have := G5.out.2; omega⟩
        clear T3 T4 T5 G3 G4 G5
        have T3 := T3n
        have G3 := G3n
        have T4 := T4n
        have G4 := G4n
        have T5 := T5n
        have G5 := G5n
        clear T3n T4n T5n G3n G4n G5n
        refine wpH_one (i := 6) (by kernel_rfl) (wpOp_skip (w' := x9) (by rfl) (wanted_none (by rfl) _) (exec_store (a := .pointer (some ⟨p3, 0, none⟩)) (v := kS.val) rfl (by go_simp) (by go_simp) hst) ⟨hS0, ?_⟩)
        (try simp only [Act.put, List.setIfInBounds_toArray, List.set_cons_zero, List.set_cons_succ])
        clear hnew hst hsz
        obtain ⟨x10, hnew⟩ : ∃ x, x = x9.setRow p4 kS.cells := ⟨_, rfl⟩
        have hst : (Instr.storeAt 35 (.pointer (some ⟨p4, 0, none⟩)) kS.val).run Tryd.prog x9 = .ok () x10 := by rw [hnew]; exact run_storeSv T4.out kS
        have hS0 : Keeps (fun _ => False) w4 x10 := by rw [hnew]; exact hS0.setRow' (by have := G4.out; omega) _
        have hsz : x10.heap.size = x9.heap.size := by rw [hnew]; simp [World.setRow]
        have T3n : RowKit.Hid (SvAt x10 p3 kS) := by show SvAt _ _ _; rw [hnew]; exact T3.out.other (by have := NE34.out; omega) _
        have G3n : RowKit.Hid (w4.heap.size ≤ p3 ∧ p3 < x10.heap.size) := ⟨G3.out.1, by have := G3.out.2; omega⟩
        have T4n : RowKit.Hid (SvAt x10 p4 kS) := by show SvAt _ _ _; rw [hnew]; exact SvAt.stored T4.out kS
        have G4n : RowKit.Hid (w4.heap.size ≤ p4 ∧ p4 < x10.heap.size) := ⟨G4.out.1, by have := G4.out.2; omega⟩
        have T5n : RowKit.Hid (SvAt x10 p5 zSv) := by show SvAt _ _ _; rw [hnew]; exact T5.out.other (by have := NE45.out; omega) _
        have G5n : RowKit.Hid (w4.heap.size ≤ p5 ∧ p5 < x10.heap.size) := ⟨G5.out.1, by have := G5.out.2; omega⟩
        clear T3 T4 T5 G3 G4 G5
        have T3 := T3n
        have G3 := G3n
        have T4 := T4n
        have G4 := G4n
        have T5 := T5n
        have G5 := G5n
        clear T3n T4n T5n G3n G4n G5n
        refine wpH_one (i := 7) (by kernel_rfl) (wpOp_skip (w' := x10) (by rfl) (wanted_none (by rfl) _) (exec_store (a := .pointer (some ⟨p4, 0, none⟩)) (v := kS.val) rfl (by go_simp) (by go_simp) hst) ⟨hS0, ?_⟩)
        (try simp only [Act.put, List.setIfInBounds_toArray, List.set_cons_zero, List.set_cons_succ])
        clear hnew hst hsz
        obtain ⟨x11, hnew⟩ : ∃ x, x = x10.setRow p5 kS.cells := ⟨_, rfl⟩
        have hst : (Instr.storeAt 35 (.pointer (some ⟨p5, 0, none⟩)) kS.val).run Tryd.prog x10 = .ok () x11 := by rw [hnew]; exact run_storeSv T5.out kS
        have hS0 : Keeps (fun _ => False) w4 x11 := by rw [hnew]; exact hS0.setRow' (by have := G5.out; omega) _
        have hsz : x11.heap.size = x10.heap.size := by rw [hnew]; simp [World.setRow]
        have T3n : RowKit.Hid (SvAt x11 p3 kS) := by show SvAt _ _ _; rw [hnew]; exact T3.out.other (by have := NE35.out; omega) _
        have G3n : RowKit.Hid (w4.heap.size ≤ p3 ∧ p3 < x11.heap.size) := ⟨G3.out.1, by have := G3.out.2; omega⟩
        have T4n : RowKit.Hid (SvAt x11 p4 kS) := by show SvAt _ _ _; rw [hnew]; exact T4.out.other (by have := NE45.out; omega) _
        have G4n : RowKit.Hid (w4.heap.size ≤ p4 ∧ p4 < x11.heap.size) := ⟨G4.out.1, by have := G4.out.2; omega⟩
        have T5n : RowKit.Hid (SvAt x11 p5 kS) := by show SvAt _ _ _; rw [hnew]; exact SvAt.stored T5.out kS
        have G5n : RowKit.Hid (w4.heap.size ≤ p5 ∧ p5 < x11.heap.size) := ⟨G5.out.1, by have := G5.out.2; omega⟩
        clear T3 T4 T5 G3 G4 G5
        have T3 := T3n
        have G3 := G3n
        have T4 := T4n
        have G4 := G4n
        have T5 := T5n
        have G5 := G5n
        clear T3n T4n T5n G3n G4n G5n
        refine wpH_one (i := 8) (by kernel_rfl) (wpOp_skip (w' := x11) (by rfl) (wanted_none (by rfl) _) (exec_store (a := .pointer (some ⟨p5, 0, none⟩)) (v := kS.val) rfl (by go_simp) (by go_simp) hst) ⟨hS0, ?_⟩)
        (try simp only [Act.put, List.setIfInBounds_toArray, List.set_cons_zero, List.set_cons_succ])
        clear hnew hst hsz
        refine wpH_end (by kernel_rfl) ?_
        go_wp2_with fail
        go_meet
        exact ⟨p3, p4, p5, rfl, rfl, rfl, Nat.le_trans Hw4.out G3.out.1, Nat.le_trans Hw4.out G4.out.1, Nat.le_trans Hw4.out G5.out.1, NE34.out, NE35.out, NE45.out, T3.out, T4.out, T5.out, hw4.trans (hS0.sees_end (fun _ _ h => h))⟩
    · obtain ⟨p4, hp4⟩ : ∃ b, b = w4.heap.size := ⟨_, rfl⟩
      obtain ⟨x12, hnew⟩ : ∃ x, x = w4.alloc (.cells zSv.cells 35) := ⟨_, rfl⟩
      have hal : Sees w4 x12 := by rw [hnew]; exact (Sees.refl w4).alloc _
      have T4 : RowKit.Hid (SvAt x12 p4 zSv) := by show SvAt _ _ _; rw [hnew, hp4]; exact SvAt.new _ _
      have G4 : RowKit.Hid (w4.heap.size ≤ p4 ∧ p4 < x12.heap.size) := ⟨by have := hS0.size; omega, T4.out.lt⟩
      have hS0 : Keeps (fun _ => False) w4 x12 := hS0.trans (Keeps.of_sees hal)
      refine wpOp_val (v := .pointer (some ⟨p4, 0, none⟩)) (w' := x12) (by rfl) (wanted_none (by rfl) _) (by rw [hp4, hnew]; exact exec_alloc_sv rfl) ⟨hS0, ?_⟩
      (try simp only [Act.put, List.setIfInBounds_toArray, List.set_cons_zero, List.set_cons_succ])
      clear hnew hp4 hal
      refine wpH_two (i := 3) (j := 5) (by kernel_rfl) ?_ ?_
      · obtain ⟨p3, hp3⟩ : ∃ b, b = x12.heap.size := ⟨_, rfl⟩
        obtain ⟨x13, hnew⟩ : ∃ x, x = x12.alloc (.cells zSv.cells 35) := ⟨_, rfl⟩
        have hal : Sees x12 x13 := by rw [hnew]; exact (Sees.refl x12).alloc _
        have T3 : RowKit.Hid (SvAt x13 p3 zSv) := by show SvAt _ _ _; rw [hnew, hp3]; exact SvAt.new _ _
        have G3 : RowKit.Hid (w4.heap.size ≤ p3 ∧ p3 < x13.heap.size) := ⟨by have := hS0.size; omega, T3.out.lt⟩
        have NE34 : RowKit.Hid (p3 ≠ p4) := by have := G4.out; show _ ≠ _; omega
        have T4 := Lib.hid (T4.out.sees hal)
        have G4 : RowKit.Hid (w4.heap.size ≤ p4 ∧ p4 < x13.heap.size) := ⟨G4.out.1, by have := G4.out.2; have := hal.size; omega⟩
        have hS0 : Keeps (fun _ => False) w4 x13 := hS0.trans (Keeps.of_sees hal)
        refine wpOp_val (v := .pointer (some ⟨p3, 0, none⟩)) (w' := x13) (by rfl) (wanted_none (by rfl) _) (by rw [hp3, hnew]; exact exec_alloc_sv rfl) ⟨hS0, ?_⟩
        (try simp only [Act.put, List.setIfInBounds_toArray, List.set_cons_zero, List.set_cons_succ])
        clear hnew hp3 hal
        obtain ⟨p5, hp5⟩ : ∃ b, b = x13.heap.size := ⟨_, rfl⟩
        obtain ⟨x14, hnew⟩ : ∃ x, x = x13.alloc (.cells zSv.cells 35) := ⟨_, rfl⟩
        have hal : Sees x13 x14 := by rw [hnew]; exact (Sees.refl x13).alloc _
        have T5 : RowKit.Hid (SvAt x14 p5 zSv) := by show SvAt _ _ _; rw [hnew, hp5]; exact SvAt.new _ _
        have G5 : RowKit.Hid (w4.heap.size ≤ p5 ∧ p5 < x14.heap.size) := ⟨by have := hS0.size; omega, T5.out.lt⟩
        have NE45 : RowKit.Hid (p4 ≠ p5) := by have := G4.out; show _ ≠ _; omega
        have T4 := Lib.hid (T4.out.sees hal)
        have G4 : RowKit.Hid (w4.heap.size ≤ p4 ∧ p4 < x14.heap.size) := ⟨G4.out.1, by have := G4.out.2; have := hal.size; omega⟩
        have NE35 : RowKit.Hid (p3 ≠ p5) := by have := G3.out; show _ ≠ _; omega
        have T3 := Lib.hid (T3.out.sees hal)
        have G3 : RowKit.Hid (w4.heap.size ≤ p3 ∧ p3 < x14.heap.size) := ⟨G3.out.1, by have := G3.out.2; have := hal.size; omega⟩
        have hS0 : Keeps (fun _ => False) w4 x14 := hS0.trans (Keeps.of_sees hal)
        refine wpH_one (i := 5) (by kernel_rfl) (wpOp_val (v := .pointer (some ⟨p5, 0, none⟩)) (w' := x14) (by rfl) (wanted_none (by rfl) _) (by rw [hp5, hnew]; exact exec_alloc_sv rfl) ⟨hS0, ?_⟩)
        (try simp only [Act.put, List.setIfInBounds_toArray, List.set_cons_zero, List.set_cons_succ])
        clear hnew hp5 hal
        obtain ⟨x15, hnew⟩ : ∃ x, x = x14.setRow p3 kS.cells := ⟨_, rfl⟩
        have hst : (Instr.storeAt 35 (.pointer (some ⟨p3, 0, none⟩)) kS.val).run Tryd.prog x14 = .ok () x15 := by rw [hnew]; exact run_storeSv T3.out kS
        have hS0 : Keeps (fun _ => False) w4 x15 := by rw [hnew]; exact hS0.setRow' (by have := G3.out; omega) _
        have hsz : x15.heap.size = x14.heap.size := by rw [hnew]; simp [World.setRow]
        have T3n : RowKit.Hid (SvAt x15 p3 kS) := by show SvAt _ _ _; rw [hnew]; exact SvAt.stored T3.out kS
        have G3n : RowKit.Hid (w4.heap.size ≤ p3 ∧ p3 < x15.heap.size) := ⟨G3.out.1, by have := G3.out.2; omega⟩
        have T4n : RowKit.Hid (SvAt x15 p4 zSv) := by show SvAt _ _ _; rw [hnew]; exact T4.out.other (by have := NE34.out; omega) _
        have G4n : RowKit.Hid (w4.heap.size ≤ p4 ∧ p4 < x15.heap.size) := ⟨G4.out.1, by have := G4.out.2; omega⟩
        have T5n : RowKit.Hid (SvAt x15 p5 zSv) := by show SvAt _ _ _; rw [hnew]; exact T5.out.other (by have := NE35.out; omega) _
        have G5n : RowKit.Hid (w4.heap.size ≤ p5 ∧ p5 < x15.heap.size) := ⟨G5.out.1, by have := G5.out.2; omega⟩
        clear T3 T4 T5 G3 G4 G5
        have T3 := T3n
        have G3 := G3n
        have T4 := T4n
        have G4 := G4n
        have T5 := T5n
        have G5 := G5n
        clear T3n T4n T5n G3n G4n G5n
        refine wpH_one (i := 6) (by kernel_rfl) (wpOp_skip (w' := x15) (by rfl) (wanted_none (by rfl) _) (exec_store (a := .pointer (some ⟨p3, 0, none⟩)) (v := kS.val) rfl (by go_simp) (by go_simp) hst) ⟨hS0, ?_⟩)
        (try simp only [Act.put, List.setIfInBounds_toArray, List.set_cons_zero, List.set_cons_succ])
        clear hnew hst hsz
        obtain ⟨x16, hnew⟩ : ∃ x, x = x15.setRow p4 kS.cells := ⟨_, rfl⟩
        have hst : (Instr.storeAt 35 (.pointer (some ⟨p4, 0, none⟩)) kS.val).run Tryd.prog x15 = .ok () x16 := by rw [hnew]; exact run_storeSv T4.out kS
        have hS0 : Keeps (fun _ => False) w4 x16 := by rw [hnew]; exact hS0.setRow' (by have := G4.out; omega) _
        have hsz : x16.heap.size = x15.heap.size := by rw [hnew]; simp [World.setRow]
        have T3n : RowKit.Hid (SvAt x16 p3 kS) := by show SvAt _ _ _; rw [hnew]; exact T3.out.other (by have := NE34.out; omega) _
        have G3n : RowKit.Hid (w4.heap.size ≤ p3 ∧ p3 < x16.heap.size) := ⟨G3.out.1, by have := G3.out.2; omega⟩
        have T4n : RowKit.Hid (SvAt x16 p4 kS) := by show SvAt _ _ _; rw [hnew]; exact SvAt.stored T4.out kS
        have G4n : RowKit.Hid (w4.heap.size ≤ p4 ∧ p4 < x16.heap.size) := ⟨G4.out.1, by have := G4.out.2; omega⟩
        have T5n : RowKit.Hid (SvAt x16 p5 zSv) := by show SvAt _ _ _; rw [hnew]; exact T5.out.other (by have := NE45.out; omega) _
        have G5n : RowKit.Hid (w4.heap.size ≤ p5 ∧ p5 < x16.heap.size) := ⟨G5.out.1, by have := G5.out.2; omega⟩
        clear T3 T4 T5 G3 G4 G5
        have T3 := T3n
        have G3 := G3n
        have T4 := T4n
        have G4 := G4n
        have T5 := T5n
        have G5 := G5n
        clear T3n T4n T5n G3n G4n G5n
        refine wpH_one (i := 7) (by kernel_rfl) (wpOp_skip (w' := x16) (by rfl) (wanted_none (by rfl) _) (exec_store (a := .pointer (some ⟨p4, 0, none⟩)) (v := kS.val) rfl (by go_simp) (by go_simp) hst) ⟨hS0, ?_⟩)
        (try simp only [Act.put, List.setIfInBounds_toArray, List.set_cons_zero, List.set_cons_succ])
        clear hnew hst hsz
        obtain ⟨x17, hnew⟩ : ∃ x, x = x16.setRow p5 kS.cells := ⟨_, rfl⟩
        have hst : (Instr.storeAt 35 (.pointer (some ⟨p5, 0, none⟩)) kS.val).run Tryd.prog x16 = .ok () x17 := by rw [hnew]; exact run_storeSv T5.out kS
        have hS0 : Keeps (fun _ => False) w4 x17 := by rw [hnew]; exact hS0.setRow' (by have := G5.out; omega) _
        have hsz : x17.heap.size = x16.heap.size := by rw [hnew]; simp [World.setRow]
        have T3n : RowKit.Hid (SvAt x17 p3 kS) := by show SvAt _ _ _; rw [hnew]; exact T3.out.other (by have := NE35.out; omega) _
        have G3n : RowKit.Hid (w4.heap.size ≤ p3 ∧ p3 < x17.heap.size) := ⟨G3.out.1, by have := G3.out.2; omega⟩
        have T4n : RowKit.Hid (SvAt x17 p4 kS) := by show SvAt _ _ _; rw [hnew]; exact T4.out.other (by have := NE45.out; omega) _
        have G4n : RowKit.Hid (w4.heap.size ≤ p4 ∧ p4 < x17.heap.size) := ⟨G4.out.1, by have := G4.out.2; omega⟩
        have T5n : RowKit.Hid (SvAt x17 p5 kS) := by show SvAt _ _ _; rw [hnew]; exact SvAt.stored T5.out kS
        have G5n : RowKit.Hid (w4.heap.size ≤ p5 ∧ p5 < x17.heap.size) := ⟨G5.out.1, by have := G5.out.2; omega⟩
        clear T3 T4 T5 G3 G4 G5
        have T3 := T3n
        have G3 := G3n
        have T4 := T4n
        have G4 := G4n
        have T5 := T5n
        have G5 := G5n
        clear T3n T4n T5n G3n G4n G5n
        refine wpH_one (i := 8) (by kernel_rfl) (wpOp_skip (w' := x17) (by rfl) (wanted_none (by rfl) _) (exec_store (a := .pointer (some ⟨p5, 0, none⟩)) (v := kS.val) rfl (by go_simp) (by go_simp) hst) ⟨hS0, ?_⟩)
        (try simp only [Act.put, List.setIfInBounds_toArray, List.set_cons_zero, List.set_cons_succ])
        clear hnew hst hsz
        refine wpH_end (by kernel_rfl) ?_
        go_wp2_with fail
        go_meet
        exact ⟨p3, p4, p5, rfl, rfl, rfl, Nat.le_trans Hw4.out G3.out.1, Nat.le_trans Hw4.out G4.out.1, Nat.le_trans Hw4.out G5.out.1, NE34.out, NE35.out, NE45.out, T3.out, T4.out, T5.out, hw4.trans (hS0.sees_end (fun _ _ h => h))⟩
      · obtain ⟨p5, hp5⟩ : ∃ b, b = x12.heap.size := ⟨_, rfl⟩
        obtain ⟨x18, hnew⟩ : ∃ x, x = x12.alloc (.cells zSv.cells 35) := ⟨_, rfl⟩
        have hal : Sees x12 x18 := by rw [hnew]; exact (Sees.refl x12).alloc _
        have T5 : RowKit.Hid (SvAt x18 p5 zSv) := by show SvAt _ _ _; rw [hnew, hp5]; exact SvAt.new _ _
        have G5 : RowKit.Hid (w4.heap.size ≤ p5 ∧ p5 < x18.heap.size) := ⟨by have := hS0.size; omega, T5.out.lt⟩
        have NE45 : RowKit.Hid (p4 ≠ p5) := by have := G4.out; show _ ≠ _; omega
        have T4 := Lib.hid (T4.out.sees hal)
        have G4 : RowKit.Hid (w4.heap.size ≤ p4 ∧ p4 < x18.heap.size) := ⟨G4.out.1, by have := G4.out.2; have := hal.size; omega⟩
        have hS0 : Keeps (fun _ => False) w4 x18 := hS0.trans (Keeps.of_sees hal)
        refine wpOp_val (v := .pointer (some ⟨p5, 0, none⟩)) (w' := x18) (by rfl) (wanted_none (by rfl) _) (by rw [hp5, hnew]; exact exec_alloc_sv rfl) ⟨hS0, ?_⟩
        (try simp only [Act.put, List.setIfInBounds_toArray, List.set_cons_zero, List.set_cons_succ])
        clear hnew hp5 hal
        obtain ⟨p3, hp3⟩ : ∃ b, b = x18.heap.size := ⟨_, rfl⟩
        obtain ⟨x19, hnew⟩ : ∃ x, x = x18.alloc (.cells zSv.cells 35) := ⟨_, rfl⟩
        have hal : Sees x18 x19 := by rw [hnew]; exact (Sees.refl x18).alloc _
        have T3 : RowKit.Hid (SvAt x19 p3 zSv) := by show SvAt _ _ _; rw [hnew, hp3]; exact SvAt.new _ _
        have G3 : RowKit.Hid (w4.heap.size ≤ p3 ∧ p3 < x19.heap.size) := ⟨by have := hS0.size; omega, T3.out.lt⟩
        have NE34 : RowKit.Hid (p3 ≠ p4) := by have := G4.out; show _ ≠ _; omega
        have T4 := Lib.hid (T4.out.sees hal)
        have G4 : RowKit.Hid (w4.heap.size ≤ p4 ∧ p4 < x19.heap.size) := ⟨G4.out.1, by have := G4.out.2; have := hal.size; omega⟩
        have NE35 : RowKit.Hid (p3 ≠ p5) := by have := G5.out; show _ ≠ _; omega
        have T5 := Lib.hid (T5.out.sees hal)
        have G5 : RowKit.Hid (w4.heap.size ≤ p5 ∧ p5 < x19.heap.size) := ⟨G5.out.1, by have := G5.out.2; have := hal.size; omega⟩
        have hS0 : Keeps (fun _ => False) w4 x19 := hS0.trans (Keeps.of_sees hal)
        refine wpH_one (i := 3) (by kernel_rfl) (wpOp_val (v := .pointer (some ⟨p3, 0, none⟩)) (w' := x19) (by rfl) (wanted_none (by rfl) _) (by rw [hp3, hnew]; exact exec_alloc_sv rfl) ⟨hS0, ?_⟩)
        (try simp only [Act.put, List.setIfInBounds_toArray, List.set_cons_zero, List.set_cons_succ])
        clear hnew hp3 hal
        obtain ⟨x20, hnew⟩ : ∃ x, x = x19.setRow p3 kS.cells := ⟨_, rfl⟩
        have hst : (Instr.storeAt 35 (.pointer (some ⟨p3, 0, none⟩)) kS.val).run Tryd.prog x19 = .ok () x20 := by rw [hnew]; exact run_storeSv T3.out kS
        have hS0 : Keeps (fun _ => False) w4 x20 := by rw [hnew]; exact hS0.setRow' (by have := G3.out; omega) _
        have hsz : x20.heap.size = x19.heap.size := by rw [hnew]; simp [World.setRow]
        have T3n : RowKit.Hid (SvAt x20 p3 kS) := by show SvAt _ _ _; rw [hnew]; exact SvAt.stored T3.out kS
        have G3n : RowKit.Hid (w4.heap.size ≤ p3 ∧ p3 < x20.heap.size) := ⟨G3.out.1, by have := G3.out.2; omega⟩
        have T4n : RowKit.Hid (SvAt x20 p4 zSv) := by show SvAt _ _ _; rw [hnew]; exact T4.out.other (by have := NE34.out; omega) _
        have G4n : RowKit.Hid (w4.heap.size ≤ p4 ∧ p4 < x20.heap.size) := ⟨G4.out.1, by have := G4.out.2; omega⟩
        have T5n : RowKit.Hid (SvAt x20 p5 zSv) := by show SvAt _ _ _; rw [hnew]; exact T5.out.other (by have := NE35.out; omega) _
        have G5n : RowKit.Hid (w4.heap.size ≤ p5 ∧ p5 < x20.heap.size) := ⟨G5.out.1, by have := G5.out.2; omega⟩
        clear T3 T4 T5 G3 G4 G5
        have T3 := T3n
        have G3 := G3n
        have T4 := T4n
        have G4 := G4n
        have T5 := T5n
        have G5 := G5n
        clear T3n T4n T5n G3n G4n G5n
        refine wpH_one (i := 6) (by kernel_rfl) (wpOp_skip (w' := x20) (by rfl) (wanted_none (by rfl) _) (exec_store (a := .pointer (some ⟨p3, 0, none⟩)) (v := kS.val) rfl (by go_simp) (by go_simp) hst) ⟨hS0, ?_⟩)
        (try simp only [Act.put, List.setIfInBounds_toArray, List.set_cons_zero, List.set_cons_succ])
        clear hnew hst hsz
        obtain ⟨x21, hnew⟩ : ∃ x, x = x20.setRow p4 kS.cells := ⟨_, rfl⟩
        have hst : (Instr.storeAt 35 (.pointer (some ⟨p4, 0, none⟩)) kS.val).run Tryd.prog x20 = .ok () x21 := by rw [hnew]; exact run_storeSv T4.out kS
        have hS0 : Keeps (fun _ => False) w4 x21 := by rw [hnew]; exact hS0.setRow' (by have := G4.out; omega) _
        have hsz : x21.heap.size = x20.heap.size := by rw [hnew]; simp [World.setRow]
        have T3n : RowKit.Hid (SvAt x21 p3 kS) := by show SvAt _ _ _; rw [hnew]; exact T3.out.other (by have := NE34.out; omega) _
        have G3n : RowKit.Hid (w4.heap.size ≤ p3 ∧ p3 < x21.heap.size) := ⟨G3.out.1, by have := G3.out.2; omega⟩
        have T4n : RowKit.Hid (SvAt x21 p4 kS) := by show SvAt _ _ _; rw [hnew]; exact SvAt.stored T4.out kS
        have G4n : RowKit.Hid (w4.heap.size ≤ p4 ∧ p4 < x21.heap.size) := ⟨G4.out.1, by have := G4.out.2; omega⟩
        have T5n : RowKit.Hid (SvAt x21 p5 zSv) := by show SvAt _ _ _; rw [hnew]; exact T5.out.other (by have := NE45.out; omega) _
        have G5n : RowKit.Hid (w4.heap.size ≤ p5 ∧ p5 < x21.heap.size) := ⟨G5.out.1, by have := G5.out.2; omega⟩
        clear T3 T4 T5 G3 G4 G5
        have T3 := T3n
        have G3 := G3n
        have T4 := T4n
        have G4 := G4n
        have T5 := T5n
        have G5 := G5n
        clear T3n T4n T5n G3n G4n G5n
        refine wpH_one (i := 7) (by kernel_rfl) (wpOp_skip (w' := x21) (by rfl) (wanted_none (by rfl) _) (exec_store (a := .pointer (some ⟨p4, 0, none⟩)) (v := kS.val) rfl (by go_simp) (by go_simp) hst) ⟨hS0, ?_⟩)
        (try simp only [Act.put, List.setIfInBounds_toArray, List.set_cons_zero, List.set_cons_succ])
        clear hnew hst hsz
        obtain ⟨x22, hnew⟩ : ∃ x, x = x21.setRow p5 kS.cells := ⟨_, rfl⟩
        have hst : (Instr.storeAt 35 (.pointer (some ⟨p5, 0, none⟩)) kS.val).run Tryd.prog x21 = .ok () x22 := by rw [hnew]; exact run_storeSv T5.out kS
        have hS0 : Keeps (fun _ => False) w4 x22 := by rw [hnew]; exact hS0.setRow' (by have := G5.out; omega) _
        have hsz : x22.heap.size = x21.heap.size := by rw [hnew]; simp [World.setRow]
        have T3n : RowKit.Hid (SvAt x22 p3 kS) := by show SvAt _ _ _; rw [hnew]; exact T3.out.other (by have := NE35.out; omega) _
        have G3n : RowKit.Hid (w4.heap.size ≤ p3 ∧ p3 < x22.heap.size) := ⟨G3.out.1, by have := G3.out.2; omega⟩
        have T4n : RowKit.Hid (SvAt x22 p4 kS) := by show SvAt _ _ _; rw [hnew]; exact T4.out.other (by have := NE45.out; omega) _
        have G4n : RowKit.Hid (w4.heap.size ≤ p4 ∧ p4 < x22.heap.size) := ⟨G4.out.1, by have := G4.out.2; omega⟩
        have T5n : RowKit.Hid (SvAt x22 p5 kS) := by show SvAt _ _ _; rw [hnew]; exact SvAt.stored T5.out kS
        have G5n : RowKit.Hid (w4.heap.size ≤ p5 ∧ p5 < x22.heap.size) := ⟨G5.out.1, by have := G5.out.2; omega⟩
        clear T3 T4 T5 G3 G4 G5
        have T3 := T3n
        have G3 := G3n
        have T4 := T4n
        have G4 := G4n
        have T5 := T5n
        have G5 := G5n
        clear T3n T4n T5n G3n G4n G5n
        refine wpH_one (i := 8) (by kernel_rfl) (wpOp_skip (w' := x22) (by rfl) (wanted_none (by rfl) _) (exec_store (a := .pointer (some ⟨p5, 0, none⟩)) (v := kS.val) rfl (by go_simp) (by go_simp) hst) ⟨hS0, ?_⟩)
        (try simp only [Act.put, List.setIfInBounds_toArray, List.set_cons_zero, List.set_cons_succ])
        clear hnew hst hsz
        refine wpH_end (by kernel_rfl) ?_
        go_wp2_with fail
        go_meet
        exact ⟨p3, p4, p5, rfl, rfl, rfl, Nat.le_trans Hw4.out G3.out.1, Nat.le_trans Hw4.out G4.out.1, Nat.le_trans Hw4.out G5.out.1, NE34.out, NE35.out, NE45.out, T3.out, T4.out, T5.out, hw4.trans (hS0.sees_end (fun _ _ h => h))⟩
    · obtain ⟨p5, hp5⟩ : ∃ b, b = w4.heap.size := ⟨_, rfl⟩
      obtain ⟨x23, hnew⟩ : ∃ x, x = w4.alloc (.cells zSv.cells 35) := ⟨_, rfl⟩
      have hal : Sees w4 x23 := by rw [hnew]; exact (Sees.refl w4).alloc _
      have T5 : RowKit.Hid (SvAt x23 p5 zSv) := by show SvAt _ _ _; rw [hnew, hp5]; exact SvAt.new _ _
      have G5 : RowKit.Hid (w4.heap.size ≤ p5 ∧ p5 < x23.heap.size) := ⟨by have := hS0.size; omega, T5.out.lt⟩
      have hS0 : Keeps (fun _ => False) w4 x23 := hS0.trans (Keeps.of_sees hal)
      refine wpOp_val (v := .pointer (some ⟨p5, 0, none⟩)) (w' := x23) (by rfl) (wanted_none (by rfl) _) (by rw [hp5, hnew]; exact exec_alloc_sv rfl) ⟨hS0, ?_⟩
      (try simp only [Act.put, List.setIfInBounds_toArray, List.set_cons_zero, List.set_cons_succ])
      clear hnew hp5 hal
      refine wpH_two (i := 3) (j := 4) (by kernel_rfl) ?_ ?_
      · obtain ⟨p3, hp3⟩ : ∃ b, b = x23.heap.size := ⟨_, rfl⟩
        obtain ⟨x24, hnew⟩ : ∃ x, x = x23.alloc (.cells zSv.cells 35) := ⟨_, rfl⟩
        have hal : Sees x23 x24 := by rw [hnew]; exact (Sees.refl x23).alloc _
        have T3 : RowKit.Hid (SvAt x24 p3 zSv) := by show SvAt _ _ _; rw [hnew, hp3]; exact SvAt.new _ _
        have G3 : RowKit.Hid (w4.heap.size ≤ p3 ∧ p3 < x24.heap.size) := ⟨by have := hS0.size; omega, T3.out.lt⟩
        have NE35 : RowKit.Hid (p3 ≠ p5) := by have := G5.out; show _ ≠ _; omega
        have T5 := Lib.hid (T5.out.sees hal)
        have G5 : RowKit.Hid (w4.heap.size ≤ p5 ∧ p5 < x24.heap.size) := ⟨G5.out.1, by have := G5.out.2; have := hal.size; omega⟩
        have hS0 : Keeps (fun _ => False) w4 x24 := hS0.trans (Keeps.of_sees hal)
        refine wpOp_val (v := .pointer (some ⟨p3, 0, none⟩)) (w' := x24) (by rfl) (wanted_none (by rfl) _) (by rw [hp3, hnew]; exact exec_alloc_sv rfl) ⟨hS0, ?_⟩
        (try simp only [Act.put, List.setIfInBounds_toArray, List.set_cons_zero, List.set_cons_succ])
        clear hnew hp3 hal
        obtain ⟨p4, hp4⟩ : ∃ b, b = x24.heap.size := ⟨_, rfl⟩
        obtain ⟨x25, hnew⟩ : ∃ x, x = x24.alloc (.cells zSv.cells 35) := ⟨_, rfl⟩
        have hal : Sees x24 x25 := by rw [hnew]; exact (Sees.refl x24).alloc _
        have T4 : RowKit.Hid (SvAt x25 p4 zSv) := by show SvAt _ _ _; rw [hnew, hp4]; exact SvAt.new _ _
        have G4 : RowKit.Hid (w4.heap.size ≤ p4 ∧ p4 < x25.heap.size) := ⟨by have := hS0.size; omega, T4.out.lt⟩
        have NE45 : RowKit.Hid (p4 ≠ p5) := by have := G5.out; show _ ≠ _; omega
        have T5 := Lib.hid (T5.out.sees hal)
        have G5 : RowKit.Hid (w4.heap.size ≤ p5 ∧ p5 < x25.heap.size) := ⟨G5.out.1, by have := G5.out.2; have := hal.size; omega⟩
        have NE34 : RowKit.Hid (p3 ≠ p4) := by have := G3.out; show _ ≠ _; omega
        have T3 := Lib.hid (T3.out.sees hal)
        have G3 : RowKit.Hid (w4.heap.size ≤ p3 ∧ p3 < x25.heap.size) := ⟨G3.out.1, by have := G3.out.2; have := hal.size; omega⟩
        have hS0 : Keeps (fun _ => False) w4 x25 := hS0.trans (Keeps.of_sees hal)
        refine wpH_one (i := 4) (by kernel_rfl) (wpOp_val (v := .pointer (some ⟨p4, 0, none⟩)) (w' := x25) (by rfl) (wanted_none (by rfl) _) (by rw [hp4, hnew]; exact exec_alloc_sv rfl) ⟨hS0, ?_⟩)
        (try simp only [Act.put, List.setIfInBounds_toArray, List.set_cons_zero, List.set_cons_succ])
        clear hnew hp4 hal
        obtain ⟨x26, hnew⟩ : ∃ x, x = x25.setRow p3 kS.cells := ⟨_, rfl⟩
        have hst : (Instr.storeAt 35 (.pointer (some ⟨p3, 0, none⟩)) kS.val).run Tryd.prog x25 = .ok () x26 := by rw [hnew]; exact run_storeSv T3.out kS
        have hS0 : Keeps (fun _ => False) w4 x26 := by rw [hnew]; exact hS0.setRow' (by have := G3.out; omega) _
        have hsz : x26.heap.size = x25.heap.size := by rw [hnew]; simp [World.setRow]
        have T3n : RowKit.Hid (SvAt x26 p3 kS) := by show SvAt _ _ _; rw [hnew]; exact SvAt.stored T3.out kS
        have G3n : RowKit.Hid (w4.heap.size ≤ p3 ∧ p3 < x26.heap.size) := ⟨G3.out.1, by have := G3.out.2; omega⟩
        have T4n : RowKit.Hid (SvAt x26 p4 zSv) := by show SvAt _ _ _; rw [hnew]; exact T4.out.other (by have := NE34.out; omega) _
        have G4n : RowKit.Hid (w4.heap.size ≤ p4 ∧ p4 < x26.heap.size) := ⟨G4.out.1, by have := G4.out.2; omega⟩
        have T5n : RowKit.Hid (SvAt x26 p5 zSv) := by show SvAt _ _ _; rw [hnew]; exact T5.out.other (by have := NE35.out; omega) _
        have G5n : RowKit.Hid (w4.heap.size ≤ p5 ∧ p5 < x26.heap.size) := ⟨G5.out.1, by have := G5.out.2; omega⟩
        clear T3 T4 T5 G3 G4 G5
        have T3 := T3n
        have G3 := G3n
        have T4 := T4n
        have G4 := G4n
        have T5 := T5n
        have G5 := G5n
        clear T3n T4n T5n G3n G4n G5n
        refine wpH_one (i := 6) (by kernel_rfl) (wpOp_skip (w' := x26) (by rfl) (wanted_none (by rfl) _) (exec_store (a := .pointer (some ⟨p3, 0, none⟩)) (v := kS.val) rfl (by go_simp) (by go_simp) hst) ⟨hS0, ?_⟩)
        (try simp only [Act.put, List.setIfInBounds_toArray, List.set_cons_zero, List.set_cons_succ])
        clear hnew hst hsz
        obtain ⟨x27, hnew⟩ : ∃ x, x = x26.setRow p4 kS.cells := ⟨_, rfl⟩
        have hst : (Instr.storeAt 35 (.pointer (some ⟨p4, 0, none⟩)) kS.val).run Tryd.prog x26 = .ok () x27 := by rw [hnew]; exact run_storeSv T4.out kS
        have hS0 : Keeps (fun _ => False) w4 x27 := by rw [hnew]; exact hS0.setRow' (by have := G4.out; omega) _
        have hsz : x27.heap.size = x26.heap.size := by rw [hnew]; simp [World.setRow]
        have T3n : RowKit.Hid (SvAt x27 p3 kS) := by show SvAt _ _ _; rw [hnew]; exact T3.out.other (by have := NE34.out; omega) _
        have G3n : RowKit.Hid (w4.heap.size ≤ p3 ∧ p3 < x27.heap.size) := ⟨G3.out.1, by have := G3.out.2; omega⟩
        have T4n : RowKit.Hid (SvAt x27 p4 kS) := by show SvAt _ _ _; rw [hnew]; exact SvAt.stored T4.out kS
        have G4n : RowKit.Hid (w4.heap.size ≤ p4 ∧ p4 < x27.heap.size) := ⟨G4.out.1, by have := G4.out.2; omega⟩
        have T5n : RowKit.Hid (SvAt x27 p5 zSv) := by show SvAt _ _ _; rw [hnew]; exact T5.out.other (by have := NE45.out; omega) _
        have G5n : RowKit.Hid (w4.heap.size ≤ p5 ∧ p5 < x27.heap.size) := ⟨G5.out.1, by have := G5.out.2; omega⟩
        clear T3 T4 T5 G3 G4 G5
        have T3 := T3n
        have G3 := G3n
        have T4 := T4n
        have G4 := G4n
        have T5 := T5n
        have G5 := G5n
        clear T3n T4n T5n G3n G4n G5n
        refine wpH_one (i := 7) (by kernel_rfl) (wpOp_skip (w' := x27) (by rfl) (wanted_none (by rfl) _) (exec_store (a := .pointer (some ⟨p4, 0, none⟩)) (v := kS.val) rfl (by go_simp) (by go_simp) hst) ⟨hS0, ?_⟩)
        (try simp only [Act.put, List.setIfInBounds_toArray, List.set_cons_zero, List.set_cons_succ])
        clear hnew hst hsz
        obtain ⟨x28, hnew⟩ : ∃ x, x = x27.setRow p5 kS.cells := ⟨_, rfl⟩
        have hst : (Instr.storeAt 35 (.pointer (some ⟨p5, 0, none⟩)) kS.val).run Tryd.prog x27 = .ok () x28 := by rw [hnew]; exact run_storeSv T5.out kS
        have hS0 : Keeps (fun _ => False) w4 x28 := by rw [hnew]; exact hS0.setRow' (by have := G5.out; omega) _
        have hsz : x28.heap.size = x27.heap.size := by rw [hnew]; simp [World.setRow]
        have T3n : RowKit.Hid (SvAt x28 p3 kS) := by show SvAt _ _ _; rw [hnew]; exact T3.out.other (by have := NE35.out; omega) _
        have G3n : RowKit.Hid (w4.heap.size ≤ p3 ∧ p3 < x28.heap.size) := ⟨G3.out.1, by have := G3.out.2; omega⟩
        have T4n : RowKit.Hid (SvAt x28 p4 kS) := by show SvAt _ _ _; rw [hnew]; exact T4.out.other (by have := NE45.out; omega) _
        have G4n : RowKit.Hid (w4.heap.size ≤ p4 ∧ p4 < x28.heap.size) := ⟨G4.out.1, by have := G4.out.2; omega⟩
        have T5n : RowKit.Hid (SvAt x28 p5 kS) := by show SvAt _ _ _; rw [hnew]; exact SvAt.stored T5.out kS
        have G5n : RowKit.Hid (w4.heap.size ≤ p5 ∧ p5 < x28.heap.size) := ⟨G5.out.1, by have := G5.out.2; omega⟩
        clear T3 T4 T5 G3 G4 G5
        have T3 := T3n
        have G3 := G3n
        have T4 := T4n
        have G4 := G4n
        have T5 := T5n
        have G5 := G5n
        clear T3n T4n T5n G3n G4n G5n
        refine wpH_one (i := 8) (by kernel_rfl) (wpOp_skip (w' := x28) (by rfl) (wanted_none (by rfl) _) (exec_store (a := .pointer (some ⟨p5, 0, none⟩)) (v := kS.val) rfl (by go_simp) (by go_simp) hst) ⟨hS0, ?_⟩)
        (try simp only [Act.put, List.setIfInBounds_toArray, List.set_cons_zero, List.set_cons_succ])
        clear hnew hst hsz
        refine wpH_end (by kernel_rfl) ?_
        go_wp2_with fail
        go_meet
        exact ⟨p3, p4, p5, rfl, rfl, rfl, Nat.le_trans Hw4.out G3.out.1, Nat.le_trans Hw4.out G4.out.1, Nat.le_trans Hw4.out G5.out.1, NE34.out, NE35.out, NE45.out, T3.out, T4.out, T5.out, hw4.trans (hS0.sees_end (fun _ _ h => h))⟩
      · obtain ⟨p4, hp4⟩ : ∃ b, b = x23.heap.size := ⟨_, rfl⟩
        obtain ⟨x29, hnew⟩ : ∃ x, x = x23.alloc (.cells zSv.cells 35) := ⟨_, rfl⟩
        have hal : Sees x23 x29 := by rw [hnew]; exact (Sees.refl x23).alloc _
        have T4 : RowKit.Hid (SvAt x29 p4 zSv) := by show SvAt _ _ _; rw [hnew, hp4]; exact SvAt.new _ _
        have G4 : RowKit.Hid (w4.heap.size ≤ p4 ∧ p4 < x29.heap.size) := ⟨by have := hS0.size; omega, T4.out.lt⟩
        have NE45 : RowKit.Hid (p4 ≠ p5) := by have := G5.out; show _ ≠ _; omega
        have T5 := Lib.hid (T5.out.sees hal)
        have G5 : RowKit.Hid (w4.heap.size ≤ p5 ∧ p5 < x29.heap.size) := ⟨G5.out.1, by have := G5.out.2; have := hal.size; omega⟩
        have hS0 : Keeps (fun _ => False) w4 x29 := hS0.trans (Keeps.of_sees hal)
        refine wpOp_val (v := .pointer (some ⟨p4, 0, none⟩)) (w' := x29) (by rfl) (wanted_none (by rfl) _) (by rw [hp4, hnew]; exact exec_alloc_sv rfl) ⟨hS0, ?_⟩
        (try simp only [Act.put, List.setIfInBounds_toArray, List.set_cons_zero, List.set_cons_succ])
        clear hnew hp4 hal
        obtain ⟨p3, hp3⟩ : ∃ b, b = x29.heap.size := ⟨_, rfl⟩
        obtain ⟨x30, hnew⟩ : ∃ x, x = x29.alloc (.cells zSv.cells 35) := ⟨_, rfl⟩
        have hal : Sees x29 x30 := by rw [hnew]; exact (Sees.refl x29).alloc _
        have T3 : RowKit.Hid (SvAt x30 p3 zSv) := by show SvAt _ _ _; rw [hnew, hp3]; exact SvAt.new _ _
        have G3 : RowKit.Hid (w4.heap.size ≤ p3 ∧ p3 < x30.heap.size) := ⟨by have := hS0.size; omega, T3.out.lt⟩
        have NE35 : RowKit.Hid (p3 ≠ p5) := by have := G5.out; show _ ≠ _; omega
        have T5 := Lib.hid (T5.out.sees hal)
        have G5 : RowKit.Hid (w4.heap.size ≤ p5 ∧ p5 < x30.heap.size) := ⟨G5.out.1, by have := G5.out.2; have := hal.size; omega⟩
        have NE34 : RowKit.Hid (p3 ≠ p4) := by have := G4.out; show _ ≠ _; omega
        have T4 := Lib.hid (T4.out.sees hal)
        have G4 : RowKit.Hid (w4.heap.size ≤ p4 ∧ p4 < x30.heap.size) := ⟨G4.out.1, by have := G4.out.2; have := hal.size; omega⟩
        have hS0 : Keeps (fun _ => False) w4 x30 := hS0.trans (Keeps.of_sees hal)
        refine wpH_one (i := 3) (by kernel_rfl) (wpOp_val (v := .pointer (some ⟨p3, 0, none⟩)) (w' := x30) (by rfl) (wanted_none (by rfl) _) (by rw [hp3, hnew]; exact exec_alloc_sv rfl) ⟨hS0, ?_⟩)
        (try simp only [Act.put, List.setIfInBounds_toArray, List.set_cons_zero, List.set_cons_succ])
        clear hnew hp3 hal
        obtain ⟨x31, hnew⟩ : ∃ x, x = x30.setRow p3 kS.cells := ⟨_, rfl⟩
        have hst : (Instr.storeAt 35 (.pointer (some ⟨p3, 0, none⟩)) kS.val).run Tryd.prog x30 = .ok () x31 := by rw [hnew]; exact run_storeSv T3.out kS
        have hS0 : Keeps (fun _ => False) w4 x31 := by rw [hnew]; exact hS0.setRow' (by have := G3.out; omega) _
        have hsz : x31.heap.size = x30.heap.size := by rw [hnew]; simp [World.setRow]
        have T3n : RowKit.Hid (SvAt x31 p3 kS) := by show SvAt _ _ _; rw [hnew]; exact SvAt.stored T3.out kS
        have G3n : RowKit.Hid (w4.heap.size ≤ p3 ∧ p3 < x31.heap.size) := ⟨G3.out.1, by have := G3.out.2; omega⟩
        have T4n : RowKit.Hid (SvAt x31 p4 zSv) := by show SvAt _ _ _; rw [hnew]; exact T4.out.other (by have := NE34.out; omega) _
        have G4n : RowKit.Hid (w4.heap.size ≤ p4 ∧ p4 < x31.heap.size) := ⟨G4.out.1, by have := G4.out.2; omega⟩
        have T5n : RowKit.Hid (SvAt x31 p5 zSv) := by show SvAt _ _ _; rw [hnew]; exact T5.out.other (by have := NE35.out; omega) _
        have G5n : RowKit.Hid (w4.heap.size ≤ p5 ∧ p5 < x31.heap.size) := ⟨G5.out.1, by have := G5.out.2; omega⟩
        clear T3 T4 T5 G3 G4 G5
        have T3 := T3n
        have G3 := G3n
        have T4 := T4n
        have G4 := G4n
        have T5 := T5n
        have G5 := G5n
        clear T3n T4n T5n G3n G4n G5n
        refine wpH_one (i := 6) (by kernel_rfl) (wpOp_skip (w' := x31) (by rfl) (wanted_none (by rfl) _) (exec_store (a := .pointer (some ⟨p3, 0, none⟩)) (v := kS.val) rfl (by go_simp) (by go_simp) hst) ⟨hS0, ?_⟩)
        (try simp only [Act.put, List.setIfInBounds_toArray, List.set_cons_zero, List.set_cons_succ])
        clear hnew hst hsz
        obtain ⟨x32, hnew⟩ : ∃ x, x = x31.setRow p4 kS.cells := ⟨_, rfl⟩
        have hst : (Instr.storeAt 35 (.pointer (some ⟨p4, 0, none⟩)) kS.val).run Tryd.prog x31 = .ok () x32 := by rw [hnew]; exact run_storeSv T4.out kS
        have hS0 : Keeps (fun _ => False) w4 x32 := by rw [hnew]; exact hS0.setRow' (by have := G4.out; omega) _
        have hsz : x32.heap.size = x31.heap.size := by rw [hnew]; simp [World.setRow]
        have T3n : RowKit.Hid (SvAt x32 p3 kS) := by show SvAt _ _ _; rw [hnew]; exact T3.out.other (by have := NE34.out; omega) _
        have G3n : RowKit.Hid (w4.heap.size ≤ p3 ∧ p3 < x32.heap.size) := ⟨G3.out.1, by have := G3.out.2; omega⟩
        have T4n : RowKit.Hid (SvAt x32 p4 kS) := by show SvAt _ _ _; rw [hnew]; exact SvAt.stored T4.out kS
        have G4n : RowKit.Hid (w4.heap.size ≤ p4 ∧ p4 < x32.heap.size) := ⟨G4.out.1, by have := G4.out.2; omega⟩
        have T5n : RowKit.Hid (SvAt x32 p5 zSv) := by show SvAt _ _ _; rw [hnew]; exact T5.out.other (by have := NE45.out; omega) _
        have G5n : RowKit.Hid (w4.heap.size ≤ p5 ∧ p5 < x32.heap.size) := ⟨G5.out.1, by have := G5.out.2; omega⟩
        clear T3 T4 T5 G3 G4 G5
        have T3 := T3n
        have G3 := G3n
        have T4 := T4n
        have G4 := G4n
        have T5 := T5n
        have G5 := G5n
        clear T3n T4n T5n G3n G4n G5n
        refine wpH_one (i := 7) (by kernel_rfl) (wpOp_skip (w' := x32) (by rfl) (wanted_none (by rfl) _) (exec_store (a := .pointer (some ⟨p4, 0, none⟩)) (v := kS.val) rfl (by go_simp) (by go_simp) hst) ⟨hS0, ?_⟩)
        (try simp only [Act.put, List.setIfInBounds_toArray, List.set_cons_zero, List.set_cons_succ])
        clear hnew hst hsz
        obtain ⟨x33, hnew⟩ : ∃ x, x = x32.setRow p5 kS.cells := ⟨_, rfl⟩
        have hst : (Instr.storeAt 35 (.pointer (some ⟨p5, 0, none⟩)) kS.val).run Tryd.prog x32 = .ok () x33 := by rw [hnew]; exact run_storeSv T5.out kS
        have hS0 : Keeps (fun _ => False) w4 x33 := by rw [hnew]; exact hS0.setRow' (by have := G5.out; omega) _
        have hsz : x33.heap.size = x32.heap.size := by rw [hnew]; simp [World.setRow]
        have T3n : RowKit.Hid (SvAt x33 p3 kS) := by show SvAt _ _ _; rw [hnew]; exact T3.out.other (by have := NE35.out; omega) _
        have G3n : RowKit.Hid (w4.heap.size ≤ p3 ∧ p3 < x33.heap.size) := ⟨G3.out.1, by have := G3.out.2; omega⟩
        have T4n : RowKit.Hid (SvAt x33 p4 kS) := by show SvAt _ _ _; rw [hnew]; exact T4.out.other (by have := NE45.out; omega) _
        have G4n : RowKit.Hid (w4.heap.size ≤ p4 ∧ p4 < x33.heap.size) := ⟨G4.out.1, by have := G4.out.2; omega⟩
        have T5n : RowKit.Hid (SvAt x33 p5 kS) := by show SvAt _ _ _; rw [hnew]; exact SvAt.stored T5.out kS
        have G5n : RowKit.Hid (w4.heap.size ≤ p5 ∧ p5 < x33.heap.size) := ⟨G5.out.1, by have := G5.out.2; omega⟩
        clear T3 T4 T5 G3 G4 G5
        have T3 := T3n
        have G3 := G3n
        have T4 := T4n
        have G4 := G4n
        have T5 := T5n
        have G5 := G5n
        clear T3n T4n T5n G3n G4n G5n
        refine wpH_one (i := 8) (by kernel_rfl) (wpOp_skip (w' := x33) (by rfl) (wanted_none (by rfl) _) (exec_store (a := .pointer (some ⟨p5, 0, none⟩)) (v := kS.val) rfl (by go_simp) (by go_simp) hst) ⟨hS0, ?_⟩)
        (try simp only [Act.put, List.setIfInBounds_toArray, List.set_cons_zero, List.set_cons_succ])
        clear hnew hst hsz
        refine wpH_end (by kernel_rfl) ?_
        go_wp2_with fail
        go_meet
        exact ⟨p3, p4, p5, rfl, rfl, rfl, Nat.le_trans Hw4.out G3.out.1, Nat.le_trans Hw4.out G4.out.1, Nat.le_trans Hw4.out G5.out.1, NE34.out, NE35.out, NE45.out, T3.out, T4.out, T5.out, hw4.trans (hS0.sees_end (fun _ _ h => h))⟩
  case rest =>
    obtain ⟨p3, p4, p5, rfl, rfl, rfl, g3, g4, g5, n34, n35, n45, T3, U3, V3, s3⟩ := hcut
    obtain ⟨W4, hW4⟩ : ∃ W4, W4 = wc := ⟨_, rfl⟩
    rw [← hW4] at T3 U3 V3 s3
    subst hW4
    have A4 := A3'.out.sees s3
    have B4 := B3'.out.sees s3
    have S4 := S3'.out.trans s3
    have m1 := hlo.out.1
    have m2 := hlo.out.2
    have m12 := N12.out
    have mp1 := hp.out
    have e13 : p1 ≠ p3 := by omega
    have e23 : p2 ≠ p3 := by omega
    have e14 : p1 ≠ p4 := by omega
    have e24 : p2 ≠ p4 := by omega
    have e15 : p1 ≠ p5 := by omega
    have e25 : p2 ≠ p5 := by omega
    have hw3 : w.heap.size ≤ p3 := by omega
    have hw4 : w.heap.size ≤ p4 := by omega
    have hw5 : w.heap.size ≤ p5 := by omega
    have E := Lib.hid (And.intro e13 (And.intro e23 (And.intro e14 (And.intro e24 (And.intro e15 (And.intro e25 (And.intro n34 (And.intro n35 (And.intro n45 (And.intro hw3 (And.intro hw4 hw5)))))))))))
    have T4 := T3
    have U4 := U3
    have V4 := V3
    clear T3 U3 V3 s3 m1 m2 m12 mp1 e13 e23 e14 e24 e15 e25 n34 n35 n45 hw3 hw4 hw5 g3 g4 g5 A3' B3' S3' N12 hlo hp
    have c14 := T4.cs.2.2.2.2.2.2.2.2.2.2.2.2.2.2.1
    have f14 := frozen_of_row _ _ 14 _ _ T4
    go_upto_region 7 with fail
    refine wp_world fun W5 hW5 => ?_
    have T5 : SvAt W5 p3 kT := hW5 ▸ T4.org' true
    have A5 : SvAt W5 p1 kS := hW5 ▸ A4.off (a := ⟨p3, 14, none⟩) (by have := E.out; dsimp only; omega) (.bool true)
    have B5 : ArAt W5 p2 kA := hW5 ▸ B4.off (a := ⟨p3, 14, none⟩) (by have := E.out; dsimp only; omega) (.bool true)
    have U5 : SvAt W5 p4 kS := hW5 ▸ U4.off (a := ⟨p3, 14, none⟩) (by have := E.out; dsimp only; omega) (.bool true)
    have V5 : SvAt W5 p5 kS := hW5 ▸ V4.off (a := ⟨p3, 14, none⟩) (by have := E.out; dsimp only; omega) (.bool true)
    have S5 : Sees w W5 := hW5 ▸ S4.setCell (p := ⟨p3, 14, none⟩) (by have := E.out; dsimp only; omega) (.bool true)
    clear hW5 T4 A4 B4 U4 V4 S4 c14 f14
    have hz := (Sees.refl W5).alloc (.cells zSv.cells 35)
    have Z6 := SvAt.new W5 zSv
    go_upto_region 8 with (first
      | (refine wpList_val rfl (exec_load (v := kT.val) rfl rfl (run_loadSv T5)) (fun K hK => ?_); go_simp; refine hK _ _ ?_; clear hK K)
      | (refine wpList_skip rfl (exec_store (v := kT.val) rfl rfl rfl (run_storeSv Z6 kT)) (fun K hK => ?_); go_simp; refine hK _ _ ?_; clear hK K))
    refine wp_world fun W6 hW6 => ?_
    have X6 : SvAt W6 W5.heap.size kT := hW6 ▸ SvAt.stored Z6 kT
    have T6 : SvAt W6 p3 kT := hW6 ▸ (T5.sees hz).other (by have := T5.lt; omega) _
    have A6 : SvAt W6 p1 kS := hW6 ▸ (A5.sees hz).other (by have := A5.lt; omega) _
    have B6 : ArAt W6 p2 kA := hW6 ▸ (B5.sees hz).other (by have := B5.lt; omega) _
    have U6 : SvAt W6 p4 kS := hW6 ▸ (U5.sees hz).other (by have := U5.lt; omega) _
    have V6 : SvAt W6 p5 kS := hW6 ▸ (V5.sees hz).other (by have := V5.lt; omega) _
    have S6 : Sees w W6 := hW6 ▸ (S5.alloc _).setRow (by have := S5.size; omega) _
    have E6 := Lib.hid (And.intro T5.lt (And.intro A5.lt (And.intro B5.lt (And.intro U5.lt (And.intro V5.lt S5.size)))))
    clear hW6 hz Z6 T5 A5 B5 U5 V5 S5
    generalize W5.heap.size = p6 at *
    have c0 := X6.cs.1
    have f0 := frozen_of_row _ _ 0 _ _ X6
    go_upto_region 9 with fail
    refine wp_world fun W7 hW7 => ?_
    have X7 : SvAt W7 p6 kW := hW7 ▸ X6.row 5
    have T7 : SvAt W7 p3 kT := hW7 ▸ T6.off (a := ⟨p6, 0, none⟩) (by have := E6.out; dsimp only; omega) (.int .i64 5)
    have A7 : SvAt W7 p1 kS := hW7 ▸ A6.off (a := ⟨p6, 0, none⟩) (by have := E6.out; dsimp only; omega) (.int .i64 5)
    have B7 : ArAt W7 p2 kA := hW7 ▸ B6.off (a := ⟨p6, 0, none⟩) (by have := E6.out; dsimp only; omega) (.int .i64 5)
    have U7 : SvAt W7 p4 kS := hW7 ▸ U6.off (a := ⟨p6, 0, none⟩) (by have := E6.out; dsimp only; omega) (.int .i64 5)
    have V7 : SvAt W7 p5 kS := hW7 ▸ V6.off (a := ⟨p6, 0, none⟩) (by have := E6.out; dsimp only; omega) (.int .i64 5)
    have S7 : Sees w W7 := hW7 ▸ S6.setCell (p := ⟨p6, 0, none⟩) (by have := E6.out; dsimp only; omega) (.int .i64 5)
    clear hW7 X6 T6 A6 B6 U6 V6 S6 c0 f0
    have c0 := U7.cs.1
    have c1 := U7.cs.2.1
    have c2 := U7.cs.2.2.1
    have f0 := fun i => frozen_of_row _ _ i _ _ U7
    go_upto_region 10 with fail
    refine wp_world fun W8 hW8 => ?_
    have U8 : SvAt W8 p4 kU := hW8 ▸ ((U7.row 0).col 79).pend false
    have X8 : SvAt W8 p6 kW := hW8 ▸ ((X7.off (a := ⟨p4, 0, none⟩) (by have := E6.out; dsimp only; omega) (.int .i64 0)).off (a := ⟨p4, 1, none⟩) (by have := E6.out; dsimp only; omega) (.int .i64 79)).off (a := ⟨p4, 2, none⟩) (by have := E6.out; dsimp only; omega) (.bool false)
    have T8 : SvAt W8 p3 kT := hW8 ▸ ((T7.off (a := ⟨p4, 0, none⟩) (by have := E.out; dsimp only; omega) (.int .i64 0)).off (a := ⟨p4, 1, none⟩) (by have := E.out; dsimp only; omega) (.int .i64 79)).off (a := ⟨p4, 2, none⟩) (by have := E.out; dsimp only; omega) (.bool false)
    have A8 : SvAt W8 p1 kS := hW8 ▸ ((A7.off (a := ⟨p4, 0, none⟩) (by have := E.out; dsimp only; omega) (.int .i64 0)).off (a := ⟨p4, 1, none⟩) (by have := E.out; dsimp only; omega) (.int .i64 79)).off (a := ⟨p4, 2, none⟩) (by have := E.out; dsimp only; omega) (.bool false)
    have B8 : ArAt W8 p2 kA := hW8 ▸ ((B7.off (a := ⟨p4, 0, none⟩) (by have := E.out; dsimp only; omega) (.int .i64 0)).off (a := ⟨p4, 1, none⟩) (by have := E.out; dsimp only; omega) (.int .i64 79)).off (a := ⟨p4, 2, none⟩) (by have := E.out; dsimp only; omega) (.bool false)
    have V8 : SvAt W8 p5 kS := hW8 ▸ ((V7.off (a := ⟨p4, 0, none⟩) (by have := E.out; dsimp only; omega) (.int .i64 0)).off (a := ⟨p4, 1, none⟩) (by have := E.out; dsimp only; omega) (.int .i64 79)).off (a := ⟨p4, 2, none⟩) (by have := E.out; dsimp only; omega) (.bool false)
    have S8 : Sees w W8 := hW8 ▸ ((S7.setCell (p := ⟨p4, 0, none⟩) (by have := E.out; dsimp only; omega) (.int .i64 0)).setCell (p := ⟨p4, 1, none⟩) (by have := E.out; dsimp only; omega) (.int .i64 79)).setCell (p := ⟨p4, 2, none⟩) (by have := E.out; dsimp only; omega) (.bool false)
    clear hW8 X7 T7 A7 B7 U7 V7 S7 c0 c1 c2 f0
    have c0 := V8.cs.2.1
    have f0 := frozen_of_row _ _ 1 _ _ V8
    go_upto_region 11 with fail
    refine wp_world fun W9 hW9 => ?_
    have V9 : SvAt W9 p5 kV := hW9 ▸ V8.col 1000
    have X9 : SvAt W9 p6 kW := hW9 ▸ X8.off (a := ⟨p5, 1, none⟩) (by have := E6.out; dsimp only; omega) (.int .i64 1000)
    have T9 : SvAt W9 p3 kT := hW9 ▸ T8.off (a := ⟨p5, 1, none⟩) (by have := E.out; dsimp only; omega) (.int .i64 1000)
    have A9 : SvAt W9 p1 kS := hW9 ▸ A8.off (a := ⟨p5, 1, none⟩) (by have := E.out; dsimp only; omega) (.int .i64 1000)
    have B9 : ArAt W9 p2 kA := hW9 ▸ B8.off (a := ⟨p5, 1, none⟩) (by have := E.out; dsimp only; omega) (.int .i64 1000)
    have U9 : SvAt W9 p4 kU := hW9 ▸ U8.off (a := ⟨p5, 1, none⟩) (by have := E.out; dsimp only; omega) (.int .i64 1000)
    have S9 : Sees w W9 := hW9 ▸ S8.setCell (p := ⟨p5, 1, none⟩) (by have := E.out; dsimp only; omega) (.int .i64 1000)
    clear hW9 X8 T8 A8 B8 U8 V8 S8 c0 f0 E E6
    go_wp2_with (first
      | (refine wpList_val rfl (exec_load (v := kS.val) rfl rfl (run_loadSv A9)) (fun K hK => ?_); go_simp; refine hK _ _ ?_; clear hK K)
      | (refine wpList_val rfl (exec_load (v := kA.val) rfl rfl (run_loadAr B9)) (fun K hK => ?_); go_simp; refine hK _ _ ?_; clear hK K))
    refine (C2.out _).mono ?_
    rintro e W10 ⟨rfl, s10⟩
    have A10 := A9.sees s10
    have B10 := B9.sees s10
    have T10 := T9.sees s10
    have V10 := V9.sees s10
    have U10 := U9.sees s10
    have X10 := X9.sees s10
    have S10 := S9.trans s10
    clear A9 B9 T9 U9 V9 X9 S9 s10
    go_wp2_with (first
      | (refine wpList_valG (by go_simp) (exec_load (v := kT.val) rfl rfl (run_loadSv T10)) (fun K hK => ?_); go_simp; refine hK _ _ ?_; clear hK K)
      | (refine wpList_valG (by go_simp) (exec_load (v := kA.val) rfl rfl (run_loadAr B10)) (fun K hK => ?_); go_simp; refine hK _ _ ?_; clear hK K)
      | (refine wpList_valG (by go_simp) (exec_load (v := kW.val) rfl rfl (run_loadSv X10)) (fun K hK => ?_); go_simp; refine hK _ _ ?_; clear hK K))
    refine (C3.out _).mono ?_
    rintro e W11 ⟨rfl, s11⟩
    have A11 := A10.sees s11
    have V11 := V10.sees s11
    have U11 := U10.sees s11
    have S11 := S10.trans s11
    clear A10 B10 T10 V10 U10 X10 S10 s11
    go_wp2_with (first
      | (refine wpList_valG (by go_simp) (exec_load (v := kS.val) rfl rfl (run_loadSv A11)) (fun K hK => ?_); go_simp; refine hK _ _ ?_; clear hK K)
      | (refine wpList_valG (by go_simp) (exec_load (v := kU.val) rfl rfl (run_loadSv U11)) (fun K hK => ?_); go_simp; refine hK _ _ ?_; clear hK K))
    refine (C4.out _).mono ?_
    rintro e W12 ⟨rfl, s12⟩
    have A12 := A11.sees s12
    have V12 := V11.sees s12
    have S12 := S11.trans s12
    clear A11 V11 U11 S11 s12
    go_wp2_with (first
      | (refine wpList_val rfl (exec_load (v := kS.val) rfl rfl (run_loadSv A12)) (fun K hK => ?_); go_simp; refine hK _ _ ?_; clear hK K))
    refine (C5.out _ (HW.out.sees S12)).mono ?_
    rintro e W13 ⟨rfl, s13⟩
    have A13 := A12.sees s13
    have V13 := V12.sees s13
    have S13 := S12.trans s13
    clear A12 V12 S12 s13
    go_wp2_with (first
      | (refine wpList_valG (by go_simp) (exec_load (v := kS.val) rfl rfl (run_loadSv A13)) (fun K hK => ?_); go_simp; refine hK _ _ ?_; clear hK K))
    refine (C6.out _ (HW.out.sees S13)).mono ?_
    rintro e W14 ⟨rfl, s14⟩
    have A14 := A13.sees s14
    have V14 := V13.sees s14
    have S14 := S13.trans s14
    clear A13 V13 S13 s14
    go_wp2_with (first
      | (refine wpList_valG (by go_simp) (exec_build_zero rfl) (fun K hK => ?_); go_simp; refine hK _ _ ?_; clear hK K))
    refine (C7.out _ (HW.out.sees S14)).mono ?_
    rintro e W15 ⟨rfl, s15⟩
    have A15 := A14.sees s15
    have V15 := V14.sees s15
    have S15 := S14.trans s15
    clear A14 V14 S14 s15
    go_wp2_with (first
      | (refine wpList_valG (by go_simp) (exec_build_zero rfl) (fun K hK => ?_); go_simp; refine hK _ _ ?_; clear hK K))
    refine (C8.out _ (HW.out.sees S15)).mono ?_
    rintro e W16 ⟨rfl, s16⟩
    have A16 := A15.sees s16
    have V16 := V15.sees s16
    have S16 := S15.trans s16
    clear A15 V15 S15 s16
    go_wp2_with fail
    refine (C14.out _).mono ?_
    rintro e W17 ⟨rfl, s17⟩
    have A17 := A16.sees s17
    have V17 := V16.sees s17
    have S17 := S16.trans s17
    clear A16 V16 S16 s17
    have Z17 := SvAt.new W17 zSv
    have hz := (Sees.refl W17).alloc (.cells zSv.cells 35)
    have A18 := (A17.sees hz).other (p := W17.heap.size) (by have := A17.lt; omega) zSv.cells
    have V18 := (V17.sees hz).other (p := W17.heap.size) (by have := V17.lt; omega) zSv.cells
    have S18 := (S17.alloc (.cells zSv.cells 35)).setRow (p := W17.heap.size) (by have := S17.size; omega) zSv.cells
    clear A17 V17 S17 hz
    go_upto_region 16 with (first
      | (refine wpList_skip rfl (exec_store (v := zSv.val) rfl rfl rfl (run_storeSv Z17 zSv)) (fun K hK => ?_); go_simp; refine hK _ _ ?_; clear hK K))
    refine wp_world fun W18 hW18 => ?_
    rw [← hW18] at A18 V18 S18
    clear hW18 Z17
    go_wp2_with fail
    refine (C13.out _).mono ?_
    rintro e W19 ⟨rfl, s19⟩
    have A19 := A18.sees s19
    have V19 := V18.sees s19
    have S19 := S18.trans s19
    clear A18 V18 S18 s19
    go_wp2_with (first
      | (refine wpList_val rfl (exec_build_zero rfl) (fun K hK => ?_); go_simp; refine hK _ _ ?_; clear hK K)
      | (refine wpList_val rfl (exec_bin rfl rfl rfl (guard_eqSv _ _ zSv zSv W19) (C15.out W19)) (fun K hK => ?_); go_simp; refine hK _ _ ?_; clear hK K))
    refine (C13.out _).mono ?_
    rintro e W20 ⟨rfl, s20⟩
    have A20 := A19.sees s20
    have V20 := V19.sees s20
    have S20 := S19.trans s20
    clear A19 V19 S19 s20
    go_wp2_with fail
    refine (C9.out _ (HW.out.sees S20)).mono ?_
    rintro e W21 ⟨rfl, s21⟩
    have A21 := A20.sees s21
    have V21 := V20.sees s21
    have S21 := S20.trans s21
    clear A20 V20 S20 s21
    go_wp2_with (first
      | (refine wpList_valG (by go_simp) (exec_load (v := kS.val) rfl rfl (run_loadSv A21)) (fun K hK => ?_); go_simp; refine hK _ _ ?_; clear hK K)
      | (refine wpList_valG (by go_simp) (exec_build_zero rfl) (fun K hK => ?_); go_simp; refine hK _ _ ?_; clear hK K))
    refine (C10.out _).mono ?_
    rintro e W22 ⟨rfl, s22⟩
    have A22 := A21.sees s22
    have V22 := V21.sees s22
    have S22 := S21.trans s22
    clear A21 V21 S21 s22
    go_wp2_with (first
      | (refine wpList_valG (by go_simp) (exec_load (v := kV.val) rfl rfl (run_loadSv V22)) (fun K hK => ?_); go_simp; refine hK _ _ ?_; clear hK K))
    refine (C11.out _).mono ?_
    rintro e W23 ⟨rfl, s23⟩
    have A23 := A22.sees s23
    have S23 := S22.trans s23
    clear A22 V22 S22 s23
    go_wp2_with (first
      | (refine wpList_valG (by go_simp) (exec_load (v := kS.val) rfl rfl (run_loadSv A23)) (fun K hK => ?_); go_simp; refine hK _ _ ?_; clear hK K))
    refine (C12.out _).mono ?_
    rintro e W24 ⟨rfl, s24⟩
    have S24 := S23.trans s24
    clear A23 S23 s24
    go_wp2
    go_ret
    exact ⟨rfl, S24⟩
end Go.Proofs.YtfgifjdholdohaaDoor
