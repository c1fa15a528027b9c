/- PlaceHolds: the walk. No condition. -/
import Derived.Test.YtoljdfaghomjkaaDoorPlL
import Derived.Test.YtoljdfaghomjkaaDoorPlK
import Derived.Deep.CutRange
namespace Go.Proofs.YtoljdfaghomjkaaDoor
set_option linter.unusedVariables false
set_option linter.unusedSimpArgs false
open Go.RowKit
namespace placeHolds
theorem stR_di {l c m d cols : Int} (h1 : inB l c cols = true) (h2 : inB m d cols = true) : stR l c ((m - l) * cols + d - c) cols = ((m, d), 0) := by
  obtain ⟨a1, a2, a3, a4⟩ := in_ok h1
  obtain ⟨b1, b2, b3, b4⟩ := in_ok h2
  rw [stR_of (q := m - l) (r := d) h1 (by rw [Int.add_mul]; omega) ⟨b3, b4⟩, if_pos (by omega), show l + (m - l) = m by omega]
theorem di_i64 {l c m d cols : Int} (h1 : inB l c cols = true) (h2 : inB m d cols = true) : I64 ((m - l) * cols + d - c) := by
  obtain ⟨a1, a2, a3, a4⟩ := in_ok h1
  obtain ⟨b1, b2, b3, b4⟩ := in_ok h2
  obtain ⟨m1, m2⟩ := mul_both (x := m - l) (n := cols) (by omega) a1
  unfold I64
  omega
set_option maxHeartbeats 16000000 in
set_option maxRecDepth 1000000 in
theorem walk (la ca lb cb lc cc n m first next columns : Int) (w : World) (hst : Std w) (hla : I64 la) (hca : I64 ca) (hlb : I64 lb) (hcb : I64 cb) (hlc : I64 lc) (hcc : I64 cc) (hn : I64 n) (hm : I64 m) (hfi : I64 first) (hne : I64 next) (hco : I64 columns) :
    Calls Tryd.prog 7 #[pl la ca, pl lb cb, pl lc cc, .int .i64 n, .int .i64 m, .int .i64 first, .int .i64 next, .int .i64 columns] w fun e w' => e = .returned (.bool true) ∧ Sees w w' := by
  have hw := Sees.refl w
  have Hhn := Lib.hid hn
  have Hhm := Lib.hid hm
  have Hla := Lib.hid hla
  have Hca := Lib.hid hca
  clear hn hm hla hca hlb hcb hlc hcc hfi hne hco
  obtain ⟨k, hk⟩ : ∃ k, k = cmpP la ca lb cb := ⟨_, rfl⟩
  have HK := Lib.hid (compare_c la ca lb cb k hk.symm)
  have HK2 := Lib.hid (compare_c lb cb la ca (-k) (by rw [c_neg la ca lb cb, hk]))
  have Hk := Lib.hid hk
  have kv : k = -1 ∨ k = 0 ∨ k = 1 := by rw [hk]; exact c_vals _ _ _ _
  have Hkv := Lib.hid kv
  have kb : -1 ≤ k ∧ k ≤ 1 := by omega
  obtain ⟨kb1, kb2⟩ := kb
  clear hk kv
  go_enter Tryd.func7, Tryd.ntmps7
  go_wp2_with fail
  refine calls_world (fun w0 hw0 => ?_)
  have hS0 : Sees w w0 := by rw [hw0]; exact ((hw.alloc _).alloc _).alloc _
  have hz1 : (w.alloc (.cells #[.int .i64 la, .int .i64 ca] 23)).heap.size = w.heap.size + 1 := by simp
  have hz2 : ((w.alloc (.cells #[.int .i64 la, .int .i64 ca] 23)).alloc (.cells #[.int .i64 lb, .int .i64 cb] 23)).heap.size = w.heap.size + 1 + 1 := by simp
  have A0 : PlAt w0 w.heap.size la ca := by rw [hw0]; exact ((PlAt.new w la ca).sees ((Sees.refl _).alloc _)).sees ((Sees.refl _).alloc _)
  have B0 : PlAt w0 (w.heap.size + 1) lb cb := by rw [hw0, ← hz1]; exact (PlAt.new _ lb cb).sees ((Sees.refl _).alloc _)
  have C0 : PlAt w0 (w.heap.size + 1 + 1) lc cc := by rw [hw0, ← hz2]; exact PlAt.new _ lc cc
  clear hz1 hz2 hw0
  obtain ⟨a0, a1⟩ := A0.cs
  obtain ⟨b0, b1⟩ := B0.cs
  obtain ⟨z0, z1⟩ := C0.cs
  refine (HK.out _).mono ?_
  rintro e w1 ⟨rfl, s⟩
  have hS1 := hS0.trans s
  have A1 := A0.sees s
  have B1 := B0.sees s
  have C1 := C0.sees s
  clear s A0 B0 C0 hS0 a0 a1 b0 b1 z0 z1
  obtain ⟨a0, a1⟩ := A1.cs
  obtain ⟨b0, b1⟩ := B1.cs
  obtain ⟨z0, z1⟩ := C1.cs
  go_upto_region 2 with fail
  go_cut [62] from 33 to 62 (fun s62 wx => s62 = .bool false ∧ Sees w1 wx)
  case first =>
    obtain ⟨j1, hj1⟩ : ∃ j, j = cmpP lb cb lc cc := ⟨_, rfl⟩
    obtain ⟨j2, hj2⟩ : ∃ j, j = cmpP la ca lc cc := ⟨_, rfl⟩
    have HJ1 := Lib.hid (compare_c lb cb lc cc j1 hj1.symm)
    have HJ2 := Lib.hid (compare_c la ca lc cc j2 hj2.symm)
    have hjj : k ≤ 0 → j1 ≤ 0 → j2 ≤ 0 := by rw [Hk.out, hj1, hj2]; exact c_trans
    have hcase : (k = -1 ∧ (la == lb) = false) ∨ (k = -1 ∧ (la == lb) = true ∧ (ca == cb) = false) ∨ (k = 0 ∧ (la == lb) = true ∧ (ca == cb) = true) ∨ (k = 1 ∧ (la == lb) = false) ∨ (k = 1 ∧ (la == lb) = true ∧ (ca == cb) = false) := by
      have e1 := c_lt la ca lb cb
      have e2 := c_gt la ca lb cb
      rw [← Hk.out] at e1 e2
      simp only [beq_eq_false_iff_ne, beq_iff_eq]
      have := Hkv.out
      omega
    clear hj1 hj2
    have hjc : (decide (j1 ≤ 0) = true ∧ (k ≤ 0 → decide (j2 > 0) = false)) ∨ decide (j1 ≤ 0) = false := by
      by_cases h : j1 ≤ 0
      · exact .inl ⟨decide_eq_true h, fun h' => decide_eq_false (by have := hjj h' h; omega)⟩
      · exact .inr (decide_eq_false h)
    clear hjj Hk Hkv
    have HA := Lib.hid A1
    have HB := Lib.hid B1
    have HC := Lib.hid C1
    have hcs : ∀ W, Sees w1 W → (W.cell? ⟨w.heap.size, 0, none⟩ = some (.int .i64 la) ∧ W.cell? ⟨w.heap.size, 1, none⟩ = some (.int .i64 ca)) ∧ (W.cell? ⟨w.heap.size + 1, 0, none⟩ = some (.int .i64 lb) ∧ W.cell? ⟨w.heap.size + 1, 1, none⟩ = some (.int .i64 cb)) ∧ W.cell? ⟨w.heap.size + 1 + 1, 0, none⟩ = some (.int .i64 lc) ∧ W.cell? ⟨w.heap.size + 1 + 1, 1, none⟩ = some (.int .i64 cc) :=
      fun W h => ⟨(HA.out.sees h).cs, (HB.out.sees h).cs, (HC.out.sees h).cs⟩
    have Hcs := Lib.hid hcs
    clear hcs HA HB HC A1 B1 C1 hS1 HK kb1 kb2
    rcases hcase with ⟨rfl, e1⟩ | ⟨rfl, e1, e2⟩ | ⟨rfl, e1, e2⟩ | ⟨rfl, e1⟩ | ⟨rfl, e1, e2⟩
    · go_wp2_with fail
      refine (HK2.out _).mono ?_
      rintro e w2 ⟨rfl, s2⟩
      clear a0 a1 b0 b1 z0 z1
      obtain ⟨⟨a0, a1⟩, ⟨b0, b1⟩, z0, z1⟩ := Hcs.out _ s2
      go_wp2_with fail
      refine (HJ1.out _).mono ?_
      rintro e w3 ⟨rfl, s3⟩
      have s3' := s2.trans s3
      clear s3 a0 a1 b0 b1 z0 z1
      obtain ⟨⟨a0, a1⟩, ⟨b0, b1⟩, z0, z1⟩ := Hcs.out _ s3'
      rcases hjc with ⟨hj1, hj2⟩ | hj1
      · have hj3 := hj2 (by decide)
        clear hj2
        go_wp2_with fail
        refine (HJ2.out _).mono ?_
        rintro e w4 ⟨rfl, s4⟩
        have s4' := s3'.trans s4
        clear s4 a0 a1 b0 b1 z0 z1
        go_wp2_with fail
        go_meet
        exact ⟨rfl, s4'⟩
      · go_wp2_with fail
        go_meet
        exact ⟨rfl, s3'⟩
    · go_wp2_with fail
      refine (HK2.out _).mono ?_
      rintro e w2 ⟨rfl, s2⟩
      clear a0 a1 b0 b1 z0 z1
      obtain ⟨⟨a0, a1⟩, ⟨b0, b1⟩, z0, z1⟩ := Hcs.out _ s2
      go_wp2_with fail
      refine (HJ1.out _).mono ?_
      rintro e w3 ⟨rfl, s3⟩
      have s3' := s2.trans s3
      clear s3 a0 a1 b0 b1 z0 z1
      obtain ⟨⟨a0, a1⟩, ⟨b0, b1⟩, z0, z1⟩ := Hcs.out _ s3'
      rcases hjc with ⟨hj1, hj2⟩ | hj1
      · have hj3 := hj2 (by decide)
        clear hj2
        go_wp2_with fail
        refine (HJ2.out _).mono ?_
        rintro e w4 ⟨rfl, s4⟩
        have s4' := s3'.trans s4
        clear s4 a0 a1 b0 b1 z0 z1
        go_wp2_with fail
        go_meet
        exact ⟨rfl, s4'⟩
      · go_wp2_with fail
        go_meet
        exact ⟨rfl, s3'⟩
    · go_wp2_with fail
      refine (HK2.out _).mono ?_
      rintro e w2 ⟨rfl, s2⟩
      clear a0 a1 b0 b1 z0 z1
      obtain ⟨⟨a0, a1⟩, ⟨b0, b1⟩, z0, z1⟩ := Hcs.out _ s2
      go_wp2_with fail
      refine (HJ1.out _).mono ?_
      rintro e w3 ⟨rfl, s3⟩
      have s3' := s2.trans s3
      clear s3 a0 a1 b0 b1 z0 z1
      obtain ⟨⟨a0, a1⟩, ⟨b0, b1⟩, z0, z1⟩ := Hcs.out _ s3'
      rcases hjc with ⟨hj1, hj2⟩ | hj1
      · have hj3 := hj2 (by decide)
        clear hj2
        go_wp2_with fail
        refine (HJ2.out _).mono ?_
        rintro e w4 ⟨rfl, s4⟩
        have s4' := s3'.trans s4
        clear s4 a0 a1 b0 b1 z0 z1
        go_wp2_with fail
        go_meet
        exact ⟨rfl, s4'⟩
      · go_wp2_with fail
        go_meet
        exact ⟨rfl, s3'⟩
    · go_wp2_with fail
      refine (HK2.out _).mono ?_
      rintro e w2 ⟨rfl, s2⟩
      clear a0 a1 b0 b1 z0 z1
      obtain ⟨⟨a0, a1⟩, ⟨b0, b1⟩, z0, z1⟩ := Hcs.out _ s2
      go_wp2_with fail
      go_meet
      exact ⟨rfl, s2⟩
    · go_wp2_with fail
      refine (HK2.out _).mono ?_
      rintro e w2 ⟨rfl, s2⟩
      clear a0 a1 b0 b1 z0 z1
      obtain ⟨⟨a0, a1⟩, ⟨b0, b1⟩, z0, z1⟩ := Hcs.out _ s2
      go_wp2_with fail
      go_meet
      exact ⟨rfl, s2⟩
  case rest =>
  obtain ⟨rfl, s⟩ := hcut
  have hS2 := hS1.trans s
  have A2 := A1.sees s
  have B2 := B1.sees s
  have C2 := C1.sees s
  clear s A1 B1 C1 hS1 a0 a1 b0 b1 z0 z1
  obtain ⟨a0, a1⟩ := A2.cs
  obtain ⟨b0, b1⟩ := B2.cs
  obtain ⟨z0, z1⟩ := C2.cs
  obtain ⟨dd, hdd⟩ : ∃ x, x = diR la ca lb cb columns := ⟨_, rfl⟩
  have HD := Lib.hid (distance_any la ca lb cb columns)
  rw [← hdd] at HD
  obtain ⟨dd, ee⟩ := dd
  have hDE : ee = 2 ∨ (ee = 0 ∧ I64 dd ∧ stR la ca dd columns = ((lb, cb), 0) ∧ (dd > 0 ↔ k < 0) ∧ (dd = 0 ↔ k = 0)) := by
    unfold diR at hdd
    split at hdd
    · rename_i h
      simp only [Prod.mk.injEq] at hdd
      obtain ⟨h1, h2⟩ := di_sign h.1 h.2
      obtain ⟨rfl, rfl⟩ := hdd
      exact .inr ⟨rfl, di_i64 h.1 h.2, stR_di h.1 h.2, by rw [Hk.out]; exact h1, by rw [Hk.out]; exact h2⟩
    · simp only [Prod.mk.injEq] at hdd
      exact .inl hdd.2
  clear hdd
  go_wp2_with fail
  refine (HD.out _).mono ?_
  rintro e w3 ⟨rfl, s⟩
  have hS3 := hS2.trans s
  have A3 := A2.sees s
  have B3 := B2.sees s
  have C3 := C2.sees s
  clear s A2 B2 C2 hS2 a0 a1 b0 b1 z0 z1
  obtain ⟨a0, a1⟩ := A3.cs
  obtain ⟨b0, b1⟩ := B3.cs
  obtain ⟨z0, z1⟩ := C3.cs
  go_upto_region 5 with fail
  go_cut [93] from 70 to 93 (fun s93 wx => s93 = .bool false ∧ Sees w3 wx)
  case first =>
    rcases hDE with rfl | ⟨rfl, hi, hs, hg, hz⟩
    · go_wp2_with fail
      go_meet
      exact ⟨rfl, Sees.refl _⟩
    · have HT := Lib.hid (steps_true la ca dd columns lb cb 0 hi hs)
      have kv := Hkv.out
      clear hi hs HK HK2 HD Hkv Hk
      rcases kv with rfl | rfl | rfl
      · have t1 : decide (dd > 0) = true := decide_eq_true (by omega)
        have t1' : decide (0 < dd) = true := decide_eq_true (by omega)
        have t2 : (dd == 0) = false := by rw [beq_eq_false_iff_ne]; omega
        clear hg hz
        go_wp2_with fail
        refine (HT.out _).mono ?_
        rintro e w4 ⟨rfl, s4⟩
        go_wp2_with fail
        go_meet
        exact ⟨rfl, s4⟩
      · have t1 : decide (dd > 0) = false := decide_eq_false (by omega)
        have t1' : decide (0 < dd) = false := decide_eq_false (by omega)
        have t2 : (dd == 0) = true := by rw [beq_iff_eq]; omega
        clear hg hz
        go_wp2_with fail
        refine (HT.out _).mono ?_
        rintro e w4 ⟨rfl, s4⟩
        go_wp2_with fail
        go_meet
        exact ⟨rfl, s4⟩
      · have t1 : decide (dd > 0) = false := decide_eq_false (by omega)
        have t1' : decide (0 < dd) = false := decide_eq_false (by omega)
        have t2 : (dd == 0) = false := by rw [beq_eq_false_iff_ne]; omega
        clear hg hz
        go_wp2_with fail
        refine (HT.out _).mono ?_
        rintro e w4 ⟨rfl, s4⟩
        go_wp2_with fail
        go_meet
        exact ⟨rfl, s4⟩
  case rest =>
  obtain ⟨rfl, s⟩ := hcut
  have hS4 := hS3.trans s
  have A4 := A3.sees s
  have B4 := B3.sees s
  have C4 := C3.sees s
  clear s A3 B3 C3 hS3 a0 a1 b0 b1 z0 z1
  obtain ⟨a0, a1⟩ := A4.cs
  obtain ⟨b0, b1⟩ := B4.cs
  obtain ⟨z0, z1⟩ := C4.cs
  clear hDE HD
  rename_i wd
  go_upto_region 7 with fail
  obtain ⟨zb, hzb⟩ : ∃ z, z = (decide (n ≥ -1073741824) && decide (n ≤ 1073741824) && decide (m ≥ -1073741824) && decide (m ≤ 1073741824)) := ⟨_, rfl⟩
  have Hzb := Lib.hid hzb
  clear hzb
  go_cut [107] from 94 to 107 (fun s107 wx => s107 = .bool zb ∧ Sees wc wx)
  case first =>
    have hs := Sees.refl wc
    have g1 : decide (-1073741824 ≤ n) = decide (n ≥ -1073741824) := rfl
    have g3 : decide (-1073741824 ≤ m) = decide (m ≥ -1073741824) := rfl
    clear HK HK2 Hk Hkv
    cases h1 : decide (n ≥ -1073741824) with
    | false =>
      rw [h1] at g1
      go_wp2_with fail
      go_meet
      exact ⟨by rw [Hzb.out, h1]; simp, hs⟩
    | true =>
    rw [h1] at g1
    cases h2 : decide (n ≤ 1073741824) with
    | false =>
      go_wp2_with fail
      go_meet
      exact ⟨by rw [Hzb.out, h2]; simp, hs⟩
    | true =>
    cases h3 : decide (m ≥ -1073741824) with
    | false =>
      rw [h3] at g3
      go_wp2_with fail
      go_meet
      exact ⟨by rw [Hzb.out, h3]; simp, hs⟩
    | true =>
    rw [h3] at g3
    cases h4 : decide (m ≤ 1073741824) with
    | false =>
      go_wp2_with fail
      go_meet
      exact ⟨by rw [Hzb.out, h4]; simp, hs⟩
    | true =>
      go_wp2_with fail
      go_meet
      exact ⟨by rw [Hzb.out, h1, h2, h3, h4]; simp, hs⟩
  case rest =>
  obtain ⟨rfl, s⟩ := hcut
  have hS5 := hS4.trans s
  have A5 := A4.sees s
  have B5 := B4.sees s
  have C5 := C4.sees s
  clear s A4 B4 C4 hS4 a0 a1 b0 b1 z0 z1
  obtain ⟨a0, a1⟩ := A5.cs
  obtain ⟨b0, b1⟩ := B5.cs
  obtain ⟨z0, z1⟩ := C5.cs
  go_upto_if 107 with fail
  go_cut [] from 108 to 132 (fun wx => Sees wc wx)
  case first =>
    have hs := Sees.refl wc
    cases zb with
    | false =>
      go_wp2_with fail
      go_meet
      exact hs
    | true =>
      have hb : -1073741824 ≤ n ∧ n ≤ 1073741824 ∧ -1073741824 ≤ m ∧ m ≤ 1073741824 := by
        have := Hzb.out
        simp at this
        omega
      obtain ⟨hb1, hb2, hb3, hb4⟩ := hb
      clear Hzb HK HK2 Hk Hkv
      obtain ⟨r1, hr1⟩ : ∃ r, r = stR la ca n columns := ⟨_, rfl⟩
      have HS1 := Lib.hid (step_any la ca n columns Hhn.out)
      rw [← hr1] at HS1
      have he := stR_no la ca n columns
      rw [← hr1] at he
      obtain ⟨⟨x1, y1⟩, e1⟩ := r1
      simp only at he
      obtain ⟨r2, hr2⟩ : ∃ r, r = stR x1 y1 m columns := ⟨_, rfl⟩
      have HS2 := Lib.hid (step_any x1 y1 m columns Hhm.out)
      rw [← hr2] at HS2
      obtain ⟨⟨x2, y2⟩, e2⟩ := r2
      have HT : Hid (e1 = 0 → ∀ W, Calls Tryd.prog 18 #[pl la ca, .int .i64 (n + m), .int .i64 columns, pl x2 y2, .int .i64 e2] W fun e w' => e = .returned (.bool true) ∧ Sees W w') :=
        Lib.hid fun h0 W => steps_true la ca (n + m) columns x2 y2 e2 (by unfold I64; omega) (by subst h0; rw [stR_add hr1.symm, hr2]) W
      clear hr1 hr2
      go_wp2_with fail
      refine (HS1.out _).mono ?_
      rintro e w6 ⟨rfl, s6⟩
      have A6 := A5.sees s6
      clear a0 a1 b0 b1 z0 z1
      rcases he with rfl | rfl | rfl
      · have HT2 := Lib.hid (HT.out rfl)
        clear HT
        go_wp2_with fail
        refine (HS2.out _).mono ?_
        rintro e w7 ⟨rfl, s7⟩
        have A7 := (A6.sees ((Sees.refl _).alloc _)).sees s7
        have hl := A7.lt
        obtain ⟨a0, a1⟩ := A7.cs
        have s7' := (s6.alloc _).trans s7
        clear s7 s6
        go_wp2_with fail
        refine (HT2.out _).mono ?_
        rintro e w8 ⟨rfl, s8⟩
        have s8' := (s7'.alloc _).trans s8
        go_wp2_with fail
        go_meet
        exact s8'
      · go_wp2_with fail
        go_meet
        exact s6.alloc _
      · go_wp2_with fail
        go_meet
        exact s6.alloc _
  case rest =>
  have s := hcut
  clear hcut
  have hS6 := hS5.trans s
  have A6 := A5.sees s
  have B6 := B5.sees s
  have C6 := C5.sees s
  clear s A5 B5 C5 hS5 a0 a1 b0 b1 z0 z1
  obtain ⟨a0, a1⟩ := A6.cs
  obtain ⟨b0, b1⟩ := B6.cs
  obtain ⟨z0, z1⟩ := C6.cs
  obtain ⟨r1, hr1⟩ : ∃ r, r = clR la ca first next columns := ⟨_, rfl⟩
  obtain ⟨r2, hr2⟩ : ∃ r, r = clR lb cb first next columns := ⟨_, rfl⟩
  have HC1 := Lib.hid (clamp_r la ca first next columns)
  have HC2 := Lib.hid (clamp_r lb cb first next columns)
  rw [← hr1] at HC1
  rw [← hr2] at HC2
  obtain ⟨⟨p1, q1⟩, f1⟩ := r1
  obtain ⟨⟨p2, q2⟩, f2⟩ := r2
  have hcl : Hid ((f1 = 2 ∧ f2 = 2) ∨ (f1 = 0 ∧ f2 = 0 ∧ (k ≤ 0 → cmpP p1 q1 p2 q2 ≤ 0) ∧ (first ≤ p1 ∧ p1 < next ∧ 0 ≤ q1 ∧ q1 < columns) ∧ (first ≤ la → la < next → 0 ≤ ca → ca < columns → p1 = la ∧ q1 = ca))) := by
    refine Lib.hid ?_
    unfold clR at hr1 hr2
    by_cases hbad : clBad first next columns = true
    · rw [if_pos hbad] at hr1 hr2
      simp only [Prod.mk.injEq] at hr1 hr2
      exact .inl ⟨hr1.2, hr2.2⟩
    · rw [if_neg hbad] at hr1 hr2
      have hbad' : clBad first next columns = false := by simpa using hbad
      simp only [Prod.mk.injEq] at hr1 hr2
      obtain ⟨⟨rfl, rfl⟩, rfl⟩ := hr1
      obtain ⟨⟨rfl, rfl⟩, rfl⟩ := hr2
      exact .inr ⟨rfl, rfl, fun h => cl_mono hbad' (by rw [← Hk.out]; exact h), cl_in hbad', cl_same⟩
  clear hr1 hr2 Hzb HK HK2
  go_wp2_with fail
  refine (HC1.out _).mono ?_
  rintro e w9 ⟨rfl, s⟩
  have hS9 := hS6.trans s
  have A9 := A6.sees s
  have B9 := B6.sees s
  have C9 := C6.sees s
  clear s A6 B6 C6 hS6 a0 a1 b0 b1 z0 z1
  obtain ⟨a0, a1⟩ := A9.cs
  obtain ⟨b0, b1⟩ := B9.cs
  obtain ⟨z0, z1⟩ := C9.cs
  have hl1 := A9.lt
  have hl2 := B9.lt
  have hl3 := C9.lt
  go_wp2_with fail
  refine (HC2.out _).mono ?_
  rintro e w10 ⟨rfl, s10⟩
  have P10 := (PlAt.new w9 p1 q1).sees s10
  have s := ((Sees.refl w9).alloc _).trans s10
  clear s10 hl1 hl2 hl3 HC1 HC2
  have hS10 := hS9.trans s
  have A10 := A9.sees s
  have B10 := B9.sees s
  have C10 := C9.sees s
  clear s A9 B9 C9 hS9 a0 a1 b0 b1 z0 z1
  obtain ⟨a0, a1⟩ := A10.cs
  obtain ⟨b0, b1⟩ := B10.cs
  obtain ⟨z0, z1⟩ := C10.cs
  have hl1 := A10.lt
  have hl2 := B10.lt
  have hl3 := C10.lt
  have hl4 := P10.lt
  obtain ⟨p0, p0'⟩ := P10.cs
  go_upto_region 15 with fail
  refine wp_world (fun w11 hw11 => ?_)
  have s : Sees w10 w11 := by rw [hw11]; exact (Sees.refl _).alloc _
  have P11 := P10.sees s
  have Q11 : PlAt w11 w10.heap.size p2 q2 := by rw [hw11]; exact PlAt.new w10 p2 q2
  clear hw11 hl1 hl2 hl3 hl4 p0 p0' P10
  have hS11 := hS10.trans s
  have A11 := A10.sees s
  have B11 := B10.sees s
  have C11 := C10.sees s
  clear s A10 B10 C10 hS10 a0 a1 b0 b1 z0 z1
  obtain ⟨a0, a1⟩ := A11.cs
  obtain ⟨b0, b1⟩ := B11.cs
  obtain ⟨z0, z1⟩ := C11.cs
  obtain ⟨v0, v1⟩ := P11.cs
  obtain ⟨v2, v3⟩ := Q11.cs
  go_cut [188] from 149 to 188 (fun s188 wx => s188 = .bool false ∧ Sees w11 wx)
  case first =>
    have hs := Sees.refl w11
    rcases hcl.out with ⟨rfl, rfl⟩ | ⟨rfl, rfl, hm, ⟨g1, g2, g3, g4⟩, _⟩
    · clear hcl
      go_wp2_with fail
      go_meet
      exact ⟨rfl, hs⟩
    · clear hcl
      have t1 : decide (p1 < first) = false := decide_eq_false (by omega)
      have t2 : decide (p1 ≥ next) = false := decide_eq_false (by omega)
      have t2' : decide (next ≤ p1) = false := decide_eq_false (by omega)
      have t3 : decide (q1 < 0) = false := decide_eq_false (by omega)
      have t4 : decide (q1 ≥ columns) = false := decide_eq_false (by omega)
      have t4' : decide (columns ≤ q1) = false := decide_eq_false (by omega)
      obtain ⟨j, hj⟩ : ∃ j, j = cmpP p1 q1 p2 q2 := ⟨_, rfl⟩
      have HJ := Lib.hid (compare_c p1 q1 p2 q2 j hj.symm)
      rw [← hj] at hm
      clear hj g1 g2 g3 g4
      by_cases hk0 : k ≤ 0
      · have t5 : decide (k ≤ 0) = true := decide_eq_true hk0
        have t6 : decide (j > 0) = false := decide_eq_false (by have := hm hk0; omega)
        have t6' : decide (0 < j) = false := decide_eq_false (by have := hm hk0; omega)
        clear hm
        go_wp2_with fail
        refine (HJ.out _).mono ?_
        rintro e w12 ⟨rfl, s12⟩
        have P12 := (P11.sees s12).cs
        obtain ⟨y0, y1⟩ := P12
        clear v0 v1 v2 v3 a0 a1 b0 b1 z0 z1
        go_wp2_with fail
        go_meet
        exact ⟨rfl, s12⟩
      · have t5 : decide (k ≤ 0) = false := decide_eq_false hk0
        clear hm
        go_wp2_with fail
        go_meet
        exact ⟨rfl, hs⟩
  case rest =>
  obtain ⟨rfl, s⟩ := hcut
  have P13 := P11.sees s
  clear v0 v1 v2 v3 P11 Q11
  have hS13 := hS11.trans s
  have A13 := A11.sees s
  have B13 := B11.sees s
  have C13 := C11.sees s
  clear s A11 B11 C11 hS11 a0 a1 b0 b1 z0 z1
  obtain ⟨a0, a1⟩ := A13.cs
  obtain ⟨b0, b1⟩ := B13.cs
  obtain ⟨z0, z1⟩ := C13.cs
  obtain ⟨v0, v1⟩ := P13.cs
  go_upto_region 17 with fail
  go_cut [218] from 189 to 218 (fun s218 wx => s218 = .bool false ∧ Sees wc wx)
  case first =>
    have hs := Sees.refl wc
    rcases hcl.out with ⟨rfl, rfl⟩ | ⟨rfl, rfl, _, _, hsame⟩
    · clear hcl
      go_wp2_with fail
      go_meet
      exact ⟨rfl, hs⟩
    · clear hcl
      by_cases g1 : first ≤ la
      · have t1 : decide (la ≥ first) = true := decide_eq_true g1
        have t1' : decide (first ≤ la) = true := decide_eq_true g1
        by_cases g2 : la < next
        · have t2 : decide (la < next) = true := decide_eq_true g2
          by_cases g3 : 0 ≤ ca
          · have t3 : decide (ca ≥ 0) = true := decide_eq_true g3
            have t3' : decide (0 ≤ ca) = true := decide_eq_true g3
            by_cases g4 : ca < columns
            · have t4 : decide (ca < columns) = true := decide_eq_true g4
              obtain ⟨i1, i2⟩ := hsame g1 g2 g3 g4
              have i3 : (p1 == la) = true := by rw [i1]; simp
              have i4 : (q1 == ca) = true := by rw [i2]; simp
              clear i1 i2 hsame
              go_wp2_with fail
              go_meet
              exact ⟨rfl, hs⟩
            · have t4 : decide (ca < columns) = false := decide_eq_false g4
              clear hsame
              go_wp2_with fail
              go_meet
              exact ⟨rfl, hs⟩
          · have t3 : decide (ca ≥ 0) = false := decide_eq_false g3
            have t3' : decide (0 ≤ ca) = false := decide_eq_false g3
            clear hsame
            go_wp2_with fail
            go_meet
            exact ⟨rfl, hs⟩
        · have t2 : decide (la < next) = false := decide_eq_false g2
          clear hsame
          go_wp2_with fail
          go_meet
          exact ⟨rfl, hs⟩
      · have t1 : decide (la ≥ first) = false := decide_eq_false g1
        have t1' : decide (first ≤ la) = false := decide_eq_false g1
        clear hsame
        go_wp2_with fail
        go_meet
        exact ⟨rfl, hs⟩
  case rest =>
  obtain ⟨rfl, s⟩ := hcut
  clear v0 v1 P13 hcl
  have hS14 := hS13.trans s
  have A14 := A13.sees s
  have B14 := B13.sees s
  have C14 := C13.sees s
  clear s A13 B13 C13 hS13 a0 a1 b0 b1 z0 z1
  obtain ⟨a0, a1⟩ := A14.cs
  obtain ⟨b0, b1⟩ := B14.cs
  obtain ⟨z0, z1⟩ := C14.cs
  go_wp2_with fail
  refine (text_any la ca Hla.out Hca.out _ (hst.sees hS14)).mono ?_
  rintro e w15 ⟨x, no, rfl, ht, s⟩
  have hS15 := hS14.trans s
  have A15 := A14.sees s
  have B15 := B14.sees s
  have C15 := C14.sees s
  clear s A14 B14 C14 hS14 a0 a1 b0 b1 z0 z1
  obtain ⟨a0, a1⟩ := A15.cs
  obtain ⟨b0, b1⟩ := B15.cs
  obtain ⟨z0, z1⟩ := C15.cs
  rcases ht with ⟨hv, rfl, rfl⟩ | ⟨hv, rfl, rfl⟩
  · go_wp2_with fail
    refine (parses_true _ (txt_size la ca Hla.out Hca.out) la ca 0 (.inl ⟨has_txt hv, rfl⟩) _ (hst.sees hS15)).mono ?_
    rintro e w16 ⟨rfl, s⟩
    have hS16 := hS15.trans s
    go_wp2_with fail
    refine (known09 _ (hst.sees hS16)).mono ?_
    rintro e w17 ⟨rfl, s17⟩
    have hS17 := hS16.trans s17
    go_wp2
    go_ret
    exact ⟨rfl, hS17⟩
  · go_wp2_with fail
    refine (known09 _ (hst.sees hS15)).mono ?_
    rintro e w17 ⟨rfl, s17⟩
    have hS17 := hS15.trans s17
    go_wp2
    go_ret
    exact ⟨rfl, hS17⟩
end placeHolds
end Go.Proofs.YtoljdfaghomjkaaDoor
