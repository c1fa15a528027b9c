/- SavedNumbers returns true for every input, and leaves its arguments alone; the two tables start as the program's text lays them (the card ties that). -/
import Derived.Test.YtfgifjdholdohaaDoorSaB
import Derived.Test.YtfgifjdholdohaaDoorSaN
namespace Go.Proofs.YtfgifjdholdohaaDoor
set_option linter.unusedVariables false
set_option linter.unusedSimpArgs false
namespace savedNumbers
open Go.ChangeShapes Go.WideShapes Go.ChangeAt Go.RowKit

/-- Eight numbers, as Go's text reads them. -/
def numSv (n0 n1 n2 : Nat) (f b : Col) (fl : Nat) (n4 n5 n6 n7 : Nat) : Sv := ⟨(n0 % 2000 : Nat), (n1 % 2000 : Nat), (n2 : Int) == 1, f.kind, f.idx, f.r, f.g, f.b, b.kind, b.idx, b.r, b.g, b.b, fl, (n4 : Int) == 1, (n5 % 9 : Nat), (n6 % 9 : Nat), (n7 % 9 : Nat)⟩
def preSv (n0 n1 n2 n4 n5 n6 n7 : Nat) : Sv := ⟨(n0 % 2000 : Nat), (n1 % 2000 : Nat), (n2 : Int) == 1, 0, 0, 0, 0, 0, 0, 0, 0, 0, 0, 0, (n4 : Int) == 1, (n5 % 9 : Nat), (n6 % 9 : Nat), (n7 % 9 : Nat)⟩
theorem exec_build_3 {ρ : Operand → Value} {o : Oper} {x y z : Operand} {W : World} (ho : o.op = .build 35 #[(0, x), (2, y), (3, z)]) (r c g0 g1 act : Int) (p b : Bool) (hx : ρ x = .agg #[.int .i64 r, .int .i64 c, .bool p]) (hy : ρ y = .bool b) (hz : ρ z = .agg #[.int .i64 g0, .int .i64 g1, .int .i64 act]) :
    (execOp ρ o).run Tryd.prog W = .ok (.value (Sv.val ⟨r, c, p, 0, 0, 0, 0, 0, 0, 0, 0, 0, 0, 0, b, g0, g1, act⟩)) W := by
  have h : (Instr.build 35 #[(0, .agg #[.int .i64 r, .int .i64 c, .bool p]), (2, .bool b), (3, .agg #[.int .i64 g0, .int .i64 g1, .int .i64 act])]).run Tryd.prog W = .ok (Sv.val ⟨r, c, p, 0, 0, 0, 0, 0, 0, 0, 0, 0, 0, 0, b, g0, g1, act⟩) W := by kernel_rfl
  unfold execOp
  rw [ho]
  simp only [List.map_toArray, List.map_cons, List.map_nil, hx, hy, hz, Sem.run_bind, h, Result.andThen_ok]
  rfl
theorem run_storePenSv {W : World} {p : Nat} {s : Sv} (h : SvAt W p s) (f b : Col) (fl : Nat) : (Instr.storeAt 29 (.pointer (some ⟨p, 3, none⟩)) (penV f b fl)).run Tryd.prog W = .ok () (W.setRow p (Sv.cells ⟨s.row, s.col, s.pend, f.kind, f.idx, f.r, f.g, f.b, b.kind, b.idx, b.r, b.g, b.b, fl, s.org, s.g0, s.g1, s.act⟩)) := by
  have hc : (Instr.sureAddr (.pointer (some ⟨p, 3, none⟩))).run Tryd.prog W = .ok ⟨p, 3, none⟩ W := rfl
  have h := run_storeCells_at (P := Tryd.prog) p 3 35 [.int .i64 f.kind, .int .u8 f.idx, .int .u8 f.r, .int .u8 f.g, .int .u8 f.b, .int .i64 b.kind, .int .u8 b.idx, .int .u8 b.r, .int .u8 b.g, .int .u8 b.b, .int .u8 fl] 0 s.cells W h (by simp) (fun v hv => by
    simp only [List.mem_cons, List.not_mem_nil, or_false] at hv
    rcases hv with rfl | rfl | rfl | rfl | rfl | rfl | rfl | rfl | rfl | rfl | rfl <;> rfl)
  have hs := pen_sizeOf
  unfold Instr.storeAt storeVar penV
  simp only [Sem.run_bind, hc, Result.andThen_ok, hs, Value.cells]
  simp only [List.size_toArray, List.length_cons, List.length_nil, ne_eq, not_true_eq_false, if_false, h, Sem.run_ite]
  rfl
theorem run_loadPenAt {W : World} {p : Nat} {f b : Col} {fl : Nat} (h : PenAt W p f b fl) : (Instr.loadAt 29 (.pointer (some ⟨p, 0, none⟩))).run Tryd.prog W = .ok (penV f b fl) W :=
  run_load_agg 29 p 0 [.int .i64 f.kind, .int .u8 f.idx, .int .u8 f.r, .int .u8 f.g, .int .u8 f.b, .int .i64 b.kind, .int .u8 b.idx, .int .u8 b.r, .int .u8 b.g, .int .u8 b.b, .int .u8 fl] pen_isAgg pen_sizeOf fun j x hx => by
    rw [Nat.zero_add, Go.cell_of_row W p _ _ _ _ h]
    simpa using hx
set_option maxHeartbeats 32000000 in
set_option maxRecDepth 100000 in
theorem numbers_core (n0 n1 n2 n3 n4 n5 n6 n7 : Nat) (l0 : n0 < 18446744073709551616) (l1 : n1 < 18446744073709551616) (l2 : n2 < 18446744073709551616) (l3 : n3 < 18446744073709551616) (l4 : n4 < 18446744073709551616) (l5 : n5 < 18446744073709551616) (l6 : n6 < 18446744073709551616) (l7 : n7 < 18446744073709551616) (f b : Col) (fl : Nat) (er : Int) (KU : ∀ W, Calls Tryd.prog 20 #[.int .u64 (n3 : Int)] W fun e w' => e = .returned (.tuple #[penV f b fl, .int .i64 er]) ∧ Sees W w')
    (fit : Bool) (hfit : fit = (decide ((n0 : Int) < 2000) && (decide ((n1 : Int) < 2000) && (decide ((n2 : Int) < 2) && (decide ((n4 : Int) < 2) && (decide ((n5 : Int) < 9) && (decide ((n6 : Int) < 9) && (decide ((n7 : Int) < 9) && (er == 0)))))))))
    (L : List Nat) (hL : L = [n0, n1, n2, n3, n4, n5, n6, n7]) (X : Sv) (hX : X = numSv n0 n1 n2 f b fl n4 n5 n6 n7) (hgood : fit = true → X.ok = true → X.Fits ∧ X.text = textN L) (hbad : ¬ (fit = true ∧ X.ok = true) → ∀ x : Sv, x.ok = true → x.Fits → x.text ≠ textN L)
    (w : World) (hw : Std w) : Calls Tryd.prog 6 #[.agg #[.int .u64 (n0 : Int), .int .u64 (n1 : Int), .int .u64 (n2 : Int), .int .u64 (n3 : Int), .int .u64 (n4 : Int), .int .u64 (n5 : Int), .int .u64 (n6 : Int), .int .u64 (n7 : Int)]] w fun e w' => e = .returned (.bool true) ∧ Sees w w' := by
  have HW := Lib.hid hw
  have HU := Lib.hid KU
  have HG := Lib.hid hgood
  have HB := Lib.hid hbad
  have HL := Lib.hid hL
  have HX := Lib.hid hX
  have HF := Lib.hid hfit
  clear hw KU hgood hbad hL hX hfit
  have KK : RowKit.Hid (∀ W, Std W → Calls Tryd.prog 12 #[] W fun e w' => e = .returned (.bool true) ∧ Sees W w') := fun W h0 => by exact known_any W h0
  obtain ⟨m0, hm0⟩ : ∃ m : Nat, m = n0 % 2000 := ⟨_, rfl⟩
  obtain ⟨m1, hm1⟩ : ∃ m : Nat, m = n1 % 2000 := ⟨_, rfl⟩
  obtain ⟨m5, hm5⟩ : ∃ m : Nat, m = n5 % 9 := ⟨_, rfl⟩
  obtain ⟨m6, hm6⟩ : ∃ m : Nat, m = n6 % 9 := ⟨_, rfl⟩
  obtain ⟨m7, hm7⟩ : ∃ m : Nat, m = n7 % 9 := ⟨_, rfl⟩
  have r0 : (n0 : Int) % 2000 = (m0 : Int) := by omega
  have q0 : (n0 : Int).tmod 2000 = (m0 : Int) := by rw [IntWalk.rem_in _ _ (by omega)]; exact r0
  have v0 : IntKind.i64.wrap (m0 : Int) = m0 := IntWalk.i64_in _ (by omega)
  have u0 : IntKind.u64.wrap (m0 : Int) = m0 := IntWalk.u64_in _ (by omega)
  have r1 : (n1 : Int) % 2000 = (m1 : Int) := by omega
  have q1 : (n1 : Int).tmod 2000 = (m1 : Int) := by rw [IntWalk.rem_in _ _ (by omega)]; exact r1
  have v1 : IntKind.i64.wrap (m1 : Int) = m1 := IntWalk.i64_in _ (by omega)
  have u1 : IntKind.u64.wrap (m1 : Int) = m1 := IntWalk.u64_in _ (by omega)
  have r5 : (n5 : Int) % 9 = (m5 : Int) := by omega
  have q5 : (n5 : Int).tmod 9 = (m5 : Int) := by rw [IntWalk.rem_in _ _ (by omega)]; exact r5
  have v5 : IntKind.i64.wrap (m5 : Int) = m5 := IntWalk.i64_in _ (by omega)
  have u5 : IntKind.u64.wrap (m5 : Int) = m5 := IntWalk.u64_in _ (by omega)
  have r6 : (n6 : Int) % 9 = (m6 : Int) := by omega
  have q6 : (n6 : Int).tmod 9 = (m6 : Int) := by rw [IntWalk.rem_in _ _ (by omega)]; exact r6
  have v6 : IntKind.i64.wrap (m6 : Int) = m6 := IntWalk.i64_in _ (by omega)
  have u6 : IntKind.u64.wrap (m6 : Int) = m6 := IntWalk.u64_in _ (by omega)
  have r7 : (n7 : Int) % 9 = (m7 : Int) := by omega
  have q7 : (n7 : Int).tmod 9 = (m7 : Int) := by rw [IntWalk.rem_in _ _ (by omega)]; exact r7
  have v7 : IntKind.i64.wrap (m7 : Int) = m7 := IntWalk.i64_in _ (by omega)
  have u7 : IntKind.u64.wrap (m7 : Int) = m7 := IntWalk.u64_in _ (by omega)
  have HM := Lib.hid (And.intro hm0 (And.intro hm1 (And.intro hm5 (And.intro hm6 hm7))))
  have HI := Lib.hid (And.intro l0 (And.intro l1 (And.intro l2 (And.intro l3 (And.intro l4 (And.intro l5 (And.intro l6 l7)))))))
  clear hm0 hm1 hm5 hm6 hm7 l0 l1 l2 l3 l4 l5 l6 l7
  go_enter Tryd.func6, Tryd.ntmps6
  go_upto_region 1 with fail
  refine wp_world fun W0 hW0 => ?_
  have R0 : W0.heap[w.heap.size]? = some (.cells #[.int .u64 (n0 : Int), .int .u64 (n1 : Int), .int .u64 (n2 : Int), .int .u64 (n3 : Int), .int .u64 (n4 : Int), .int .u64 (n5 : Int), .int .u64 (n6 : Int), .int .u64 (n7 : Int)] 57 (0, 0)) := hW0 ▸ heap_alloc_new w _
  have S0 : Sees w W0 := hW0 ▸ (Sees.refl w).alloc _
  clear hW0
  have c0 := Go.cell_of_row _ _ 0 _ _ _ R0
  have c1 := Go.cell_of_row _ _ 1 _ _ _ R0
  have c2 := Go.cell_of_row _ _ 2 _ _ _ R0
  have c3 := Go.cell_of_row _ _ 3 _ _ _ R0
  have c4 := Go.cell_of_row _ _ 4 _ _ _ R0
  have c5 := Go.cell_of_row _ _ 5 _ _ _ R0
  have c6 := Go.cell_of_row _ _ 6 _ _ _ R0
  have c7 := Go.cell_of_row _ _ 7 _ _ _ R0
  have Z0 := SvAt.new W0 zSv
  obtain ⟨Y, hY⟩ : ∃ Y : Sv, Y = ⟨m0, m1, (n2 : Int) == 1, 0, 0, 0, 0, 0, 0, 0, 0, 0, 0, 0, (n4 : Int) == 1, m5, m6, m7⟩ := ⟨_, rfl⟩
  have hb : ∀ {ρ : Operand → Value} {o : Oper} {x y z : Operand} {W : World}, o.op = .build 35 #[(0, x), (2, y), (3, z)] → ρ x = .agg #[.int .i64 m0, .int .i64 m1, .bool ((n2 : Int) == 1)] → ρ y = .bool ((n4 : Int) == 1) → ρ z = .agg #[.int .i64 m5, .int .i64 m6, .int .i64 m7] → (execOp ρ o).run Tryd.prog W = .ok (.value Y.val) W := fun ho hx hy hz => by rw [hY]; exact exec_build_3 ho _ _ _ _ _ _ _ hx hy hz
  have HY := Lib.hid hY
  clear hY
  go_upto_region 2 with (first
    | (refine wpList_val rfl (hb rfl rfl rfl rfl) (fun K hK => ?_); go_simp; refine hK _ _ ?_; clear hK K)
    | (refine wpList_val rfl (exec_alloc_sv rfl) (fun K hK => ?_); go_simp; refine hK _ _ ?_; clear hK K)
    | (refine wpList_skip rfl (exec_store (v := Y.val) rfl rfl rfl (run_storeSv Z0 Y)) (fun K hK => ?_); go_simp; refine hK _ _ ?_; clear hK K))
  refine wp_world fun W1 hW1 => ?_
  have Y1 : SvAt W1 W0.heap.size Y := hW1 ▸ SvAt.stored Z0 Y
  have lt1 := (Array.getElem?_eq_some_iff.1 R0).1
  have R1 : W1.heap[w.heap.size]? = some (.cells #[.int .u64 (n0 : Int), .int .u64 (n1 : Int), .int .u64 (n2 : Int), .int .u64 (n3 : Int), .int .u64 (n4 : Int), .int .u64 (n5 : Int), .int .u64 (n6 : Int), .int .u64 (n7 : Int)] 57 (0, 0)) := by
    rw [hW1, setRow_other _ _ _ _ (by omega)]
    exact ((Sees.refl W0).alloc _).block' R0
  have S1 : Sees w W1 := hW1 ▸ (S0.alloc _).setRow S0.size _
  clear hW1 Z0 S0 R0 hb
  generalize hp3 : W0.heap.size = p3 at *
  clear hp3 c0 c1 c2 c3 c4 c5 c6 c7
  have c3 := Go.cell_of_row _ _ 3 _ _ _ R1
  go_wp2_with fail
  refine (HU.out _).mono ?_
  rintro e W2 ⟨rfl, s2⟩
  have Y2 := Y1.sees s2
  have R2 := s2.block' R1
  have S2 := S1.trans s2
  clear Y1 R1 S1 c3 s2
  go_upto_region 3 with fail
  refine wp_world fun W3 hW3 => ?_
  have s3 : Sees W2 W3 := hW3 ▸ (Sees.refl W2).alloc _
  have P3 : PenAt W3 W2.heap.size f b fl := hW3 ▸ PenAt.new W2 f b fl
  have Y3 := Y2.sees s3
  have R3 := s3.block' R2
  have S3 := S2.trans s3
  have lt2 := Y2.lt
  clear hW3 Y2 R2 S2 s3
  generalize hp4 : W2.heap.size = p4 at *
  clear hp4
  have c0 := Go.cell_of_row _ _ 0 _ _ _ R3
  have c1 := Go.cell_of_row _ _ 1 _ _ _ R3
  have c2 := Go.cell_of_row _ _ 2 _ _ _ R3
  have c3 := Go.cell_of_row _ _ 3 _ _ _ R3
  have c4 := Go.cell_of_row _ _ 4 _ _ _ R3
  have c5 := Go.cell_of_row _ _ 5 _ _ _ R3
  have c6 := Go.cell_of_row _ _ 6 _ _ _ R3
  have c7 := Go.cell_of_row _ _ 7 _ _ _ R3
  have Y3' := Lib.hid Y3
  have R3' := Lib.hid R3
  have P3' := Lib.hid P3
  have S3' := Lib.hid S3
  have LT := Lib.hid (And.intro lt1 lt2)
  clear Y3 R3 P3 S3 lt1 lt2
  go_cut [6] from 45 to 81 (fun v6 wx => v6 = .bool fit ∧ wx = W3)
  case first =>
    have hf := HF.out
    clear r0 q0 v0 u0 r1 q1 v1 u1 r5 q5 v5 u5 r6 q6 v6 u6 r7 q7 v7 u7
    cases t0 : decide ((n0 : Int) < 2000)
    · simp only [t0, Bool.false_and, Bool.true_and, Bool.and_false] at hf
      have Hf := Lib.hid hf
      clear hf
      go_wp2_with fail
      go_meet
      exact ⟨by rw [Hf.out], rfl⟩
    cases t1 : decide ((n1 : Int) < 2000)
    · simp only [t0, t1, Bool.false_and, Bool.true_and, Bool.and_false] at hf
      have Hf := Lib.hid hf
      clear hf
      go_wp2_with fail
      go_meet
      exact ⟨by rw [Hf.out], rfl⟩
    cases t2 : decide ((n2 : Int) < 2)
    · simp only [t0, t1, t2, Bool.false_and, Bool.true_and, Bool.and_false] at hf
      have Hf := Lib.hid hf
      clear hf
      go_wp2_with fail
      go_meet
      exact ⟨by rw [Hf.out], rfl⟩
    cases t3 : decide ((n4 : Int) < 2)
    · simp only [t0, t1, t2, t3, Bool.false_and, Bool.true_and, Bool.and_false] at hf
      have Hf := Lib.hid hf
      clear hf
      go_wp2_with fail
      go_meet
      exact ⟨by rw [Hf.out], rfl⟩
    cases t4 : decide ((n5 : Int) < 9)
    · simp only [t0, t1, t2, t3, t4, Bool.false_and, Bool.true_and, Bool.and_false] at hf
      have Hf := Lib.hid hf
      clear hf
      go_wp2_with fail
      go_meet
      exact ⟨by rw [Hf.out], rfl⟩
    cases t5 : decide ((n6 : Int) < 9)
    · simp only [t0, t1, t2, t3, t4, t5, Bool.false_and, Bool.true_and, Bool.and_false] at hf
      have Hf := Lib.hid hf
      clear hf
      go_wp2_with fail
      go_meet
      exact ⟨by rw [Hf.out], rfl⟩
    cases t6 : decide ((n7 : Int) < 9)
    · simp only [t0, t1, t2, t3, t4, t5, t6, Bool.false_and, Bool.true_and, Bool.and_false] at hf
      have Hf := Lib.hid hf
      clear hf
      go_wp2_with fail
      go_meet
      exact ⟨by rw [Hf.out], rfl⟩
    simp only [t0, t1, t2, t3, t4, t5, t6, Bool.true_and] at hf
    have Hf := Lib.hid hf
    cases te : (er == 0)
    all_goals
      clear hf
      go_wp2_with fail
      go_meet
      exact ⟨by rw [Hf.out, te], rfl⟩
  case rest =>
    obtain ⟨rfl, hwc⟩ := hcut
    subst hwc
    clear c0 c1 c2 c3 c4 c5 c6 c7 r0 q0 v0 u0 r1 q1 v1 u1 r5 q5 v5 u5 r6 q6 v6 u6 r7 q7 v7 u7 HU HF
    obtain ⟨X', hX'⟩ : ∃ x : Sv, x = ⟨Y.row, Y.col, Y.pend, f.kind, f.idx, f.r, f.g, f.b, b.kind, b.idx, b.r, b.g, b.b, fl, Y.org, Y.g0, Y.g1, Y.act⟩ := ⟨_, rfl⟩
    have hXX : X' = X := by
      rw [hX', HX.out, HY.out, HM.out.1, HM.out.2.1, HM.out.2.2.1, HM.out.2.2.2.1, HM.out.2.2.2.2]
      rfl
    subst hXX
    have hst := run_storePenSv Y3'.out f b fl
    rw [← hX'] at hst
    have X4 := setRow_heap wc p3 Y.cells X'.cells 35 (0, 0) Y3'.out
    have R4 : (wc.setRow p3 X'.cells).heap[w.heap.size]? = some (.cells #[.int .u64 (n0 : Int), .int .u64 (n1 : Int), .int .u64 (n2 : Int), .int .u64 (n3 : Int), .int .u64 (n4 : Int), .int .u64 (n5 : Int), .int .u64 (n6 : Int), .int .u64 (n7 : Int)] 57 (0, 0)) := by
      rw [setRow_other _ _ _ _ (by have := LT.out; omega)]
      exact R3'.out
    have S4 := S3'.out.setRow (p := p3) (by have := LT.out; omega) X'.cells
    have P4 := P3'.out
    clear hX'
    go_upto_region 5 with (first
      | (refine wpList_val rfl (exec_load (v := penV f b fl) rfl rfl (run_loadPenAt P4)) (fun K hK => ?_); go_simp; refine hK _ _ ?_; clear hK K)
      | (refine wpList_skip rfl (exec_store (v := penV f b fl) rfl rfl rfl hst) (fun K hK => ?_); go_simp; refine hK _ _ ?_; clear hK K))
    refine wp_world fun W5 hW5 => ?_
    have X5 : SvAt W5 p3 X' := hW5 ▸ X4
    have R5 := hW5 ▸ R4
    have S5 : Sees w W5 := hW5 ▸ S4
    clear hW5 X4 R4 S4 P4 hst Y3' R3' P3' S3' HX HY HM
    have HL8' : RowKit.Hid (L.length = 8) := by show _ = _; rw [HL.out]; rfl
    have Hlt : RowKit.Hid (∀ x ∈ L, x < 18446744073709551616) := by
      rw [HL.out]
      intro x hx
      have := HI.out
      simp only [List.mem_cons, List.not_mem_nil, or_false] at hx
      omega
    have Hcell : RowKit.Hid (∀ (i n : Nat), L[i]? = some n → W5.cell? ⟨w.heap.size, i, none⟩ = some (.int .u64 (n : Int))) := by
      intro i n hn
      rw [Go.cell_of_row _ _ i _ _ _ R5]
      have e : (#[.int .u64 (n0 : Int), .int .u64 (n1 : Int), .int .u64 (n2 : Int), .int .u64 (n3 : Int), .int .u64 (n4 : Int), .int .u64 (n5 : Int), .int .u64 (n6 : Int), .int .u64 (n7 : Int)] : Array Value) = (L.map fun (n : Nat) => Value.int .u64 (n : Int)).toArray := by rw [HL.out]; rfl
      rw [e, List.getElem?_toArray, List.getElem?_map, hn]
      rfl
    have X5' := Lib.hid X5
    have S5' := Lib.hid S5
    clear R5 X5 S5 HI HL LT
    obtain ⟨q, hq⟩ : ∃ q, q = w.heap.size := ⟨_, rfl⟩
    rw [← hq] at Hcell
    simp only [← hq]
    clear hq
    go_wp2_with fail
    go_loopw [8, 7] (fun x v W => ∃ i : Nat, i ≤ 8 ∧ x = .int .i64 i ∧ v = .string ⟨(textN (L.take i)).toArray⟩ ∧ RowKit.Hid (Sees W5 W)) (fun x _ _ => 8 - (intOf x).toNat)
    case atStart => exact ⟨0, by omega, rfl, rfl, Lib.hid (Sees.refl _)⟩
    case round =>
      obtain ⟨i, hi, rfl, rfl, hS⟩ := hrel
      by_cases hlt : i < 8
      · obtain ⟨n, hn⟩ : ∃ n, L[i]? = some n := ⟨_, List.getElem?_eq_getElem (by rw [HL8'.out]; exact hlt)⟩
        have Hc := Lib.hid (fun W (s : Sees wr W) => (hS.out.trans s).cell (Hcell.out i n hn))
        have hnl := Hlt.out n (List.mem_of_getElem? hn)
        have hf := Lib.hid (fun W => ldec_any n hnl W)
        have hl1 := textN_len (L.take i) (fun x hx => Hlt.out x (List.mem_of_mem_take hx))
        rw [List.length_take, HL8'.out] at hl1
        have hl2 := dec_len hnl
        have hns : Hid (i ≠ 0 → textN (L.take (i + 1)) = textN (L.take i) ++ 32 :: Lib.decDigits n) := fun h0 => by
          rw [List.take_add_one, hn]
          exact textN_snoc _ _ (fun e => by have e2 := congrArg List.length e; rw [List.length_take, HL8'.out] at e2; simp at e2; omega)
        have hn0 : Hid (i = 0 → textN (L.take (i + 1)) = Lib.decDigits n) := fun h0 => by
          subst h0
          rw [List.take_add_one, hn]
          rfl
        obtain ⟨T, hT⟩ : ∃ T, T = textN (L.take (i + 1)) := ⟨_, rfl⟩
        rw [← hT] at hns hn0
        have HT := Lib.hid hT
        clear hn hT
        obtain ⟨X, hX⟩ : ∃ X, X = textN (L.take i) := ⟨_, rfl⟩
        rw [← hX] at hns hl1 ⊢
        have HX := Lib.hid hX
        clear hX
        have hcr := Hc.out wr (Sees.refl _)
        by_cases h0 : i = 0
        · have hX0 : X = [] := by rw [HX.out, h0]; rfl
          subst hX0
          have hcat : (⟨([] : List UInt8).toArray⟩ : ByteArray) ++ ⟨(Lib.decDigits n).toArray⟩ = ⟨T.toArray⟩ := ba_app _ _ _ (by rw [hn0.out h0]; rfl)
          have t0 : decide ((i : Int) > 0) = false := decide_eq_false (by omega)
          have t1 : ¬ (0 < (i : Int)) := by omega
          clear h0
          go_wp2_with fail
          refine (hf.out _).mono ?_
          rintro e W5 ⟨rfl, s5⟩
          clear hcr
          go_wp2
          go_roundw
          case rel => exact ⟨i + 1, by omega, by go_num, by rw [← HT.out], Lib.hid (hS.out.trans s5)⟩
          case measure => simp [intOf]; omega
        · have hcat1 : (⟨X.toArray⟩ : ByteArray) ++ ⟨#[32]⟩ = ⟨(X ++ [32]).toArray⟩ := ba_app X [32] _ rfl
          obtain ⟨Y, hY⟩ : ∃ Y, Y = X ++ [32] := ⟨_, rfl⟩
          have hcat : (⟨Y.toArray⟩ : ByteArray) ++ ⟨(Lib.decDigits n).toArray⟩ = ⟨T.toArray⟩ := ba_app _ _ _ (by rw [hns.out h0, hY]; simp)
          have hly : Y.length ≤ 21 * 8 + 1 := by rw [hY, List.length_append]; simp; omega
          rw [← hY] at hcat1
          have t0 : decide ((i : Int) > 0) = true := decide_eq_true (by omega)
          have t1 : (0 < (i : Int)) := by omega
          clear hY h0
          go_wp2_with fail
          refine (hf.out _).mono ?_
          rintro e W5 ⟨rfl, s5⟩
          clear hcr
          go_wp2
          go_roundw
          case rel => exact ⟨i + 1, by omega, by go_num, by rw [← HT.out], Lib.hid (hS.out.trans s5)⟩
          case measure => simp [intOf]; omega
      · obtain rfl : i = 8 := by omega
        rw [List.take_of_length_le (by rw [HL8'.out]; exact Nat.le_refl _)]
        have X6 := X5'.out.sees hS.out
        have S6 := S5'.out.trans hS.out
        have hlen := textN_len L Hlt.out
        rw [HL8'.out] at hlen
        obtain ⟨T, hT⟩ : ∃ T : ByteArray, T = ⟨(textN L).toArray⟩ := ⟨_, rfl⟩
        have hTd : T.data.toList = textN L := by rw [hT]
        have hTs : T.size ≤ 100000 := by rw [hT]; show (textN L).toArray.size ≤ _; simp; omega
        have HTd := Lib.hid hTd
        have HTs := Lib.hid hTs
        have KL : RowKit.Hid (∀ W, Calls Tryd.prog 9 #[X'.val] W fun e w' => e = .returned (.bool X'.ok) ∧ Sees W w') := Lib.hid (fun W => lvalid_any X' W)
        rw [← hT]
        clear hT hTd hTs hlen Hcell Hlt HL8' X5' S5' hS
        have fin_bad : ¬ (fit = true ∧ X'.ok = true) → RowKit.Hid (∀ W, Std W → Calls Tryd.prog 18 #[.string T, zSv.val, .int .i64 6] W fun e w' => e = .returned (.bool true) ∧ Sees W w') := fun h W h0 => by
          have h := parses_none zSv 6 T (fun x hx hf => by rw [HTd.out]; exact HB.out h x hx hf) HTs.out W h0
          rw [eqSv_self] at h
          exact h
        cases hfit : fit
        · have KQ := fin_bad (fun h => by rw [hfit] at h; cases h.1)
          clear fin_bad HB HG
          go_wp2_with (first
            | (refine wpList_val rfl (exec_build_zero rfl) (fun K hK => ?_); go_simp; refine hK _ _ ?_; clear hK K))
          refine (KQ.out _ (HW.out.sees S6)).mono ?_
          rintro e W7 ⟨rfl, s7⟩
          have S7 := S6.trans s7
          go_wp2_with fail
          refine (KK.out _ (HW.out.sees S7)).mono ?_
          rintro e W8 ⟨rfl, s8⟩
          go_wp2
          go_ret
          exact ⟨rfl, S7.trans s8⟩
        · cases hok : X'.ok
          · have KQ := fin_bad (fun h => by rw [hok] at h; cases h.2)
            rw [hok] at KL
            clear fin_bad HB HG hok
            go_wp2_with (first
              | (refine wpList_valG (by go_simp) (exec_load (v := X'.val) rfl rfl (run_loadSv X6)) (fun K hK => ?_); go_simp; refine hK _ _ ?_; clear hK K))
            refine (KL.out _).mono ?_
            rintro e W7 ⟨rfl, s7⟩
            have S7 := S6.trans s7
            go_wp2_with (first
              | (refine wpList_val rfl (exec_build_zero rfl) (fun K hK => ?_); go_simp; refine hK _ _ ?_; clear hK K))
            refine (KQ.out _ (HW.out.sees S7)).mono ?_
            rintro e W8 ⟨rfl, s8⟩
            have S8 := S7.trans s8
            go_wp2_with fail
            refine (KK.out _ (HW.out.sees S8)).mono ?_
            rintro e W9 ⟨rfl, s9⟩
            go_wp2
            go_ret
            exact ⟨rfl, S8.trans s9⟩
          · obtain ⟨hfX, htX⟩ := HG.out hfit hok
            have KQ : RowKit.Hid (∀ W, Std W → Calls Tryd.prog 18 #[.string T, X'.val, .int .i64 0] W fun e w' => e = .returned (.bool true) ∧ Sees W w') := fun W h0 => by
              have h := parses_text X' X' 0 hok hfX T (by rw [HTd.out, htX]) HTs.out W h0
              rw [eqSv_self] at h
              exact h
            rw [hok] at KL
            clear fin_bad HB HG hok hfX htX
            go_wp2_with (first
              | (refine wpList_valG (by go_simp) (exec_load (v := X'.val) rfl rfl (run_loadSv X6)) (fun K hK => ?_); go_simp; refine hK _ _ ?_; clear hK K))
            refine (KL.out _).mono ?_
            rintro e W7 ⟨rfl, s7⟩
            have S7 := S6.trans s7
            have X7 := X6.sees s7
            go_wp2_with (first
              | (refine wpList_val rfl (exec_load (v := X'.val) rfl rfl (run_loadSv X7)) (fun K hK => ?_); go_simp; refine hK _ _ ?_; clear hK K))
            refine (KQ.out _ (HW.out.sees S7)).mono ?_
            rintro e W8 ⟨rfl, s8⟩
            have S8 := S7.trans s8
            go_wp2_with fail
            refine (KK.out _ (HW.out.sees S8)).mono ?_
            rintro e W9 ⟨rfl, s9⟩
            go_wp2
            go_ret
            exact ⟨rfl, S8.trans s9⟩
theorem nums_of_text {x : Sv} {L : List Nat} (hL : L ≠ []) (h : x.text = textN L) : x.nums x.word = L := textN_inj (by unfold Sv.nums; simp) hL h
theorem bitN_of {n : Nat} (h : n < 2) : bitN ((n : Int) == 1) = n := by
  match n, h with
  | 0, _ => rfl
  | 1, _ => rfl
theorem bitN_le (b : Bool) : bitN b < 2 := by unfold bitN; split <;> omega
theorem walk (l : N8) (w : World) (hw : Std w) (hl : l.lt) : Calls Tryd.prog 6 #[l.v] w fun e w' => e = .returned (.bool true) ∧ Sees w w' := by
  obtain ⟨n0, n1, n2, n3, n4, n5, n6, n7⟩ := l
  obtain ⟨l0, l1, l2, l3, l4, l5, l6, l7⟩ := hl
  simp only at l0 l1 l2 l3 l4 l5 l6 l7
  have base : ∀ x : Sv, x.ok = true → x.Fits → x.text = textN [n0, n1, n2, n3, n4, n5, n6, n7] → n0 = x.row.toNat ∧ n1 = x.col.toNat ∧ n2 = bitN x.pend ∧ n3 = x.word ∧ n4 = bitN x.org ∧ n5 = x.g0.toNat ∧ n6 = x.g1.toNat ∧ n7 = x.act.toNat := fun x hx hf he => by
    have h := nums_of_text (by simp) he
    unfold Sv.nums at h
    simp only [List.cons.injEq] at h
    exact ⟨h.1.symm, h.2.1.symm, h.2.2.1.symm, h.2.2.2.1.symm, h.2.2.2.2.1.symm, h.2.2.2.2.2.1.symm, h.2.2.2.2.2.2.1.symm, h.2.2.2.2.2.2.2.1.symm⟩
  by_cases hbig : 1152921504606846976 ≤ n3
  · refine numbers_core n0 n1 n2 n3 n4 n5 n6 n7 l0 l1 l2 l3 l4 l5 l6 l7 ⟨0, 0, 0, 0, 0⟩ ⟨0, 0, 0, 0, 0⟩ 0 12 (fun W => unpack_big n3 l3 hbig W) false (by simp) _ rfl _ rfl (fun h => by cases h) (fun _ x hx hf he => ?_) w hw
    have h1 := (base x hx hf he).2.2.2.1
    have h2 := word_lt hf (x.ok_pen hx)
    omega
  · cases hpv : (mkSv n0 n1 n2 (foreN n3) (backN n3) (flagN n3) n4 n5 n6 n7).pen
    · refine numbers_core n0 n1 n2 n3 n4 n5 n6 n7 l0 l1 l2 l3 l4 l5 l6 l7 ⟨0, 0, 0, 0, 0⟩ ⟨0, 0, 0, 0, 0⟩ 0 12 (fun W => unpack_bad n3 l3 (by omega) hpv W) false (by simp) _ rfl _ rfl (fun h => by cases h) (fun _ x hx hf he => ?_) w hw
      obtain ⟨k0, k1, k2, k3, k4, k5, k6, k7⟩ := base x hx hf he
      rw [k0, k1, k2, k3, k4, k5, k6, k7, mk_back hx hf, x.ok_pen hx] at hpv
      cases hpv
    · refine numbers_core n0 n1 n2 n3 n4 n5 n6 n7 l0 l1 l2 l3 l4 l5 l6 l7 (foreN n3) (backN n3) (flagN n3) 0 (fun W => unpack_ok n3 l3 (by omega) hpv W) _ rfl _ rfl _ rfl (fun hfit hok => ?_) (fun hno x hx hf he => ?_) w hw
      · simp only [Bool.and_eq_true, decide_eq_true_eq] at hfit
        obtain ⟨a0, a1, a2, a4, a5, a6, a7, -⟩ := hfit
        have e : numSv n0 n1 n2 (foreN n3) (backN n3) (flagN n3) n4 n5 n6 n7 = mkSv n0 n1 n2 (foreN n3) (backN n3) (flagN n3) n4 n5 n6 n7 := by
          unfold numSv mkSv
          rw [Nat.mod_eq_of_lt (show n0 < 2000 by omega), Nat.mod_eq_of_lt (show n1 < 2000 by omega), Nat.mod_eq_of_lt (show n5 < 9 by omega), Nat.mod_eq_of_lt (show n6 < 9 by omega), Nat.mod_eq_of_lt (show n7 < 9 by omega)]
        rw [e] at hok ⊢
        refine ⟨mk_fits n0 n1 n2 n4 n5 n6 n7 n3, ?_⟩
        unfold Sv.text
        rw [mk_word (by omega) hpv]
        have en : (mkSv n0 n1 n2 (foreN n3) (backN n3) (flagN n3) n4 n5 n6 n7).nums n3 = [n0, n1, n2, n3, n4, n5, n6, n7] := by
          unfold Sv.nums mkSv
          simp only [Int.toNat_natCast, bitN_of (show n2 < 2 by omega), bitN_of (show n4 < 2 by omega)]
        rw [en]
      · obtain ⟨k0, k1, k2, k3, k4, k5, k6, k7⟩ := base x hx hf he
        obtain ⟨⟨q0, q1, q2, q3⟩, ⟨q4, q5⟩, ⟨q6, q7⟩, q8, q9⟩ := cs_small hx
        have b1 := bitN_le x.pend
        have b2 := bitN_le x.org
        apply hno
        have e : numSv n0 n1 n2 (foreN n3) (backN n3) (flagN n3) n4 n5 n6 n7 = mkSv n0 n1 n2 (foreN n3) (backN n3) (flagN n3) n4 n5 n6 n7 := by
          unfold numSv mkSv
          rw [Nat.mod_eq_of_lt (show n0 < 2000 by omega), Nat.mod_eq_of_lt (show n1 < 2000 by omega), Nat.mod_eq_of_lt (show n5 < 9 by omega), Nat.mod_eq_of_lt (show n6 < 9 by omega), Nat.mod_eq_of_lt (show n7 < 9 by omega)]
        refine ⟨?_, ?_⟩
        · simp only [Bool.and_eq_true, decide_eq_true_eq]
          refine ⟨by omega, by omega, by omega, by omega, by omega, by omega, by omega, rfl⟩
        · rw [e, k0, k1, k2, k3, k4, k5, k6, k7, mk_back hx hf]
          exact hx

set_option maxRecDepth 100000 in
theorem contract (H : Type) (enc : TypeId × Value → H) (W : World) (base : Nat) (args : Array Value) (ds gs : List (DataW H)) (before : List MemPlace)
    (hval : ∀ (j : Nat) t v, Tryd.f6.params[j]? = some t → args[j]? = some v → Value.okWide Tryd.prog W .any base t v)
    (hW : DataW.Whole enc Tryd.prog Tryd.f6.params.toList Rows.savedNumbersSpec.vars false W args.toList ds gs before) (hL : laidMetH Tryd.prog Rows.savedNumbersRow.laid W) (hsh : W.ShapedOpen Tryd.prog) :
    Calls Tryd.prog 6 args W fun e W' => ∃ v, e = .returned v ∧ Rows.savedNumbersSpec.post enc Tryd.prog Tryd.f6 false true false false W args v W' := by
  have hW' := hW
  obtain ⟨p, q, hA0, hV, rfl, hfz, hnd⟩ := hW
  have hA : DataW.TrodAll enc Tryd.prog W 0 (fun _ => true) true Tryd.f6.params.toList args.toList ds p := hA0
  rw [Tryd.params6] at hA hval
  obtain ⟨v0, vs0, d0, ds0, p0, q0, hargs, rfl, rfl, h0, r0⟩ := trodAll_cons hA
  obtain ⟨rfl, rfl, rfl⟩ := trodAll_nil r0
  obtain rfl : args = #[v0] := by cases args; simp_all
  obtain ⟨l, rfl, xl⟩ := open_nums8 (hval 0 57 v0 rfl rfl) h0
  refine (walk l W (std_of_laid hL hsh) xl).mono fun e W' ⟨he, hs⟩ => ?_
  subst he
  exact ⟨_, rfl, law_post (tb := 4) laidOut (by
    rw [Tryd.params6]; intro t ht
    simp only [List.mem_cons, List.not_mem_nil, or_false] at ht
    rcases ht with rfl <;> exact ⟨by kernel_rfl, of_decide_eq_true (by kernel_rfl)⟩) hW' rfl (fun ds hl => by
    rw [Tryd.params6] at hl
    match ds, hl with
    | [_], _ => rfl) (by kernel_rfl) Tryd.underlying4 hs⟩

abbrev startArgs : Array Value := #[.agg #[.int .u64 0, .int .u64 0, .int .u64 0, .int .u64 0, .int .u64 0, .int .u64 0, .int .u64 0, .int .u64 0]]
noncomputable abbrev start (os : Os) : World := laidWorld os
theorem laid_met (os : Os) : laidMet Tryd.prog Rows.savedNumbersRow.laid ((start os).forCall (fun _ _ => 0) ⟨#[], startArgs, []⟩).memory :=
  laidMet_of_run' 8 (by kernel_rfl) (by kernel_rfl)
theorem reads (os : Os) {H : Type} (enc : TypeId × Value → H) : ∃ x, DataW.whole enc Tryd.prog ((start os).forCall (fun _ _ => 0) ⟨#[], startArgs, []⟩).memory Tryd.f6.params.toList Rows.savedNumbersSpec.vars false startArgs.toList 8 = some x :=
  ⟨([.agg [.lit (.int .u64 0), .lit (.int .u64 0), .lit (.int .u64 0), .lit (.int .u64 0), .lit (.int .u64 0), .lit (.int .u64 0), .lit (.int .u64 0), .lit (.int .u64 0)]], [], []), by kernel_rfl⟩

set_option maxRecDepth 100000 in
theorem lifted (os : Os) (started : os.Started) (H : Type) (enc : TypeId × Value → H) (F : Stop.Interp) :
    ReturnsInHanded {} Tryd.checked os 6 .any ((OpenSpec.ofChange Rows.savedNumbersSpec).preRow enc Tryd.prog Tryd.f6 Rows.savedNumbersRow.domain false Rows.savedNumbersRow.laid) (((OpenSpec.ofChange Rows.savedNumbersSpec).at F).post enc Tryd.prog Tryd.f6 false true false false) := by
  obtain ⟨x, hx⟩ := reads os enc
  refine returnsInHanded_of_row (C := Tryd.checked) (s := OpenSpec.ofChange Rows.savedNumbersSpec) ownK started (by kernel_rfl) Tryd.func6
    (witness_row_at (enc := enc) (C := Tryd.checked) false (start os) startArgs rfl (by kernel_rfl) (by kernel_rfl) (by kernel_rfl)
      (OpenSpec.preRow_of_cond 8 hx (by kernel_rfl) (fun k hk => by cases hk) (by kernel_rfl) (laid_met os))) ?_
  intro W base args ds gs before hval hW _ _ _ hL hsh _
  exact contract H enc W base args ds gs before hval hW hL hsh

theorem said : Rows.SavedNumbersSaid :=
  OpenClaim.holds_of_cond 6 Tryd.f6 rfl rfl rfl rfl rfl rfl rfl ⟨rfl, rfl, rfl, rfl, rfl⟩ rfl rfl rfl rfl rfl (by kernel_rfl) Tryd.func6 (by kernel_rfl)
    (of_decide_eq_true (by kernel_rfl)) (by unfold Func.isWrapper; first | (rw [if_pos (by decide +kernel)]; kernel_rfl) | (rw [if_neg (by decide +kernel)]; exact ⟨rfl, rfl⟩))
    (fun os started H enc _ F => by rw [OpenClaim.pre_eq_preRow]; exact lifted os started H enc F)

theorem plain (f : FuncId) (fn : Func) (hf : Tryd.pinned.checked.prog.funcNamed Rows.savedNumbersRow.func = some f) (hfn : Tryd.pinned.checked.prog.funcs[f]? = some fn) :
    true = Tryd.pinned.checked.prog.looks [] ∧ ∀ (j : Nat) t, fn.params[j]? = some t → Tryd.pinned.checked.prog.wantsStandIn t = false := by
  obtain rfl : f = 6 := Option.some.inj ((show Tryd.prog.funcNamed Rows.savedNumbersRow.func = some 6 by kernel_rfl).symm.trans hf) |>.symm
  obtain rfl : fn = Tryd.f6 := (Option.some.inj (Tryd.func6.symm.trans hfn)).symm
  refine ⟨by kernel_rfl, fun j t ht => ?_⟩
  rw [Tryd.params6] at ht
  have hm := Array.mem_of_getElem? ht
  simp only [List.mem_toArray, List.mem_cons, List.not_mem_nil, or_false] at hm
  rcases hm with rfl
  · exact (show Tryd.prog.wantsStandIn 57 = false by kernel_rfl)

theorem card : Rows.SavedNumbersCardSaid :=
  Claim7.holds_tied_plain_at .later [] _ _ _ _ said (fun _ h => by cases h) (by kernel_rfl) (fun _ h => by cases h) savedNumbers_row_tie rfl ⟨rfl, rfl⟩ (by kernel_rfl) rfl plain (by kernel_rfl)
end savedNumbers
end Go.Proofs.YtfgifjdholdohaaDoor
