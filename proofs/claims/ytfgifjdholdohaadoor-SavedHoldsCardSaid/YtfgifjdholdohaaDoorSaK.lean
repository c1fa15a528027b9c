/- saved.Parse, walked (23). A text of at most 100000 bytes. -/
import Derived.Test.YtfgifjdholdohaaDoorSaQ
namespace Go.Proofs.YtfgifjdholdohaaDoor
set_option linter.unusedVariables false
set_option linter.unusedSimpArgs false
open Go.RowKit

set_option maxHeartbeats 16000000 in
set_option maxRecDepth 100000 in
theorem sparse_any (T : ByteArray) (ht : T.size ≤ 100000) (w : World) (hw : Std w) : Calls Tryd.prog 19 #[.string T] w fun e w' => IsParse T.data.toList e ∧ Sees w w' := by
  obtain ⟨t, hTt⟩ : ∃ t, t = T.data.toList := ⟨_, rfl⟩
  rw [← hTt]
  have HTt := Lib.hid hTt
  have Z0 := SvAt.new w zSv
  have S0 := (Sees.refl w).alloc (.cells zSv.cells 35)
  obtain ⟨W0, hW0⟩ : ∃ W0, W0 = w.alloc (.cells zSv.cells 35) := ⟨_, rfl⟩
  rw [← hW0] at Z0 S0
  have hW0s : RowKit.Hid (W0.heap.size = w.heap.size + 1) := by show _ = _; rw [hW0]; simp
  have HW0 := Lib.hid hW0
  have hspl := split_any T (by omega) 32 W0 (hw.sees S0)
  have hst0 := hw.sees S0
  have HW := Lib.hid hw
  clear hTt hW0 hw
  obtain ⟨PB, hPB⟩ : ∃ PB, PB = Lib.splitB ⟨#[32]⟩ 0 (Lib.countB T ⟨#[32]⟩) T := ⟨_, rfl⟩
  have hPL : PB.length = Lib.countB T ⟨#[32]⟩ + 1 := by rw [hPB]; exact Lib.splitB_all ⟨#[32]⟩ (Nat.le_refl 1) 0 _ T rfl
  have hPM : PB.map (·.data.toList) = pieces 32 t := by
    rw [hPB, Lib.splitB_data, HTt.out, ← split_pieces]
    unfold Lib.split Lib.countB
    rfl
  have hPm : Lib.countB T ⟨#[32]⟩ ≤ 1000000 := Nat.le_trans (Lib.countB_le ⟨#[32]⟩ (Nat.le_refl 1) _ T (Nat.le_refl _)) (by omega)
  have hPs : ∀ x ∈ PB, x.size ≤ 100000 := by
    intro x hx
    have h1 : x.data.toList ∈ pieces 32 t := by rw [← hPM]; exact List.mem_map.2 ⟨x, hx, rfl⟩
    have h2 := pieces_len 32 t _ h1
    have h3 : x.data.toList.length = x.size := by rw [Array.length_toList]; rfl
    have h4 : t.length = T.size := by rw [HTt.out, Array.length_toList]; rfl
    omega
  rw [← hPB] at hspl
  generalize Lib.countB T ⟨#[32]⟩ = m at hspl hPL hPm
  have HPM := Lib.hid hPM
  have HPs := Lib.hid hPs
  clear hPB hPM hPs
  go_enter Tryd.func19, Tryd.ntmps19
  go_upto_region 1 with fail
  refine wp_world fun W0' hW0' => ?_
  obtain rfl : W0' = W0 := hW0'.trans HW0.out.symm
  clear hW0'
  go_wp2_with fail
  refine hspl.mono ?_
  rintro e W1 ⟨rfl, hW1⟩
  have hpc : W1.heap[W0'.heap.size]? = some (.cells (PB.map Value.string).toArray 9 (0, 0)) := by rw [hW1]; exact heap_alloc_new _ _
  have s1 : Sees W0' W1 := by rw [hW1]; exact (Sees.refl _).alloc _
  have Z1 := Z0.sees s1
  have S1 := S0.trans s1
  have ST1 := hst0.sees s1
  clear hW1 hspl Z0 S0 HW0 hst0 s1
  by_cases hm : m = 7
  case neg =>
    have t1 : (((m : Int) + 1) != 8) = true := bne_iff_ne.2 (by omega)
    have t2 : ((((m + 1 : Nat) : Int)) != 8) = true := bne_iff_ne.2 (by omega)
    have hbad : Hid (∀ x : Sv, x.text ≠ t) := parse_count HPM.out (by rw [List.length_map, hPL]; omega)
    clear hm hPL
    go_wp2_with (first | (refine wpList_val rfl (exec_build_zero rfl) (fun K hK => ?_); go_simp; refine hK _ _ ?_; clear hK K) | (refine wpList_skip rfl (exec_store (v := zSv.val) rfl rfl rfl (run_storeSv Z1 zSv)) (fun K hK => ?_); go_simp; refine hK _ _ ?_; clear hK K))
    refine bodyPost_ret_by (results_sv (s := zSv) (v := .int .i64 6) rfl rfl rfl (SvAt.stored Z1 zSv)) rfl ⟨?_, ?_⟩
    · exact .inr ⟨fun x _ _ => hbad.out x, rfl⟩
    · exact Sees.setRow S1 (Nat.le_refl _) _
  subst hm
  have HPL := Lib.hid hPL
  have HPc := Lib.hid hpc
  have HS1 := Lib.hid S1
  have HZ1 := Lib.hid Z1
  have HST := Lib.hid ST1
  clear hPL hpc S1 Z1 ST1 hPm
  go_upto_region 5 with fail
  refine wp_world fun W2 hW2 => ?_
  have HR2 : RowKit.Hid (W2.heap[W1.heap.size]? = some (.cells #[.int .u64 0, .int .u64 0, .int .u64 0, .int .u64 0, .int .u64 0, .int .u64 0, .int .u64 0, .int .u64 0] 57 (0, 0))) := by rw [hW2]; exact heap_alloc_new W1 _
  have s2 : Sees W1 W2 := by rw [hW2]; exact (Sees.refl W1).alloc _
  have HPc2 := Lib.hid (s2.block' HPc.out)
  have HS2 := Lib.hid (HS1.out.trans s2)
  have HZ2 := Lib.hid (HZ1.out.sees s2)
  have HST2 := Lib.hid (HST.out.sees s2)
  have Hq : RowKit.Hid (W0'.heap.size < W1.heap.size ∧ w.heap.size < W0'.heap.size) := ⟨(Array.getElem?_eq_some_iff.1 HPc.out).1, by have := hW0s.out; omega⟩
  have HSZ : RowKit.Hid (W1.heap.size < W2.heap.size) := (Array.getElem?_eq_some_iff.1 HR2.out).1
  clear s2 hW2 HPc HS1 HZ1 HST hW0s
  generalize W0'.heap.size = wb at *
  generalize W1.heap.size = q at *
  go_wp2_with fail
  go_loopw [23] (fun x W => ∃ (i : Nat) (l : List Nat) (cur : Array Value), i ≤ 8 ∧ x = .int .i64 i ∧ l.length = i ∧ cur.size = 8 ∧ RowKit.Hid (∀ (j n : Nat), l[j]? = some n → cur[j]? = some (.int .u64 (n : Int)) ∧ n < 18446744073709551616 ∧ (j ≠ 3 → n ≤ 1000) ∧ ∃ p, (PB.map (·.data.toList))[j]? = some p ∧ Lib.parseUintB 64 p = .ok n) ∧ RowKit.Hid (W.heap[q]? = some (.cells cur 57 (0, 0))) ∧ RowKit.Hid (W.heap[wb]? = some (.cells (PB.map Value.string).toArray 9 (0, 0))) ∧ RowKit.Hid (Sees w W) ∧ RowKit.Hid (SvAt W w.heap.size zSv)) (fun x _ => 8 - (intOf x).toNat)
  case atStart => exact ⟨0, [], _, by omega, rfl, rfl, rfl, Lib.hid (fun j n h => by cases h), HR2, HPc2, HS2, HZ2⟩
  case round =>
    obtain ⟨i, l, cur, hi, rfl, hli, hcs, HL, HR, HP, HS, HZ⟩ := hrel
    by_cases hlt : i < 8
    · obtain ⟨x, hx⟩ : ∃ x, PB[i]? = some x := ⟨_, List.getElem?_eq_getElem (by have := HPL.out; omega)⟩
      have hc : wr.cell? ⟨wb, i, none⟩ = some (.string x) := by
        rw [Go.cell_of_row _ _ i _ _ _ HP.out, List.getElem?_toArray, List.getElem?_map, hx]
        rfl
      have Hx : RowKit.Hid ((PB.map (·.data.toList))[i]? = some x.data.toList) := by
        show _ = _
        rw [List.getElem?_map, hx]
        rfl
      have hxs := HPs.out x (List.mem_of_getElem? hx)
      have hpu := parseU_any x (by omega) wr (HW.out.sees HS.out)
      have Hi := Lib.hid hli
      clear hx hli
      go_wp2_with fail
      refine hpu.mono ?_
      rintro e W5 ⟨v, ev, rfl, hv, hvl, s5⟩
      have HR5 := Lib.hid (s5.block' HR.out)
      have HP5 := Lib.hid (s5.block' HP.out)
      have HS5 := Lib.hid (HS.out.trans s5)
      have HZ5 := Lib.hid (HZ.out.sees s5)
      clear s5 HR HP HS HZ hpu hc
      rcases hv with ⟨hok, rfl⟩ | ⟨hno, ty, pv, rfl⟩
      · have Hok := Lib.hid hok
        clear hok
        by_cases h3 : i = 3
        · have t3 : ((i : Int) != 3) = false := by rw [h3]; rfl
          have H3 := Lib.hid h3
          have hset := heap_setCell_same _ _ i _ _ (.int .u64 (v : Int)) HR5.out
          obtain ⟨old, hold⟩ : ∃ o, cur[i]? = some o := ⟨_, Array.getElem?_eq_getElem (by omega)⟩
          have hcq : W5.cell? ⟨q, i, none⟩ = some old := by rw [Go.cell_of_row _ _ i _ _ _ HR5.out, hold]
          have hfq := frozen_of_row W5 q i _ _ HR5.out
          have HR6 := Lib.hid hset
          have HP6 : RowKit.Hid ((W5.setCell ⟨q, i, none⟩ (.int .u64 (v : Int))).heap[wb]? = some (.cells (PB.map Value.string).toArray 9 (0, 0))) := by
            show _ = _
            rw [Below.heap_setCell _ _ _ _ (by have := Hq.out; dsimp only; omega)]
            exact HP5.out
          have HS6 := Lib.hid (HS5.out.setCell (p := ⟨q, i, none⟩) (by have := Hq.out; dsimp only; omega) (.int .u64 (v : Int)))
          have HZ6 := Lib.hid (HZ5.out.off (a := ⟨q, i, none⟩) (by have := Hq.out; dsimp only; omega) (.int .u64 (v : Int)))
          clear hset hold h3
          go_wp2
          go_roundw
          case rel => exact ⟨i + 1, l ++ [v], _, by omega, by go_num, by rw [List.length_append, Hi.out]; rfl, by rw [Array.size_setIfInBounds]; exact hcs, Lib.hid (nums_step HL.out Hi.out hcs hvl (fun h => by have := H3.out; omega) Hx.out Hok.out), HR6, HP6, HS6, HZ6⟩
          case measure => simp [intOf]; omega
        · have t3 : ((i : Int) != 3) = true := bne_iff_ne.2 (by omega)
          by_cases hbig : 1000 < v
          · have t4 : decide ((v : Int) > 1000) = true := decide_eq_true (by omega)
            have t5 : (1000 < (v : Int)) := by omega
            have Hbad : RowKit.Hid (∀ x : Sv, x.ok = true → x.Fits → x.text ≠ t) := parse_fail HPM.out i _ Hx.out (fun u hu => by rw [Hok.out] at hu; injection hu with hu; omega)
            have Z5 := HZ5.out
            clear h3
            go_wp2_with (first | (refine wpList_val rfl (exec_build_zero rfl) (fun K hK => ?_); go_simp; refine hK _ _ ?_; clear hK K) | (refine wpList_skip rfl (exec_store (v := zSv.val) rfl rfl rfl (run_storeSv Z5 zSv)) (fun K hK => ?_); go_simp; refine hK _ _ ?_; clear hK K))
            refine bodyPost_ret_by (results_sv (s := zSv) (v := .int .i64 6) rfl rfl rfl (SvAt.stored Z5 zSv)) rfl ⟨?_, ?_⟩
            · exact .inr ⟨Hbad.out, rfl⟩
            · exact Sees.setRow HS5.out (Nat.le_refl _) _
          · have t4 : decide ((v : Int) > 1000) = false := decide_eq_false (by omega)
            have t5 : ¬ (1000 < (v : Int)) := by omega
            have hset := heap_setCell_same _ _ i _ _ (.int .u64 (v : Int)) HR5.out
            obtain ⟨old, hold⟩ : ∃ o, cur[i]? = some o := ⟨_, Array.getElem?_eq_getElem (by omega)⟩
            have hcq : W5.cell? ⟨q, i, none⟩ = some old := by rw [Go.cell_of_row _ _ i _ _ _ HR5.out, hold]
            have hfq := frozen_of_row W5 q i _ _ HR5.out
            have HR6 := Lib.hid hset
            have HP6 : RowKit.Hid ((W5.setCell ⟨q, i, none⟩ (.int .u64 (v : Int))).heap[wb]? = some (.cells (PB.map Value.string).toArray 9 (0, 0))) := by
              show _ = _
              rw [Below.heap_setCell _ _ _ _ (by have := Hq.out; dsimp only; omega)]
              exact HP5.out
            have HS6 := Lib.hid (HS5.out.setCell (p := ⟨q, i, none⟩) (by have := Hq.out; dsimp only; omega) (.int .u64 (v : Int)))
            have HZ6 := Lib.hid (HZ5.out.off (a := ⟨q, i, none⟩) (by have := Hq.out; dsimp only; omega) (.int .u64 (v : Int)))
            clear hset hold h3
            go_wp2
            go_roundw
            case rel => exact ⟨i + 1, l ++ [v], _, by omega, by go_num, by rw [List.length_append, Hi.out]; rfl, by rw [Array.size_setIfInBounds]; exact hcs, Lib.hid (nums_step HL.out Hi.out hcs hvl (fun h => by omega) Hx.out Hok.out), HR6, HP6, HS6, HZ6⟩
            case measure => simp [intOf]; omega
      · have Hbad : RowKit.Hid (∀ x : Sv, x.ok = true → x.Fits → x.text ≠ t) := parse_fail HPM.out i _ Hx.out (fun u hu => absurd hu (hno u))
        have Z5 := HZ5.out
        clear hno
        go_wp2_with (first | (refine wpList_val rfl (exec_build_zero rfl) (fun K hK => ?_); go_simp; refine hK _ _ ?_; clear hK K) | (refine wpList_skip rfl (exec_store (v := zSv.val) rfl rfl rfl (run_storeSv Z5 zSv)) (fun K hK => ?_); go_simp; refine hK _ _ ?_; clear hK K))
        refine bodyPost_ret_by (results_sv (s := zSv) (v := .int .i64 6) rfl rfl rfl (SvAt.stored Z5 zSv)) rfl ⟨?_, ?_⟩
        · exact .inr ⟨Hbad.out, rfl⟩
        · exact Sees.setRow HS5.out (Nat.le_refl _) _
    · obtain rfl : i = 8 := by omega
      obtain ⟨n0, n1, n2, n3, n4, n5, n6, n7, rfl⟩ := list8 l hli
      have HN : RowKit.Hid (∀ x : Sv, x.ok = true → x.Fits → x.text = t → [n0, n1, n2, n3, n4, n5, n6, n7] = x.nums x.word) := fun x hx hf he => parse_nums HPM.out (fun j n hj => (HL.out j n hj).2.2.2) rfl hx hf he
      have c0 : wr.cell? ⟨q, 0, none⟩ = some (.int .u64 n0) := by rw [Go.cell_of_row _ _ _ _ _ _ HR.out]; exact (HL.out 0 n0 rfl).1
      have c1 : wr.cell? ⟨q, 1, none⟩ = some (.int .u64 n1) := by rw [Go.cell_of_row _ _ _ _ _ _ HR.out]; exact (HL.out 1 n1 rfl).1
      have c2 : wr.cell? ⟨q, 2, none⟩ = some (.int .u64 n2) := by rw [Go.cell_of_row _ _ _ _ _ _ HR.out]; exact (HL.out 2 n2 rfl).1
      have c3 : wr.cell? ⟨q, 3, none⟩ = some (.int .u64 n3) := by rw [Go.cell_of_row _ _ _ _ _ _ HR.out]; exact (HL.out 3 n3 rfl).1
      have c4 : wr.cell? ⟨q, 4, none⟩ = some (.int .u64 n4) := by rw [Go.cell_of_row _ _ _ _ _ _ HR.out]; exact (HL.out 4 n4 rfl).1
      have c5 : wr.cell? ⟨q, 5, none⟩ = some (.int .u64 n5) := by rw [Go.cell_of_row _ _ _ _ _ _ HR.out]; exact (HL.out 5 n5 rfl).1
      have c6 : wr.cell? ⟨q, 6, none⟩ = some (.int .u64 n6) := by rw [Go.cell_of_row _ _ _ _ _ _ HR.out]; exact (HL.out 6 n6 rfl).1
      have c7 : wr.cell? ⟨q, 7, none⟩ = some (.int .u64 n7) := by rw [Go.cell_of_row _ _ _ _ _ _ HR.out]; exact (HL.out 7 n7 rfl).1
      have b0 := (HL.out 0 n0 rfl).2.2.1 (by omega)
      have b1 := (HL.out 1 n1 rfl).2.2.1 (by omega)
      have b2 := (HL.out 2 n2 rfl).2.2.1 (by omega)
      have b3 := (HL.out 3 n3 rfl).2.1
      have b4 := (HL.out 4 n4 rfl).2.2.1 (by omega)
      have b5 := (HL.out 5 n5 rfl).2.2.1 (by omega)
      have b6 := (HL.out 6 n6 rfl).2.2.1 (by omega)
      have b7 := (HL.out 7 n7 rfl).2.2.1 (by omega)
      clear HL hcs hli
      by_cases hbig : 1152921504606846976 ≤ n3
      · have Hbad : RowKit.Hid (∀ x : Sv, x.ok = true → x.Fits → x.text ≠ t) := fun x hx hf he => by
          have h1 := HN.out x hx hf he
          have h2 := word_lt hf (x.ok_pen hx)
          unfold Sv.nums at h1
          simp only [List.cons.injEq] at h1
          omega
        have hu := unpack_big n3 b3 hbig wr
        clear c0 c1 c2 c4 c5 c6 c7 b0 b1 b2 b4 b5 b6 b7 hbig
        go_wp2_with fail
        refine hu.mono ?_
        rintro e W5 ⟨rfl, s5⟩
        have Z5 := (HZ.out.sees s5).sees ((Sees.refl W5).alloc (.cells #[.int .i64 0, .int .u8 0, .int .u8 0, .int .u8 0, .int .u8 0, .int .i64 0, .int .u8 0, .int .u8 0, .int .u8 0, .int .u8 0, .int .u8 0] 29))
        have S5 := (HS.out.trans s5).alloc (.cells #[.int .i64 0, .int .u8 0, .int .u8 0, .int .u8 0, .int .u8 0, .int .i64 0, .int .u8 0, .int .u8 0, .int .u8 0, .int .u8 0, .int .u8 0] 29)
        clear s5 hu c3
        go_wp2_with (first | (refine wpList_val rfl (exec_build_zero rfl) (fun K hK => ?_); go_simp; refine hK _ _ ?_; clear hK K) | (refine wpList_skip rfl (exec_store (v := zSv.val) rfl rfl rfl (run_storeSv Z5 zSv)) (fun K hK => ?_); go_simp; refine hK _ _ ?_; clear hK K))
        refine bodyPost_ret_by (results_sv (s := zSv) (v := .int .i64 6) rfl rfl rfl (SvAt.stored Z5 zSv)) rfl ⟨?_, ?_⟩
        · exact .inr ⟨Hbad.out, rfl⟩
        · exact Sees.setRow S5 (Nat.le_refl _) _
      · cases hpv : (mkSv n0 n1 n2 (foreN n3) (backN n3) (flagN n3) n4 n5 n6 n7).pen
        · have Hbad : RowKit.Hid (∀ x : Sv, x.ok = true → x.Fits → x.text ≠ t) := fun x hx hf he => by
            have h1 := HN.out x hx hf he
            have h2 := mk_back hx hf
            have h3 := x.ok_pen hx
            unfold Sv.nums at h1
            simp only [List.cons.injEq] at h1
            obtain ⟨k0, k1, k2, k3, k4, k5, k6, k7, -⟩ := h1
            subst k0 k1 k2 k3 k4 k5 k6 k7
            rw [h2] at hpv
            rw [hpv] at h3
            cases h3
          have hu := unpack_bad n3 b3 (by omega) hpv wr
          clear c0 c1 c2 c4 c5 c6 c7 b0 b1 b2 b4 b5 b6 b7 hbig hpv
          go_wp2_with fail
          refine hu.mono ?_
          rintro e W5 ⟨rfl, s5⟩
          have Z5 := (HZ.out.sees s5).sees ((Sees.refl W5).alloc (.cells #[.int .i64 0, .int .u8 0, .int .u8 0, .int .u8 0, .int .u8 0, .int .i64 0, .int .u8 0, .int .u8 0, .int .u8 0, .int .u8 0, .int .u8 0] 29))
          have S5 := (HS.out.trans s5).alloc (.cells #[.int .i64 0, .int .u8 0, .int .u8 0, .int .u8 0, .int .u8 0, .int .i64 0, .int .u8 0, .int .u8 0, .int .u8 0, .int .u8 0, .int .u8 0] 29)
          clear s5 hu c3
          go_wp2_with (first | (refine wpList_val rfl (exec_build_zero rfl) (fun K hK => ?_); go_simp; refine hK _ _ ?_; clear hK K) | (refine wpList_skip rfl (exec_store (v := zSv.val) rfl rfl rfl (run_storeSv Z5 zSv)) (fun K hK => ?_); go_simp; refine hK _ _ ?_; clear hK K))
          refine bodyPost_ret_by (results_sv (s := zSv) (v := .int .i64 6) rfl rfl rfl (SvAt.stored Z5 zSv)) rfl ⟨?_, ?_⟩
          · exact .inr ⟨Hbad.out, rfl⟩
          · exact Sees.setRow S5 (Nat.le_refl _) _
        · have hu := unpack_ok n3 b3 (by omega) hpv wr
          obtain ⟨X, hX⟩ : ∃ X, X = (mkSv n0 n1 n2 (foreN n3) (backN n3) (flagN n3) n4 n5 n6 n7) := ⟨_, rfl⟩
          have hfit : X.Fits := hX ▸ mk_fits n0 n1 n2 n4 n5 n6 n7 n3
          have hwd : X.word = n3 := hX ▸ mk_word (by omega) hpv
          have HBK : RowKit.Hid (∀ x : Sv, x.ok = true → x.Fits → x.text = t → X = x) := fun x hx hf he => by
            have h1 := HN.out x hx hf he
            have h2 := mk_back hx hf
            unfold Sv.nums at h1
            simp only [List.cons.injEq] at h1
            obtain ⟨k0, k1, k2, k3, k4, k5, k6, k7, -⟩ := h1
            rw [hX, k0, k1, k2, k3, k4, k5, k6, k7]
            exact h2
          have Hfit := Lib.hid hfit
          have HX := Lib.hid hX
          have v0 : IntKind.i64.wrap (n0 : Int) = n0 := IntWalk.i64_in _ (by omega)
          have v1 : IntKind.i64.wrap (n1 : Int) = n1 := IntWalk.i64_in _ (by omega)
          have v5 : IntKind.i64.wrap (n5 : Int) = n5 := IntWalk.i64_in _ (by omega)
          have v6 : IntKind.i64.wrap (n6 : Int) = n6 := IntWalk.i64_in _ (by omega)
          have v7 : IntKind.i64.wrap (n7 : Int) = n7 := IntWalk.i64_in _ (by omega)
          clear hbig hpv hX hfit hwd HN
          generalize foreN n3 = f at *
          generalize backN n3 = b at *
          generalize flagN n3 = fl at *
          go_wp2_with fail
          refine hu.mono ?_
          rintro e W5 ⟨rfl, s5⟩
          have s6 := s5.alloc (.cells #[.int .i64 f.kind, .int .u8 f.idx, .int .u8 f.r, .int .u8 f.g, .int .u8 f.b, .int .i64 b.kind, .int .u8 b.idx, .int .u8 b.r, .int .u8 b.g, .int .u8 b.b, .int .u8 fl] 29)
          have d0 := s6.cell c0
          have d1 := s6.cell c1
          have d2 := s6.cell c2
          have d4 := s6.cell c4
          have d5 := s6.cell c5
          have d6 := s6.cell c6
          have d7 := s6.cell c7
          clear c0 c1 c2 c3 c4 c5 c6 c7
          go_upto_region 17 with fail
          refine wp_world fun W6 hW6 => ?_
          have A6 : SvAt W6 (W5.heap.size + 1) X := by
            rw [HX.out, hW6]
            have h := SvAt.new (W5.alloc (.cells #[.int .i64 f.kind, .int .u8 f.idx, .int .u8 f.r, .int .u8 f.g, .int .u8 f.b, .int .i64 b.kind, .int .u8 b.idx, .int .u8 b.r, .int .u8 b.g, .int .u8 b.b, .int .u8 fl] 29)) (mkSv n0 n1 n2 f b fl n4 n5 n6 n7)
            rw [size_al] at h
            exact h
          have S6 : Sees w W6 := by
            rw [hW6]
            exact (HS.out.trans s6).alloc _
          have Z6 : SvAt W6 w.heap.size zSv := by
            rw [hW6]
            exact (HZ.out.sees s6).sees ((Sees.refl _).alloc _)
          clear hW6 s5 s6 d0 d1 d2 d4 d5 d6 d7 v0 v1 v5 v6 v7 hu b0 b1 b2 b3 b4 b5 b6 b7
          cases hok : X.ok
          · have Hbad : RowKit.Hid (∀ x : Sv, x.ok = true → x.Fits → x.text ≠ t) := fun x hx hf he => by
              rw [HBK.out x hx hf he, hx] at hok
              cases hok
            have ht := stext_bad X hok W6
            go_wp2_with (refine wpList_val rfl (exec_load (v := X.val) rfl rfl (run_loadSv A6)) (fun K hK => ?_); go_simp; refine hK _ _ ?_; clear hK K)
            refine ht.mono ?_
            rintro e W7 ⟨rfl, s7⟩
            have Z7 := Z6.sees s7
            have S7 := S6.trans s7
            clear ht Z6 S6 A6 s7
            go_wp2_with (first | (refine wpList_val rfl (exec_build_zero rfl) (fun K hK => ?_); go_simp; refine hK _ _ ?_; clear hK K) | (refine wpList_skip rfl (exec_store (v := zSv.val) rfl rfl rfl (run_storeSv Z7 zSv)) (fun K hK => ?_); go_simp; refine hK _ _ ?_; clear hK K))
            refine bodyPost_ret_by (results_sv (s := zSv) (v := .int .i64 6) rfl rfl rfl (SvAt.stored Z7 zSv)) rfl ⟨?_, ?_⟩
            · exact .inr ⟨Hbad.out, rfl⟩
            · exact Sees.setRow S7 (Nat.le_refl _) _
          · have ht := stext_ok X hok Hfit.out W6 (HW.out.sees S6)
            by_cases hT : X.text = t
            · have hne : ((⟨X.text.toArray⟩ : ByteArray).toList == T.toList) = true := by
                rw [Lib.toList_data, Lib.toList_data, beq_iff_eq, ← HTt.out, ← hT]
              have HT := Lib.hid hT
              have Hok := Lib.hid hok
              clear hT hok
              generalize (⟨X.text.toArray⟩ : ByteArray) = Y at ht hne
              go_wp2_with (refine wpList_val rfl (exec_load (v := X.val) rfl rfl (run_loadSv A6)) (fun K hK => ?_); go_simp; refine hK _ _ ?_; clear hK K)
              refine ht.mono ?_
              rintro e W7 ⟨rfl, s7⟩
              have A7 := A6.sees s7
              have Z7 := Z6.sees s7
              have S7 := S6.trans s7
              clear ht Z6 S6 A6 s7
              go_wp2_with (first
                | (refine wpList_val rfl (exec_load (v := X.val) rfl rfl (run_loadSv A7)) (fun K hK => ?_); go_simp; refine hK _ _ ?_; clear hK K)
                | (refine wpList_skip rfl (exec_store (v := X.val) rfl rfl rfl (run_storeSv Z7 X)) (fun K hK => ?_); go_simp; refine hK _ _ ?_; clear hK K))
              refine bodyPost_ret_by (results_sv (s := X) (v := .int .i64 0) rfl rfl rfl (SvAt.stored Z7 X)) rfl ⟨?_, ?_⟩
              · exact .inl ⟨X, Hok.out, Hfit.out, HT.out, rfl⟩
              · exact Sees.setRow S7 (Nat.le_refl _) _
            · have hne : ((⟨X.text.toArray⟩ : ByteArray).toList == T.toList) = false := by
                rw [Lib.toList_data, Lib.toList_data, beq_eq_false_iff_ne, ← HTt.out]
                exact hT
              have Hbad : RowKit.Hid (∀ x : Sv, x.ok = true → x.Fits → x.text ≠ t) := fun x hx hf he => by
                rw [HBK.out x hx hf he] at hT
                exact hT he
              clear hT
              generalize (⟨X.text.toArray⟩ : ByteArray) = Y at ht hne
              go_wp2_with (refine wpList_val rfl (exec_load (v := X.val) rfl rfl (run_loadSv A6)) (fun K hK => ?_); go_simp; refine hK _ _ ?_; clear hK K)
              refine ht.mono ?_
              rintro e W7 ⟨rfl, s7⟩
              have Z7 := Z6.sees s7
              have S7 := S6.trans s7
              clear ht Z6 S6 A6 s7
              go_wp2_with (first | (refine wpList_val rfl (exec_build_zero rfl) (fun K hK => ?_); go_simp; refine hK _ _ ?_; clear hK K) | (refine wpList_skip rfl (exec_store (v := zSv.val) rfl rfl rfl (run_storeSv Z7 zSv)) (fun K hK => ?_); go_simp; refine hK _ _ ?_; clear hK K))
              refine bodyPost_ret_by (results_sv (s := zSv) (v := .int .i64 6) rfl rfl rfl (SvAt.stored Z7 zSv)) rfl ⟨?_, ?_⟩
              · exact .inr ⟨Hbad.out, rfl⟩
              · exact Sees.setRow S7 (Nat.le_refl _) _
end Go.Proofs.YtfgifjdholdohaaDoor
