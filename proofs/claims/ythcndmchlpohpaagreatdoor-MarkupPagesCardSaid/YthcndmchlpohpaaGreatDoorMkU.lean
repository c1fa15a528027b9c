/- The law's decimal (48). The law's color (48). The law's tags (48). The law's marks (48). The tables hold what the program's text lays. The statements' comparison of runs (48). The tables hold what the program's text lays. No condition. -/
import Derived.Test.YthcndmchlpohpaaGreatDoorMkQ
namespace Go.Proofs.YthcndmchlpohpaaGreatDoor
set_option linter.unusedVariables false
set_option linter.unusedSimpArgs false
open Go.RowKit Go.Shelf
attribute [local go_sem] Oper.semAt_some

theorem one_string {w W : World} {a : Nat} (hg : w.heap[w.heap.size - 1]? = none ∨ True) (h : W.cell? ⟨w.heap.size, 0, none⟩ = some (.int .u8 (a : Int))) (ha : a < 256) : (convert 23 9 (.slice (some ⟨w.heap.size, 0, none⟩) 1 1)).run Tryz.prog W = .ok (.string (strL [UInt8.ofNat a])) W :=
  run_convert_bytes_back (P := Tryz.prog) W 23 9 5 ⟨w.heap.size, 0, none⟩ 1 [UInt8.ofNat a] Tryz.underlying23 Tryz.underlying5 Tryz.underlying9 (fun j hj => by
    have hj1 : j = 0 := by simp at hj; omega
    subst hj1
    rw [show (⟨w.heap.size, 0, none⟩ : Addr).add 0 = ⟨w.heap.size, 0, none⟩ by rw [addr_add, Nat.zero_add], h]
    have : (UInt8.ofNat a).toNat = a := by simp; omega
    simp [this])
set_option maxHeartbeats 1000000 in
theorem decimal_one (n : Nat) (hn : n < 10) (w : World) : Calls Tryz.prog 46 #[.int .i64 (n : Int)] w fun e w' => e = .returned (.string (strL (decN n))) ∧ Sees w w' := by
  have hd : decN n = [UInt8.ofNat (48 + n)] := by unfold decN; rw [if_pos hn]
  rw [hd]
  have h1 : (n : Int) < 10 := by omega
  have h2 : IntKind.i64.wrap (48 + (n : Int)) = ((48 + n : Nat) : Int) := by rw [IntWalk.i64_in _ (by omega)]; omega
  obtain ⟨m, hm⟩ : ∃ m, m = 48 + n := ⟨_, rfl⟩
  rw [← hm] at h2 ⊢
  have h3 : IntKind.u8.wrap (m : Int) = (m : Int) := by rw [IntKind.wrap_u8]; omega
  have hA : ∀ W : World, (W.alloc (.cells #[.int .u8 (m : Int)] 5)).cell? ⟨W.heap.size, 0, none⟩ = some (.int .u8 (m : Int)) := fun W => by rw [cell_of_row _ _ _ _ _ _ (heap_alloc_new W _)]; rfl
  have hC : ∀ W : World, (convert 23 9 (.slice (some ⟨W.heap.size, 0, none⟩) 1 1)).run Tryz.prog (W.alloc (.cells #[.int .u8 (m : Int)] 5)) = .ok (.string (strL [UInt8.ofNat m])) (W.alloc (.cells #[.int .u8 (m : Int)] 5)) := fun W => one_string (.inr trivial) (hA W) (by omega)
  clear hm hd
  go_enter Tryz.func46, Tryz.ntmps46
  go_wp2
  go_ret
  exact ⟨rfl, (Sees.refl w).alloc _⟩
set_option maxHeartbeats 1000000 in
theorem decimal_more (n q r : Nat) (hn : 10 ≤ n) (hn2 : n < 256) (hq : n / 10 = q) (hr : n % 10 = r) (w : World) (KD : ∀ W, Sees w W → Calls Tryz.prog 46 #[.int .i64 (q : Int)] W fun e w' => e = .returned (.string (strL (decN q))) ∧ Sees W w') :
    Calls Tryz.prog 46 #[.int .i64 (n : Int)] w fun e w' => e = .returned (.string (strL (decN q ++ [UInt8.ofNat (48 + r)]))) ∧ Sees w w' := by
  have KD2 := Lib.hid KD
  clear KD
  have h0 : ¬ (n : Int) < 10 := by omega
  have g1 : (n : Int).tdiv 10 = (q : Int) := by rw [Int.tdiv_eq_ediv_of_nonneg (by omega)]; omega
  have g1' : (n : Int) / 10 = (q : Int) := by omega
  have g2 : (n : Int).tmod 10 = (r : Int) := by rw [Int.tmod_eq_emod_of_nonneg (by omega)]; omega
  have g2' : (n : Int) % 10 = (r : Int) := by omega
  have wq : IntKind.i64.wrap (q : Int) = (q : Int) := IntWalk.i64_in _ (by omega)
  obtain ⟨m, hm⟩ : ∃ m, m = 48 + r := ⟨_, rfl⟩
  have wm : IntKind.i64.wrap (m : Int) = (m : Int) := IntWalk.i64_in _ (by omega)
  have g3 : IntKind.i64.wrap (48 + (r : Int)) = (m : Int) := by rw [IntWalk.i64_in _ (by omega)]; omega
  have g3' : 48 + (r : Int) = (m : Int) := by omega
  have g4 : IntKind.u8.wrap (m : Int) = (m : Int) := by rw [IntKind.wrap_u8]; omega
  have hm256 : m < 256 := by omega
  rw [← hm]
  have hdl : (strL (decN q)).size ≤ 3 := by rw [strL_size]; exact decN_len q
  have hol : (strL [UInt8.ofNat m]).size ≤ 1 := by rw [strL_size]; simp
  have hzz : (strL (decN q)).size + (strL [UInt8.ofNat m]).size ≤ 9223372036854775807 := by omega
  have hcat : strL (decN q) ++ strL [UInt8.ofNat m] = strL (decN q ++ [UInt8.ofNat m]) := strL_app _ _
  have HCAT := Lib.hid hcat
  clear hm hq hr hcat
  go_enter Tryz.func46, Tryz.ntmps46
  go_upto_region 3 with fail
  refine wpH_go (fun _ => False) 11 (by kernel_rfl) (by kernel_rfl) (by rfl) (fun hB v0 hs9 => ?_)
  have S0 := Lib.hid hs9
  have hS0 : Keeps (fun _ => False) v0 v0 := Keeps.refl _ v0
  clear hs9
  refine wpH_take (i := 0) (v := .int .i64 (n : Int)) hB (by rfl) (by kernel_rfl) (fun _ _ _ _ _ h => h) (by rfl) hS0 (fun W hI => by clear hI; go_simp) ?_; (try simp only [Act.put, List.setIfInBounds_toArray, List.set_cons_zero, List.set_cons_succ])
  refine wpH_take (i := 1) (v := .int .i64 (q : Int)) hB (by rfl) (by kernel_rfl) (fun _ _ _ _ _ h => h) (by rfl) hS0 (fun W hI => by clear hI; go_simp) ?_; (try simp only [Act.put, List.setIfInBounds_toArray, List.set_cons_zero, List.set_cons_succ])
  refine wpH_take (i := 3) (v := .int .i64 (n : Int)) hB (by rfl) (by kernel_rfl) (fun _ _ _ _ _ h => h) (by rfl) hS0 (fun W hI => by clear hI; go_simp) ?_; (try simp only [Act.put, List.setIfInBounds_toArray, List.set_cons_zero, List.set_cons_succ])
  refine wpH_take (i := 4) (v := .int .i64 (r : Int)) hB (by rfl) (by kernel_rfl) (fun _ _ _ _ _ h => h) (by rfl) hS0 (fun W hI => by clear hI; go_simp) ?_; (try simp only [Act.put, List.setIfInBounds_toArray, List.set_cons_zero, List.set_cons_succ])
  refine wpH_take (i := 5) (v := .int .i64 (m : Int)) hB (by rfl) (by kernel_rfl) (fun _ _ _ _ _ h => h) (by rfl) hS0 (fun W hI => by clear hI; go_simp) ?_; (try simp only [Act.put, List.setIfInBounds_toArray, List.set_cons_zero, List.set_cons_succ])
  refine wpH_take (i := 6) (v := .int .u8 (m : Int)) hB (by rfl) (by kernel_rfl) (fun _ _ _ _ _ h => h) (by rfl) hS0 (fun W hI => by clear hI; go_simp) ?_; (try simp only [Act.put, List.setIfInBounds_toArray, List.set_cons_zero, List.set_cons_succ])
  refine wpH_two (i := 2) (j := 7) (by kernel_rfl) ?_ ?_
  · refine wpOp_enter (fn := 46) (args := #[.int .i64 (q : Int)]) (by rfl) (by rfl) (by go_simp) ((KD2.out _ S0.out).mono ?_)
    rintro ee v1 ⟨rfl, hs⟩
    have hS1 := hS0.trans (Keeps.of_sees hs)
    refine ⟨_, rfl, hS1, ?_⟩
    (try simp only [Act.put, List.setIfInBounds_toArray, List.set_cons_zero, List.set_cons_succ])
    have S1 := Lib.hid (S0.out.trans hs)
    have hs2 : Sees v1 (v1.alloc (.cells #[.int .u8 (m : Int)] 5)) := (Sees.refl _).alloc _
    have hS2 := hS1.trans (Keeps.of_sees hs2)
    refine wpH_one (i := 7) (by kernel_rfl) (wpOp_val (v := .slice (some ⟨v1.heap.size, 0, none⟩) 1 1) (w' := v1.alloc (.cells #[.int .u8 (m : Int)] 5)) (by rfl) (wanted_none (by rfl) _) (by go_simp) ⟨hS2, ?_⟩)
    (try simp only [Act.put, List.setIfInBounds_toArray, List.set_cons_zero, List.set_cons_succ])
    have hg : (v1.alloc (.cells #[.int .u8 (m : Int)] 5)).cell? ⟨v1.heap.size, 0, none⟩ = some (.int .u8 (m : Int)) := by rw [cell_of_row _ _ _ _ _ _ (heap_alloc_new v1 _)]; rfl
    have S2 := Lib.hid (S1.out.trans hs2)
    clear hS0 hs hs2
    refine wpH_one (i := 8) (by kernel_rfl) (wpOp_val (v := .string (strL [UInt8.ofNat m])) (w' := v1.alloc (.cells #[.int .u8 (m : Int)] 5)) (by rfl) (wanted_none (by rfl) _) (exec_conv rfl (by go_simp) (one_string (.inr trivial) hg hm256)) ⟨hS2, ?_⟩)
    (try simp only [Act.put, List.setIfInBounds_toArray, List.set_cons_zero, List.set_cons_succ])
    have hS0 := hS2
    refine wpH_take (i := 9) (v := .string (strL (decN q) ++ strL [UInt8.ofNat m])) hB (by rfl) (by kernel_rfl) (fun _ _ _ _ _ h => h) (by rfl) hS0 (fun W hI => by clear hI; go_simp) ?_; (try simp only [Act.put, List.setIfInBounds_toArray, List.set_cons_zero, List.set_cons_succ])
    refine wpH_take (i := 10) (v := .string (strL (decN q) ++ strL [UInt8.ofNat m])) hB (by rfl) (by kernel_rfl) (fun _ _ _ _ _ h => h) (by rfl) hS0 (fun W hI => by clear hI; go_simp) ?_; (try simp only [Act.put, List.setIfInBounds_toArray, List.set_cons_zero, List.set_cons_succ])
    refine wpH_end (by kernel_rfl) ?_
    clear hS0 hS1 hS2 hB
    go_wp2
    go_ret
    exact ⟨by rw [← HCAT.out]; rfl, S2.out⟩
  · have hs2 : Sees v0 (v0.alloc (.cells #[.int .u8 (m : Int)] 5)) := (Sees.refl _).alloc _
    have hS2 := hS0.trans (Keeps.of_sees hs2)
    refine wpOp_val (v := .slice (some ⟨v0.heap.size, 0, none⟩) 1 1) (w' := v0.alloc (.cells #[.int .u8 (m : Int)] 5)) (by rfl) (wanted_none (by rfl) _) (by go_simp) ⟨hS2, ?_⟩
    (try simp only [Act.put, List.setIfInBounds_toArray, List.set_cons_zero, List.set_cons_succ])
    have hg : (v0.alloc (.cells #[.int .u8 (m : Int)] 5)).cell? ⟨v0.heap.size, 0, none⟩ = some (.int .u8 (m : Int)) := by rw [cell_of_row _ _ _ _ _ _ (heap_alloc_new v0 _)]; rfl
    have S2 := Lib.hid (S0.out.trans hs2)
    have HG := Lib.hid hg
    have hSx := hS0
    clear hS0 hs2 hg
    have hS0 := hS2
    have hlt : v0.heap.size < (v0.alloc (.cells #[.int .u8 (m : Int)] 5)).heap.size := by rw [World.size_alloc]; omega
    have HC : Hid (∀ W, Sees (v0.alloc (.cells #[.int .u8 (m : Int)] 5)) W → (convert 23 9 (.slice (some ⟨v0.heap.size, 0, none⟩) 1 1)).run Tryz.prog W = .ok (.string (strL [UInt8.ofNat m])) W) := fun W hW => one_string (w := v0) (.inr trivial) (hW.cell HG.out) hm256
    refine wpH_two (i := 2) (j := 8) (by kernel_rfl) ?_ ?_
    · refine wpOp_enter (fn := 46) (args := #[.int .i64 (q : Int)]) (by rfl) (by rfl) (by go_simp) ((KD2.out _ S2.out).mono ?_)
      rintro ee v1 ⟨rfl, hs⟩
      have hS1 := hS0.trans (Keeps.of_sees hs)
      refine ⟨_, rfl, hS1, ?_⟩
      (try simp only [Act.put, List.setIfInBounds_toArray, List.set_cons_zero, List.set_cons_succ])
      have S3 := Lib.hid (S2.out.trans hs)
      have HC2 := Lib.hid (HC.out v1 hs)
      clear hS0 hs hS2 hSx
      refine wpH_one (i := 8) (by kernel_rfl) (wpOp_val (v := .string (strL [UInt8.ofNat m])) (w' := v1) (by rfl) (wanted_none (by rfl) _) (exec_conv rfl (by go_simp) HC2.out) ⟨hS1, ?_⟩)
      (try simp only [Act.put, List.setIfInBounds_toArray, List.set_cons_zero, List.set_cons_succ])
      have hS0 := hS1
      refine wpH_take (i := 9) (v := .string (strL (decN q) ++ strL [UInt8.ofNat m])) hB (by rfl) (by kernel_rfl) (fun _ _ _ _ _ h => h) (by rfl) hS0 (fun W hI => by clear hI; go_simp) ?_; (try simp only [Act.put, List.setIfInBounds_toArray, List.set_cons_zero, List.set_cons_succ])
      refine wpH_take (i := 10) (v := .string (strL (decN q) ++ strL [UInt8.ofNat m])) hB (by rfl) (by kernel_rfl) (fun _ _ _ _ _ h => h) (by rfl) hS0 (fun W hI => by clear hI; go_simp) ?_; (try simp only [Act.put, List.setIfInBounds_toArray, List.set_cons_zero, List.set_cons_succ])
      refine wpH_end (by kernel_rfl) ?_
      clear hS0 hB
      go_wp2
      go_ret
      exact ⟨by rw [← HCAT.out]; rfl, S3.out⟩
    · refine wpOp_val (v := .string (strL [UInt8.ofNat m])) (w' := v0.alloc (.cells #[.int .u8 (m : Int)] 5)) (by rfl) (wanted_none (by rfl) _) (exec_conv rfl (by go_simp) (HC.out _ (Sees.refl _))) ⟨hS0, ?_⟩
      (try simp only [Act.put, List.setIfInBounds_toArray, List.set_cons_zero, List.set_cons_succ])
      refine wpH_one (i := 2) (by kernel_rfl) (wpOp_enter (fn := 46) (args := #[.int .i64 (q : Int)]) (by rfl) (by rfl) (by go_simp) ((KD2.out _ S2.out).mono ?_))
      rintro ee v1 ⟨rfl, hs⟩
      have hS1 := hS0.trans (Keeps.of_sees hs)
      refine ⟨_, rfl, hS1, ?_⟩
      (try simp only [Act.put, List.setIfInBounds_toArray, List.set_cons_zero, List.set_cons_succ])
      have S3 := Lib.hid (S2.out.trans hs)
      clear hS0 hs hS2 hSx
      have hS0 := hS1
      refine wpH_take (i := 9) (v := .string (strL (decN q) ++ strL [UInt8.ofNat m])) hB (by rfl) (by kernel_rfl) (fun _ _ _ _ _ h => h) (by rfl) hS0 (fun W hI => by clear hI; go_simp) ?_; (try simp only [Act.put, List.setIfInBounds_toArray, List.set_cons_zero, List.set_cons_succ])
      refine wpH_take (i := 10) (v := .string (strL (decN q) ++ strL [UInt8.ofNat m])) hB (by rfl) (by kernel_rfl) (fun _ _ _ _ _ h => h) (by rfl) hS0 (fun W hI => by clear hI; go_simp) ?_; (try simp only [Act.put, List.setIfInBounds_toArray, List.set_cons_zero, List.set_cons_succ])
      refine wpH_end (by kernel_rfl) ?_
      clear hS0 hB
      go_wp2
      go_ret
      exact ⟨by rw [← HCAT.out]; rfl, S3.out⟩
theorem decimal_any (n : Nat) (hn : n < 256) (w : World) : Calls Tryz.prog 46 #[.int .i64 (n : Int)] w fun e w' => e = .returned (.string (strL (decN n))) ∧ Sees w w' := by
  by_cases h1 : n < 10
  · exact decimal_one n h1 w
  · by_cases h2 : n < 100
    · have q := decimal_more n (n / 10) (n % 10) (by omega) hn rfl rfl w (fun W _ => decimal_one (n / 10) (by omega) W)
      rw [show decN (n / 10) ++ [UInt8.ofNat (48 + n % 10)] = decN n by unfold decN; rw [if_pos (by omega), if_neg h1, if_pos h2]; rfl] at q
      exact q
    · have q := decimal_more n (n / 10) (n % 10) (by omega) hn rfl rfl w (fun W _ => by
        have q2 := decimal_more (n / 10) (n / 10 / 10) (n / 10 % 10) (by omega) (by omega) rfl rfl W (fun W' _ => decimal_one (n / 10 / 10) (by omega) W')
        have e0 : decN (n / 10 / 10) ++ [UInt8.ofNat (48 + n / 10 % 10)] = decN (n / 10) := by
          have e1 : decN (n / 10) = [UInt8.ofNat (48 + n / 10 / 10), UInt8.ofNat (48 + n / 10 % 10)] := by unfold decN; rw [if_neg (by omega), if_pos (by omega)]
          have e2 : decN (n / 10 / 10) = [UInt8.ofNat (48 + n / 10 / 10)] := by unfold decN; rw [if_pos (by omega)]
          rw [e1, e2]
          rfl
        rw [e0] at q2
        exact q2)
      rw [show decN (n / 10) ++ [UInt8.ofNat (48 + n % 10)] = decN n by
        have e1 : decN (n / 10) = [UInt8.ofNat (48 + n / 10 / 10), UInt8.ofNat (48 + n / 10 % 10)] := by unfold decN; rw [if_neg (by omega), if_pos (by omega)]
        rw [e1]
        unfold decN
        rw [if_neg h1, if_neg h2, Nat.div_div_eq_div_mul]
        rfl] at q
      exact q
end Go.Proofs.YthcndmchlpohpaaGreatDoor

namespace Go.Proofs.YthcndmchlpohpaaGreatDoor
set_option linter.unusedVariables false
set_option linter.unusedSimpArgs false
open Go.RowKit Go.Shelf
attribute [local go_sem] Oper.semAt_some

set_option maxHeartbeats 1000000 in
theorem lcolor_one (sg : UInt8) (i r g b : Nat) (hi : i < 256) (w : World) :
    Calls Tryz.prog 30 #[.string (strL [sg]), .agg #[.int .i64 1, .int .u8 (i : Int), .int .u8 (r : Int), .int .u8 (g : Int), .int .u8 (b : Int)]] w fun e w' => e = .returned (.string (strL (sg :: decN i))) ∧ Sees w w' := by
  have KD := Lib.hid (fun W => decimal_any i hi W)
  have hz : (strL [sg]).size ≤ 1 := by rw [strL_size]; simp
  have hz2 : (strL (decN i)).size ≤ 3 := by rw [strL_size]; exact decN_len i
  have HCAT : Hid (strL [sg] ++ strL (decN i) = strL (sg :: decN i)) := strL_app _ _
  go_enter Tryz.func30, Tryz.ntmps30
  go_upto_region 1 with fail
  refine wp_world fun W1 hW1 => ?_
  have C1 : ClAt W1 w.heap.size 1 i r g b := by subst hW1; exact heap_alloc_new w _
  have S1 : Hid (Sees w W1) := by subst hW1; exact (Sees.refl w).alloc _
  obtain ⟨c0, c1, c2, c3, c4⟩ := C1.c
  clear hW1 C1
  go_wp2_with fail
  refine (KD.out _).mono ?_
  rintro e W2 ⟨rfl, s2⟩
  have S2 := Lib.hid (S1.out.trans s2)
  clear s2 c0 c1 c2 c3 c4
  go_wp2
  go_ret
  exact ⟨by rw [← HCAT.out]; rfl, S2.out⟩
set_option maxHeartbeats 1000000 in
theorem lcolor_none (sg : UInt8) (k : Int) (i r g b : Nat) (h1 : k ≠ 1) (h2 : k ≠ 2) (w : World) :
    Calls Tryz.prog 30 #[.string (strL [sg]), .agg #[.int .i64 k, .int .u8 (i : Int), .int .u8 (r : Int), .int .u8 (g : Int), .int .u8 (b : Int)]] w fun e w' => e = .returned (.string (strL [])) ∧ Sees w w' := by
  have g1 : (k == 1) = false := by simpa using h1
  have g2 : (k == 2) = false := by simpa using h2
  go_enter Tryz.func30, Tryz.ntmps30
  go_upto_region 1 with fail
  refine wp_world fun W1 hW1 => ?_
  have C1 : ClAt W1 w.heap.size k i r g b := by subst hW1; exact heap_alloc_new w _
  have S1 : Hid (Sees w W1) := by subst hW1; exact (Sees.refl w).alloc _
  obtain ⟨c0, c1, c2, c3, c4⟩ := C1.c
  clear hW1 C1
  go_wp2
  go_ret
  exact ⟨rfl, S1.out⟩
theorem dig_extract (q : Nat) (hq : q < 16) : (⟨#[48, 49, 50, 51, 52, 53, 54, 55, 56, 57, 97, 98, 99, 100, 101, 102]⟩ : ByteArray).extract q (q + 1) = strL [hexD q] := by
  rcases (show q = 0 ∨ q = 1 ∨ q = 2 ∨ q = 3 ∨ q = 4 ∨ q = 5 ∨ q = 6 ∨ q = 7 ∨ q = 8 ∨ q = 9 ∨ q = 10 ∨ q = 11 ∨ q = 12 ∨ q = 13 ∨ q = 14 ∨ q = 15 by omega) with rfl | rfl | rfl | rfl | rfl | rfl | rfl | rfl | rfl | rfl | rfl | rfl | rfl | rfl | rfl | rfl <;> rfl
def rgbN (r g b j : Nat) : Nat := if j = 0 then r else if j = 1 then g else b
def rgbL (r g b : Nat) : Nat → List UInt8
  | 0 => []
  | j + 1 => rgbL r g b j ++ hexL (rgbN r g b j)
set_option maxHeartbeats 2000000 in
set_option maxRecDepth 100000 in
theorem lcolor_two (sg : UInt8) (i r g b : Nat) (hr : r < 256) (hg : g < 256) (hb : b < 256) (w : World) :
    Calls Tryz.prog 30 #[.string (strL [sg]), .agg #[.int .i64 2, .int .u8 (i : Int), .int .u8 (r : Int), .int .u8 (g : Int), .int .u8 (b : Int)]] w fun e w' => e = .returned (.string (strL (sg :: 35 :: rgbL r g b 3))) ∧ Sees w w' := by
  have hz : (strL [sg]).size ≤ 1 := by rw [strL_size]; simp
  have hcat0 : strL [sg] ++ ⟨#[35]⟩ = strL [sg, 35] := strL_app [sg] [35]
  go_enter Tryz.func30, Tryz.ntmps30
  go_upto_region 1 with fail
  refine wp_world fun W1 hW1 => ?_
  have C1 : ClAt W1 w.heap.size 2 i r g b := by subst hW1; exact heap_alloc_new w _
  have S1 : Hid (Sees w W1) := by subst hW1; exact (Sees.refl w).alloc _
  obtain ⟨c0, c1, c2, c3, c4⟩ := C1.c
  clear hW1 C1
  go_wp2
  go_loopw [31, 5] (fun u v W => ∃ j : Nat, j ≤ 3 ∧ u = .int .i64 j ∧ v = .string (strL (sg :: 35 :: rgbL r g b j)) ∧ Sees (W1.alloc (.cells #[.int .u8 (r : Int), .int .u8 (g : Int), .int .u8 (b : Int)] 5)) W) (fun u _ _ => 3 - (intOf u).toNat)
  case atStart => exact ⟨0, by omega, rfl, rfl, Sees.refl _⟩
  case round =>
    obtain ⟨j, hj, rfl, rfl, hS⟩ := hrel
    clear c0 c1 c2 c3 c4 hcat0
    by_cases hlt : j < 3
    · obtain ⟨m, hm⟩ : ∃ m, m = rgbN r g b j := ⟨_, rfl⟩
      have hm256 : m < 256 := by rw [hm]; unfold rgbN; split; exact hr; split; exact hg; exact hb
      have hrow := heap_alloc_new W1 (.cells #[.int .u8 (r : Int), .int .u8 (g : Int), .int .u8 (b : Int)] 5)
      have hc : wr.cell? ⟨W1.heap.size, j, none⟩ = some (.int .u8 (m : Int)) := hS.cell (by
        rw [cell_of_row _ _ _ _ _ _ hrow, hm]
        rcases (show j = 0 ∨ j = 1 ∨ j = 2 by omega) with rfl | rfl | rfl <;> rfl)
      obtain ⟨q, hq⟩ : ∃ q, q = m / 16 := ⟨_, rfl⟩
      obtain ⟨x, hx⟩ : ∃ x, x = m % 16 := ⟨_, rfl⟩
      have g1 : (m : Int) / 16 = (q : Int) := by omega
      have g1' : (m : Int).tdiv 16 = (q : Int) := by rw [Int.tdiv_eq_ediv_of_nonneg (by omega)]; omega
      have g2 : (m : Int) % 16 = (x : Int) := by omega
      have g2' : (m : Int).tmod 16 = (x : Int) := by rw [Int.tmod_eq_emod_of_nonneg (by omega)]; omega
      have w1 : IntKind.u8.wrap (q : Int) = (q : Int) := by rw [IntKind.wrap_u8]; omega
      have w2 : IntKind.u8.wrap (x : Int) = (x : Int) := by rw [IntKind.wrap_u8]; omega
      have w3 : IntKind.u8.wrap ((q : Int) + 1) = (q : Int) + 1 := by rw [IntKind.wrap_u8]; omega
      have w4 : IntKind.u8.wrap ((x : Int) + 1) = (x : Int) + 1 := by rw [IntKind.wrap_u8]; omega
      have hq16 : q < 16 := by omega
      have hx16 : x < 16 := by omega
      have t1 : ((q : Int) + 1).toNat = q + 1 := by omega
      have t2 : ((x : Int) + 1).toNat = x + 1 := by omega
      have d1 := dig_extract q hq16
      have d2 := dig_extract x hx16
      have b1 : ¬ ((q : Int) + 1 < (q : Int)) := by omega
      have b3 : (q : Int) + 1 ≤ 16 := by omega
      have b4 : (x : Int) + 1 ≤ 16 := by omega
      have hz1 : (strL [hexD q]).size ≤ 1 := by rw [strL_size]; simp
      have hz2 : (strL [hexD x]).size ≤ 1 := by rw [strL_size]; simp
      obtain ⟨X, hX⟩ : ∃ X, X = sg :: 35 :: rgbL r g b j := ⟨_, rfl⟩
      have hzX : (strL X).size ≤ 8 := by
        rw [strL_size, hX]
        rcases (show j = 0 ∨ j = 1 ∨ j = 2 by omega) with rfl | rfl | rfl <;> simp [rgbL, hexL]
      have HST : Hid (strL X ++ strL [hexD q] ++ strL [hexD x] = strL (sg :: 35 :: rgbL r g b (j + 1))) := by
        unfold RowKit.Hid
        rw [strL_app, strL_app, hX, rgbL, ← hm, hexL, ← hq, ← hx]
        simp
      rw [← hX]
      have HS := Lib.hid hS
      clear hrow hS hX hm hq hx
      go_upto_region 10 with fail
      refine wp_region_quiet_below (by kernel_rfl) (by kernel_rfl) ?_
      repeat (first | go_big_quiet_skip | (go_big_quiet_want; go_big_quiet_op; go_big_quiet_on))
      refine wpQuiet_nil ?_; intro w2 hw2'; have hw2 := regrown_sees hw2'; clear hw2'
      have HS2 := Lib.hid (HS.out.trans hw2)
      clear hw2 hc
      go_wp2
      go_roundw
      case rel => exact ⟨j + 1, by omega, by go_num, by rw [← HST.out], HS2.out⟩
      case measure => simp [intOf]; omega
    · obtain rfl : j = 3 := by omega
      have HS := Lib.hid ((S1.out.alloc (.cells #[.int .u8 (r : Int), .int .u8 (g : Int), .int .u8 (b : Int)] 5)).trans hS)
      clear hS
      go_wp2
      go_ret
      exact ⟨rfl, HS.out⟩
theorem lcolor_any (sg : UInt8) (k : Int) (i r g b : Nat) (hi : i < 256) (hr : r < 256) (hg : g < 256) (hb : b < 256) (w : World) :
    Calls Tryz.prog 30 #[.string (strL [sg]), .agg #[.int .i64 k, .int .u8 (i : Int), .int .u8 (r : Int), .int .u8 (g : Int), .int .u8 (b : Int)]] w fun e w' => e = .returned (.string (strL (tagC sg k i r g b))) ∧ Sees w w' := by
  unfold tagC
  by_cases h1 : k = 1
  · subst h1
    rw [if_pos rfl, show (i : Int).toNat = i from rfl]
    exact lcolor_one sg i r g b hi w
  · rw [if_neg h1]
    by_cases h2 : k = 2
    · subst h2
      have q := lcolor_two sg i r g b hr hg hb w
      have e : rgbL r g b 3 = hexL (r : Int).toNat ++ hexL (g : Int).toNat ++ hexL (b : Int).toNat := by simp [rgbL, rgbN]
      rw [e] at q
      rw [if_pos rfl]
      exact q
    · rw [if_neg h2]
      exact lcolor_none sg k i r g b h1 h2 w
end Go.Proofs.YthcndmchlpohpaaGreatDoor

namespace Go.Proofs.YthcndmchlpohpaaGreatDoor
set_option linter.unusedVariables false
set_option linter.unusedSimpArgs false
open Go.RowKit Go.Shelf
attribute [local go_sem] Oper.semAt_some

theorem let_extract (j : Nat) (hj : j < 8) : ∃ x, letL[j]? = some x ∧ (⟨#[98, 102, 105, 117, 108, 118, 104, 115]⟩ : ByteArray).extract j (j + 1) = strL [x] := by
  rcases (show j = 0 ∨ j = 1 ∨ j = 2 ∨ j = 3 ∨ j = 4 ∨ j = 5 ∨ j = 6 ∨ j = 7 by omega) with rfl | rfl | rfl | rfl | rfl | rfl | rfl | rfl <;> exact ⟨_, rfl, rfl⟩
theorem run_loadForeV {W : World} {b : Nat} {q : Cell} (h : PeAt W b q) : (Instr.loadAt 37 (.pointer (some ⟨b, 0, none⟩))).run Tryz.prog W = .ok (.agg #[.int .i64 q.f0, .int .u8 q.f1, .int .u8 q.f2, .int .u8 q.f3, .int .u8 q.f4]) W :=
  run_load_agg 37 b 0 [.int .i64 q.f0, .int .u8 q.f1, .int .u8 q.f2, .int .u8 q.f3, .int .u8 q.f4] co_isAgg co_sizeOf fun j x hx => by
    have hj : j < 5 := (List.getElem?_eq_some_iff.1 hx).1
    rw [Nat.zero_add, cell_of_row _ _ _ _ _ _ h]
    rcases (show j = 0 ∨ j = 1 ∨ j = 2 ∨ j = 3 ∨ j = 4 by omega) with rfl | rfl | rfl | rfl | rfl <;> exact hx
theorem run_loadBackV {W : World} {b : Nat} {q : Cell} (h : PeAt W b q) : (Instr.loadAt 37 (.pointer (some ⟨b, 5, none⟩))).run Tryz.prog W = .ok (.agg #[.int .i64 q.b0, .int .u8 q.b1, .int .u8 q.b2, .int .u8 q.b3, .int .u8 q.b4]) W :=
  run_load_agg 37 b 5 [.int .i64 q.b0, .int .u8 q.b1, .int .u8 q.b2, .int .u8 q.b3, .int .u8 q.b4] co_isAgg co_sizeOf fun j x hx => by
    have hj : j < 5 := (List.getElem?_eq_some_iff.1 hx).1
    rw [cell_of_row _ _ _ _ _ _ h]
    rcases (show j = 0 ∨ j = 1 ∨ j = 2 ∨ j = 3 ∨ j = 4 by omega) with rfl | rfl | rfl | rfl | rfl <;> exact hx
theorem lcolor_int (sg : UInt8) (k i r g b : Int) (hi : 0 ≤ i ∧ i < 256) (hr : 0 ≤ r ∧ r < 256) (hg : 0 ≤ g ∧ g < 256) (hb : 0 ≤ b ∧ b < 256) (w : World) :
    Calls Tryz.prog 30 #[.string (strL [sg]), .agg #[.int .i64 k, .int .u8 i, .int .u8 r, .int .u8 g, .int .u8 b]] w fun e w' => e = .returned (.string (strL (tagC sg k i r g b))) ∧ Sees w w' := by
  obtain ⟨i, rfl⟩ : ∃ n : Nat, i = n := ⟨i.toNat, by omega⟩
  obtain ⟨r, rfl⟩ : ∃ n : Nat, r = n := ⟨r.toNat, by omega⟩
  obtain ⟨g, rfl⟩ : ∃ n : Nat, g = n := ⟨g.toNat, by omega⟩
  obtain ⟨b, rfl⟩ : ∃ n : Nat, b = n := ⟨b.toNat, by omega⟩
  exact lcolor_any sg k i r g b (by omega) (by omega) (by omega) (by omega) w
set_option maxHeartbeats 2000000 in
set_option maxRecDepth 100000 in
theorem ltags_any (c : Cell) (hb : c.Bd) (w : World) :
    Calls Tryz.prog 17 #[c.pen] w fun e w' => e = .returned (.string (strL (tagsL c))) ∧ Sees w w' := by
  obtain ⟨n, hn⟩ : ∃ n : Nat, n = c.flags.toNat := ⟨_, rfl⟩
  have hfl : c.flags = (n : Int) := by have := hb.fl; omega
  have hn256 : n < 256 := by have := hb.fl; omega
  have HFL := Lib.hid hfl
  clear hfl
  obtain ⟨T1, hT1⟩ : ∃ T, T = tagC 43 c.f0 c.f1 c.f2 c.f3 c.f4 := ⟨_, rfl⟩
  obtain ⟨T2, hT2⟩ : ∃ T, T = tagC 45 c.b0 c.b1 c.b2 c.b3 c.b4 := ⟨_, rfl⟩
  have hTL : tagsL c = flagTo n 8 ++ T1 ++ T2 := by unfold tagsL; rw [← hn, hT1, hT2]; rfl
  have KF : Hid (∀ W, Calls Tryz.prog 30 #[.string ⟨#[43]⟩, .agg #[.int .i64 c.f0, .int .u8 c.f1, .int .u8 c.f2, .int .u8 c.f3, .int .u8 c.f4]] W fun e w' => e = .returned (.string (strL T1)) ∧ Sees W w') := fun W => by rw [hT1]; exact lcolor_int 43 _ _ _ _ _ hb.f1 hb.f2 hb.f3 hb.f4 W
  have KB : Hid (∀ W, Calls Tryz.prog 30 #[.string ⟨#[45]⟩, .agg #[.int .i64 c.b0, .int .u8 c.b1, .int .u8 c.b2, .int .u8 c.b3, .int .u8 c.b4]] W fun e w' => e = .returned (.string (strL T2)) ∧ Sees W w') := fun W => by rw [hT2]; exact lcolor_int 45 _ _ _ _ _ hb.b1 hb.b2 hb.b3 hb.b4 W
  have z1 : (strL T1).size ≤ 8 := by rw [strL_size, hT1]; exact tagC_len _ _ _ _ _ _
  have z2 : (strL T2).size ≤ 8 := by rw [strL_size, hT2]; exact tagC_len _ _ _ _ _ _
  rw [hTL]
  have H0 : Hid (∀ X, X = w.alloc (.cells c.pvals.toArray 40) → Sees w X ∧ PeAt X w.heap.size c) := by
    rintro X rfl
    exact ⟨(Sees.refl w).alloc _, heap_alloc_new w _⟩
  clear hTL hT1 hT2 hn
  unfold Cell.pen
  go_enter Tryz.func17, Tryz.ntmps17
  go_upto_region 1 with fail
  refine wp_world fun W1 hW1 => ?_
  obtain ⟨s1, p1⟩ := H0.out W1 hW1
  have S1 := Lib.hid s1
  have P1 := Lib.hid p1
  have f10 : W1.cell? ⟨w.heap.size, 10, none⟩ = some (.int .u8 (n : Int)) := by rw [cell_of_row _ _ _ _ _ _ p1, ← HFL.out]; rfl
  have wn : IntKind.i64.wrap (n : Int) = (n : Int) := IntWalk.i64_in _ (by omega)
  clear hW1 s1 p1 H0
  go_wp2
  go_loopw [3, 4, 5] (fun o f i W => W = W1 ∧ ∃ j m : Nat, j ≤ 8 ∧ i = .int .i64 j ∧ o = .string (strL (flagTo n j)) ∧ f = .int .i64 (m : Int) ∧ Hid (m = n / 2 ^ j) ∧ m < 256) (fun _ _ i _ => 8 - (intOf i).toNat)
  case atStart => exact ⟨rfl, 0, n, by omega, rfl, rfl, rfl, by unfold RowKit.Hid; simp, hn256⟩
  case round =>
    obtain ⟨rfl, j, m, hj, rfl, rfl, rfl, hm, hm2⟩ := hrel
    have hjz : (strL (flagTo n j)).size ≤ 8 := by rw [strL_size]; exact Nat.le_trans (flagTo_len n j) hj
    clear f10
    by_cases hlt : j < 8
    · obtain ⟨x, hx, hex⟩ := let_extract j hlt
      have hst := flagTo_succ n j
      rw [hx] at hst
      have htb : n.testBit j = decide (m % 2 = 1) := by rw [hm.out, Nat.testBit_eq_decide_div_mod_eq]
      have hm3 : Hid (m / 2 = n / 2 ^ (j + 1)) := by unfold RowKit.Hid; rw [hm.out, Nat.div_div_eq_div_mul, Nat.pow_succ]
      have q1 : (m : Int) / 2 = ((m / 2 : Nat) : Int) := by omega
      have q2 : (m : Int).tdiv 2 = ((m / 2 : Nat) : Int) := by rw [Int.tdiv_eq_ediv_of_nonneg (by omega)]; omega
      obtain ⟨h, hh⟩ : ∃ h, h = m / 2 := ⟨_, rfl⟩
      rw [← hh] at hm3 q1 q2
      have hh2 : h < 256 := by omega
      have wh : IntKind.i64.wrap (h : Int) = (h : Int) := IntWalk.i64_in _ (by omega)
      have hxz : (strL [x]).size ≤ 1 := by rw [strL_size]; simp
      have jj : ((j : Int) + 1).toNat = j + 1 := by omega
      have jb : (j : Int) + 1 ≤ 8 := by omega
      clear hm hx hh
      by_cases ho : m % 2 = 1
      · rw [htb, decide_eq_true ho, if_pos rfl] at hst
        have r1 : (m : Int) % 2 = 1 := by omega
        have r2 : (m : Int).tmod 2 = 1 := by rw [Int.tmod_eq_emod_of_nonneg (by omega)]; omega
        have HST : Hid (strL (flagTo n j) ++ strL [x] = strL (flagTo n (j + 1))) := by rw [hst]; exact strL_app _ _
        clear hst htb ho
        go_wp2
        go_roundw
        case rel => exact ⟨trivial, j + 1, h, by omega, by go_num, by rw [← HST.out], rfl, hm3, hh2⟩
        case measure => simp [intOf]; omega
      · rw [htb, decide_eq_false ho, if_neg (by simp), List.append_nil] at hst
        have r1 : (m : Int) % 2 = 0 := by omega
        have r2 : (m : Int).tmod 2 = 0 := by rw [Int.tmod_eq_emod_of_nonneg (by omega)]; omega
        have HST := Lib.hid hst
        clear hst htb ho
        go_wp2
        go_roundw
        case rel => exact ⟨trivial, j + 1, h, by omega, by go_num, by rw [HST.out], rfl, hm3, hh2⟩
        case measure => simp [intOf]; omega
    · obtain rfl : j = 8 := by omega
      obtain ⟨X, hX⟩ : ∃ X, X = flagTo n 8 := ⟨_, rfl⟩
      rw [← hX] at hjz ⊢
      have HX := Lib.hid hX
      clear hX
      have zz1 : (strL X).size + (strL T1).size ≤ 9223372036854775807 := by omega
      have zz2 : (strL X).size + (strL T1).size + (strL T2).size ≤ 9223372036854775807 := by omega
      clear hm
      go_upto_region 9 with fail
      refine wp_region_quiet_below (by kernel_rfl) (by kernel_rfl) ?_
      repeat (first | go_big_quiet_skip | (go_big_quiet_want; go_big_quiet_op; go_big_quiet_on))
      go_big_quiet_want; refine quiet_run (.agg #[.int .i64 c.f0, .int .u8 c.f1, .int .u8 c.f2, .int .u8 c.f3, .int .u8 c.f4]) (fun W hW => exec_load rfl rfl (run_loadForeV (P1.out.sees (regrown_sees hW)))) ?_; simp only [Act.put, List.setIfInBounds_toArray, List.set_cons_zero, List.set_cons_succ]; go_big_quiet_on
      (go_big_quiet_want; go_big_quiet_op; apply Exists.intro; refine ⟨fun p => Calls.regrown_of (KF.out _), ?_⟩; go_big_quiet_on)
      (go_big_quiet_want; refine quiet_run (.string (strL X ++ strL T1)) (fun W hW => exec_bin (a := .string (strL X)) (b := .string (strL T1)) rfl rfl rfl (by go_simp) (by go_simp)) ?_; simp only [Act.put, List.setIfInBounds_toArray, List.set_cons_zero, List.set_cons_succ]; go_big_quiet_on)
      repeat (first | go_big_quiet_skip | (go_big_quiet_want; go_big_quiet_op; go_big_quiet_on))
      go_big_quiet_want; refine quiet_run (.agg #[.int .i64 c.b0, .int .u8 c.b1, .int .u8 c.b2, .int .u8 c.b3, .int .u8 c.b4]) (fun W hW => exec_load rfl rfl (run_loadBackV (P1.out.sees (regrown_sees hW)))) ?_; simp only [Act.put, List.setIfInBounds_toArray, List.set_cons_zero, List.set_cons_succ]; go_big_quiet_on
      (go_big_quiet_want; go_big_quiet_op; apply Exists.intro; refine ⟨fun p => Calls.regrown_of (KB.out _), ?_⟩; go_big_quiet_on)
      (go_big_quiet_want; refine quiet_run (.string (strL X ++ strL T1 ++ strL T2)) (fun W hW => exec_bin (a := .string (strL X ++ strL T1)) (b := .string (strL T2)) rfl rfl rfl (by go_simp) (by go_simp)) ?_; simp only [Act.put, List.setIfInBounds_toArray, List.set_cons_zero, List.set_cons_succ]; go_big_quiet_on)
      repeat (first | go_big_quiet_skip | (go_big_quiet_want; go_big_quiet_op; go_big_quiet_on))
      refine wpQuiet_nil ?_; intro w2 hw2'; have hw2 := regrown_sees hw2'; clear hw2'
      have HS2 := Lib.hid (S1.out.trans hw2)
      have HC : Hid (strL X ++ strL T1 ++ strL T2 = strL (X ++ T1 ++ T2)) := by unfold RowKit.Hid; rw [strL_app, strL_app]
      clear hw2
      go_wp2
      go_ret
      exact ⟨by rw [← HX.out, ← HC.out]; rfl, HS2.out⟩
end Go.Proofs.YthcndmchlpohpaaGreatDoor

namespace Go.Proofs.YthcndmchlpohpaaGreatDoor
set_option linter.unusedVariables false
set_option linter.unusedSimpArgs false
open Go.RowKit Go.Shelf
attribute [local go_sem] Oper.semAt_some

set_option maxHeartbeats 1000000 in
/-- marks is true where Markup answers what is wanted. -/
theorem marks_true (v : Value) (cs : List Cell) (so : Bool) (F : Nat → Prop) (w : World) (ht : Sd w) (h : cellEl.Rd F w v cs) (hn : cs.length ≤ 1000000) (hbd : ∀ c ∈ cs, c.Bd) :
    Calls Tryz.prog 21 #[.agg #[v, .bool so], .string (strL (if lnOk cs then mkL cs so else [])), .int .i64 (if lnOk cs then 0 else 2)] w fun e w' => e = .returned (.bool true) ∧ Sees w w' := by
  obtain ⟨M, hM⟩ : ∃ M, M = strL (if lnOk cs then mkL cs so else []) := ⟨_, rfl⟩
  obtain ⟨E, hE⟩ : ∃ E : Int, E = (if lnOk cs then 0 else 2) := ⟨_, rfl⟩
  have KM : Hid (∀ W, Sees w W → Calls Tryz.prog 32 #[.agg #[v, .bool so]] W fun e w' => e = .returned (.tuple #[.string M, .int .i64 E]) ∧ Sees W w') := fun W hs => by
    rw [hM, hE]
    exact markup_any v cs so F W (ht.sees hs) (h.sees hs) hn hbd
  rw [← hM, ← hE]
  have S0 : Sees w (w.alloc (.cells #[v, .bool so] 27)) := (Sees.refl w).alloc _
  obtain ⟨a, cp, rfl, hcp⟩ := h.slice'
  have L0 : LnAt (w.alloc (.cells #[.slice a cs.length cp, .bool so] 27)) w.heap.size (.slice a cs.length cp) so := LnAt.new rfl
  obtain ⟨n, hnn⟩ : ∃ n, n = cs.length := ⟨_, rfl⟩
  rw [← hnn] at L0 S0 KM ⊢
  obtain ⟨w1, hw1⟩ : ∃ w1, w1 = w.alloc (.cells #[.slice a n cp, .bool so] 27) := ⟨_, rfl⟩
  rw [← hw1] at S0 L0
  have HW1 := Lib.hid hw1
  have HS0 := Lib.hid S0
  have HL0 := Lib.hid L0
  clear hw1 S0 L0 hM hE h hnn ht
  go_enter Tryz.func21, Tryz.ntmps21
  go_upto_region 1 with fail
  rw [← HW1.out]
  obtain ⟨l0, l1⟩ := HL0.out.c
  go_wp2_with fail
  refine (KM.out _ (HS0.out)).mono ?_
  rintro e W2 ⟨rfl, s2⟩
  have HS2 := Lib.hid (HS0.out.trans s2)
  have hb : (M.toList == M.toList) = true := by simp
  have hb2 : (E == E) = true := by simp
  clear l0 l1 s2
  go_wp2
  go_ret
  exact ⟨rfl, HS2.out⟩
end Go.Proofs.YthcndmchlpohpaaGreatDoor

namespace Go.Proofs.YthcndmchlpohpaaGreatDoor
set_option linter.unusedVariables false
set_option linter.unusedSimpArgs false
open Go.RowKit Go.Shelf
attribute [local go_sem] Oper.semAt_some

theorem boolWays (b : Bool) : b = true ∨ b = false := by cases b <;> simp
def Rn.key (r : Rn) : Nat × Nat × List UInt8 × List Int := (r.col, r.wid, r.txt, penOf r.c)
theorem eqlRn (r s : Rn) (W : World) : (binOp .eql 58 r.val s.val).run Tryz.prog W = .ok (.bool (decide (r.key = s.key))) W := by
  have hk : decide (r.key = s.key) = (((r.col : Int) == s.col) && (((r.wid : Int) == s.wid) && ((if (strL r.txt).toList = (strL s.txt).toList then penEq r.c s.c else false)))) := by
    rw [ByteArray.toList_eq, ByteArray.toList_eq, strL_list, strL_list, penEq_of]
    unfold Rn.key
    rw [Bool.eq_iff_iff]
    by_cases h : r.txt = s.txt
    · simp [h, Int.ofNat_inj]
    · simp [h]
  rw [hk]
  unfold Rn.val penEq eq11 eq5
  go_simp
  simp only [ite_ok (f := Value.bool), Result.ok.injEq, Value.bool.injEq, and_true, eq_arm]
  simp [Bool.and_assoc]
theorem run_neqRn (r s : Rn) (W : World) : (binOp .neq 58 r.val s.val).run Tryz.prog W = .ok (.bool (!decide (r.key = s.key))) W := by
  have h := eqlRn r s W
  unfold Rn.val at h ⊢
  rw [run_eql_struct] at h
  rw [run_neq_struct]
  revert h
  generalize (Op.equalIn 10000 58 _ _).run Tryz.prog W = q
  cases q with
  | ok b w' => simp only [Result.andThen_ok, Result.ok.injEq, Value.bool.injEq]; rintro ⟨rfl, rfl⟩; exact ⟨rfl, rfl⟩
  | halt x w' => intro h; cases h
theorem guard_neqRn (x y : Operand) (r s : Rn) (W : World) : (eqGuard .neq 58 x y r.val s.val).run Tryz.prog W = .ok () W := by unfold Rn.val; go_simp
theorem rn_neq {a b : Rn} {xs ys : List Rn} {k : Nat} (h1 : xs[k]? = some a) (h2 : ys[k]? = some b) (h : a.key ≠ b.key) : xs.map Rn.key ≠ ys.map Rn.key := by
  intro e
  have := congrArg (·[k]?) e
  simp only [List.getElem?_map, h1, h2, Option.map_some, Option.some.injEq] at this
  exact h this
set_option maxHeartbeats 1000000 in
theorem runs48_any (F G : Nat → Prop) (v u : Value) (x : Ln) (ws : List Rn) (no : Int) (w : World) (ht : Tabs w) (ha : cellEl.Rd F w v x.cells) (hn : x.cells.length ≤ 1000000) (hb : rnEl.Rd G w u ws) (hwl : ws.length ≤ 1000000) :
    Calls Tryz.prog 20 #[.agg #[v, .bool x.soft], u, .int .i64 no] w fun e w' => e = .returned (.bool (decide ((if lnOk x.cells then runsL x.cells else []).map Rn.key = ws.map Rn.key) && ((if lnOk x.cells then 0 else 2 : Int) == no))) ∧ Sees w w' := by
  have KR := Lib.hid (fun W (hs : Sees w W) => runs_any v x F W (ht.sees hs) (ha.sees hs) hn)
  obtain ⟨a, cp, rfl, hcp⟩ := ha.slice'
  obtain ⟨xs, hxs⟩ : ∃ xs, xs = (if lnOk x.cells then runsL x.cells else []) := ⟨_, rfl⟩
  obtain ⟨er, her⟩ : ∃ er : Int, er = (if lnOk x.cells then 0 else 2 : Int) := ⟨_, rfl⟩
  rw [← hxs, ← her] at KR ⊢
  obtain ⟨n, hnn⟩ : ∃ n, n = x.cells.length := ⟨_, rfl⟩
  rw [← hnn] at KR ⊢
  obtain ⟨bo, cb, rfl, hcb⟩ := hb.slice'
  obtain ⟨m, hm⟩ : ∃ m, m = ws.length := ⟨_, rfl⟩
  rw [← hm] at hb hwl ⊢
  have HB := Lib.hid hb
  have HM := Lib.hid hm
  have S1 : Hid (Sees w (w.alloc (.cells #[.slice a n cp, .bool x.soft] 27))) := (Sees.refl w).alloc _
  have L1 : LnAt (w.alloc (.cells #[.slice a n cp, .bool x.soft] 27)) w.heap.size (.slice a n cp) x.soft := LnAt.new rfl
  obtain ⟨W1, hW1⟩ : ∃ W1, W1 = w.alloc (.cells #[.slice a n cp, .bool x.soft] 27) := ⟨_, rfl⟩
  rw [← hW1] at S1 L1
  have HW1 := Lib.hid hW1
  have HL1 := Lib.hid L1
  clear hW1 L1 hm hb ht ha hxs her hnn
  go_enter Tryz.func20, Tryz.ntmps20
  go_upto_region 1 with fail
  rw [← HW1.out]
  go_wp2_with (guard_target = wpList _ _ _ ({ dst := _, op := Op.load 27 _, type := _, pos := _, after := _, guard := _ } :: _) _ _; refine wpList_val rfl (exec_load (v := .agg #[.slice a n cp, .bool x.soft]) rfl rfl (run_loadLn HL1.out)) (fun K hK => ?_); go_simp; refine hK _ _ ?_; clear hK K)
  refine (KR.out _ S1.out).mono ?_
  rintro e W2 ⟨uu, rfl, ho, s2⟩
  obtain ⟨a2, c2, rfl, hc2⟩ := ho.slice
  have HA := Lib.hid ho.rd
  have HS := Lib.hid (S1.out.trans s2)
  have HB2 := Lib.hid (HB.out.sees HS.out)
  obtain ⟨q, hq⟩ : ∃ q, q = xs.length := ⟨_, rfl⟩
  rw [← hq] at HA ⊢
  have HQ := Lib.hid hq
  clear ho s2 KR hq HB
  by_cases hlen : q = m
  · subst hlen
    rcases boolWays (er == no) with hno | hno
    · go_wp2
      go_loopw [9] (fun i wr => ∃ k : Nat, k ≤ q ∧ i = .int .i64 k ∧ (xs.map Rn.key).take k = (ws.map Rn.key).take k ∧ Sees W2 wr) (fun i _ => q - (intOf i).toNat)
      case atStart => exact ⟨0, by omega, rfl, by simp, Sees.refl _⟩
      case round =>
        obtain ⟨k, hk, rfl, hm, hS⟩ := hrel
        have Hm := Lib.hid hm; clear hm
        have hw := Sees.refl wr
        by_cases hlt : k < q
        · obtain ⟨b1, o1, r, rfl, hr, hra⟩ := rn_at (HA.out.sees hS) hlt
          obtain ⟨b2, o2, s, rfl, hs, hsa⟩ := rn_at (HB2.out.sees hS) hlt
          have F1 := Lib.hid hra
          have F2 := Lib.hid hsa
          have Hr := Lib.hid hr
          have Hs := Lib.hid hs
          clear hr hs hra hsa HA HB2
          obtain ⟨z, hz⟩ : ∃ z, z = decide (r.key = s.key) := ⟨_, rfl⟩
          have HZ := Lib.hid hz
          clear hz
          cases z
          · go_wp2
            refine wp_region_quiet_below (by kernel_rfl) (by kernel_rfl) ?_
            repeat (first | go_big_quiet_skip | (go_big_quiet_want; go_big_quiet_op; go_big_quiet_on))
            go_big_quiet_want; refine quiet_run r.val (fun W hW => exec_load rfl rfl (run_loadRn (F1.out.sees (regrown_sees hW)))) ?_; simp only [Act.put, List.setIfInBounds_toArray, List.set_cons_zero, List.set_cons_succ]; go_big_quiet_on
            repeat (first | go_big_quiet_skip | (go_big_quiet_want; go_big_quiet_op; go_big_quiet_on))
            go_big_quiet_want; refine quiet_run s.val (fun W hW => exec_load rfl rfl (run_loadRn (F2.out.sees (regrown_sees hW)))) ?_; simp only [Act.put, List.setIfInBounds_toArray, List.set_cons_zero, List.set_cons_succ]; go_big_quiet_on
            go_big_quiet_want; refine quiet_run (.bool true) (fun W hW => exec_bin rfl rfl rfl (guard_neqRn _ _ r s W) (by have := run_neqRn r s W; rw [← HZ.out] at this; exact this)) ?_; simp only [Act.put, List.setIfInBounds_toArray, List.set_cons_zero, List.set_cons_succ]; go_big_quiet_on
            repeat (first | go_big_quiet_skip | (go_big_quiet_want; go_big_quiet_op; go_big_quiet_on))
            refine wpQuiet_nil ?_; intro w2 hw2'; have hw2 := regrown_sees hw2'; clear hw2'
            have Hf := Lib.hid (rn_neq Hr.out Hs.out (of_decide_eq_false HZ.out.symm))
            go_wp2
            go_ret
            exact ⟨by rw [decide_eq_false Hf.out]; rfl, HS.out.trans (hS.trans hw2)⟩
          · go_wp2
            refine wp_region_quiet_below (by kernel_rfl) (by kernel_rfl) ?_
            repeat (first | go_big_quiet_skip | (go_big_quiet_want; go_big_quiet_op; go_big_quiet_on))
            go_big_quiet_want; refine quiet_run r.val (fun W hW => exec_load rfl rfl (run_loadRn (F1.out.sees (regrown_sees hW)))) ?_; simp only [Act.put, List.setIfInBounds_toArray, List.set_cons_zero, List.set_cons_succ]; go_big_quiet_on
            repeat (first | go_big_quiet_skip | (go_big_quiet_want; go_big_quiet_op; go_big_quiet_on))
            go_big_quiet_want; refine quiet_run s.val (fun W hW => exec_load rfl rfl (run_loadRn (F2.out.sees (regrown_sees hW)))) ?_; simp only [Act.put, List.setIfInBounds_toArray, List.set_cons_zero, List.set_cons_succ]; go_big_quiet_on
            go_big_quiet_want; refine quiet_run (.bool false) (fun W hW => exec_bin rfl rfl rfl (guard_neqRn _ _ r s W) (by have := run_neqRn r s W; rw [← HZ.out] at this; exact this)) ?_; simp only [Act.put, List.setIfInBounds_toArray, List.set_cons_zero, List.set_cons_succ]; go_big_quiet_on
            repeat (first | go_big_quiet_skip | (go_big_quiet_want; go_big_quiet_op; go_big_quiet_on))
            refine wpQuiet_nil ?_; intro w2 hw2'; have hw2 := regrown_sees hw2'; clear hw2'
            go_wp2
            go_roundw
            case rel =>
              refine ⟨k + 1, by omega, by go_num, ?_, hS.trans hw2⟩
              exact take_more Hm.out (show (xs.map Rn.key)[k]? = some r.key by rw [List.getElem?_map, Hr.out]; rfl) (by rw [List.getElem?_map, Hs.out, of_decide_eq_true HZ.out.symm]; rfl)
            case measure => simp [intOf]; omega
        · obtain rfl : k = q := by omega
          have hall : xs.map Rn.key = ws.map Rn.key := by
            have := Hm.out
            rwa [List.take_of_length_le (by rw [List.length_map, ← HQ.out]; exact Nat.le_refl _), List.take_of_length_le (by rw [List.length_map, ← HM.out]; exact Nat.le_refl _)] at this
          have Hf := Lib.hid hall
          have HNO := Lib.hid hno
          clear hall hno
          go_wp2
          go_ret
          exact ⟨by rw [decide_eq_true Hf.out, HNO.out]; rfl, HS.out.trans hS⟩
    · have hne2 : (er != no) = true := by simpa [bne] using hno
      have HNO := Lib.hid hno
      clear hno
      go_wp2
      go_ret
      exact ⟨by rw [HNO.out, Bool.and_false]; rfl, HS.out⟩
  · have hf : xs.map Rn.key ≠ ws.map Rn.key := fun e => hlen (by
      have := congrArg List.length e
      rw [List.length_map, List.length_map] at this
      rw [HQ.out, HM.out]; exact this)
    have Hf := Lib.hid hf
    have hne : ((q : Int) != (m : Int)) = true := by rw [bne_iff_ne]; omega
    clear hf hlen
    go_wp2
    go_ret
    exact ⟨by rw [decide_eq_false Hf.out]; rfl, HS.out⟩
end Go.Proofs.YthcndmchlpohpaaGreatDoor
