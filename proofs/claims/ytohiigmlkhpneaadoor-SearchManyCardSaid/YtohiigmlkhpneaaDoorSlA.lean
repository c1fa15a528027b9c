/- SearchLongs (42). The tables hold what the program's text lays. -/
import Derived.Test.YtohiigmlkhpneaaDoorSrZ
namespace Go.Proofs.YtohiigmlkhpneaaDoor
set_option linter.unusedVariables false
set_option linter.unusedSimpArgs false
open Go.RowKit Go.Shelf
attribute [local go_sem] Oper.semAt_some

/-- A row of n bytes, the first i of them a letter. -/
def RepR (W : World) (g n : Nat) (c : UInt8) (i : Nat) : Prop := ∃ cur : Array Value, W.heap[g]? = some (.cells cur 5 (0, 0)) ∧ cur.size = n ∧ ∀ j, j < n → cur[j]? = some (.int .u8 (if j < i then (c.toNat : Int) else 0))
namespace RepR
variable {W W' : World} {g n i : Nat} {c : UInt8}
theorem new (n : Nat) (c : UInt8) (W : World) : RepR (W.alloc (.cells (Array.replicate n (Value.int .u8 0)) 5)) W.heap.size n c 0 :=
  ⟨_, heap_alloc_new W _, by simp, fun j hj => by rw [Array.getElem?_replicate, if_pos hj]; simp⟩
theorem cell (h : RepR W g n c i) {j : Nat} (hj : j < n) : W.cell? ⟨g, j, none⟩ = some (.int .u8 (if j < i then (c.toNat : Int) else 0)) := by
  obtain ⟨cur, h1, h2, h3⟩ := h
  rw [cell_of_row _ _ _ _ _ _ h1, h3 j hj]
theorem fr (h : RepR W g n c i) (j : Nat) : W.frozen? ⟨g, j, none⟩ = false := by
  obtain ⟨cur, h1, h2, h3⟩ := h
  exact frozen_of_row W g j _ _ h1
theorem put (h : RepR W g n c i) (hi : i < n) : RepR (W.setCell ⟨g, i, none⟩ (.int .u8 (c.toNat : Int))) g n c (i + 1) := by
  obtain ⟨cur, h1, h2, h3⟩ := h
  refine ⟨_, heap_setCell_same W g i _ _ _ h1, by simpa using h2, fun j hj => ?_⟩
  have h4 := h3 j hj
  by_cases e : j = i
  · subst e
    rw [if_pos (by omega)]
    simp [h2, hj]
  · have e' : ¬ i = j := fun h => e h.symm
    have hv : (if j < i + 1 then (c.toNat : Int) else 0) = if j < i then (c.toNat : Int) else 0 := by
      by_cases hlt : j < i
      · rw [if_pos hlt, if_pos (by omega)]
      · rw [if_neg hlt, if_neg (by omega)]
    rw [hv, ← h4]
    simp [e']
theorem sees (h : RepR W g n c i) (hs : Sees W W') : RepR W' g n c i := by
  obtain ⟨cur, h1, h2, h3⟩ := h
  exact ⟨cur, by rw [hs.block _ (Array.getElem?_eq_some_iff.1 h1).1]; exact h1, h2, h3⟩
end RepR
theorem run_make_bytes (n : Nat) (hn : n ≤ 1000000) (W : World) : (Instr.makeSlice 42 (.int .i64 (n : Int)) (.int .i64 (n : Int))).run Tryd.prog W = .ok (.slice (some ⟨W.heap.size, 0, none⟩) n n) (W.alloc (.cells (Array.replicate n (Value.int .u8 0)) 5)) := by
  have hinfo : (Tryd.prog.info? 5).map (fun i => (i.zero, i.size, i.bytes)) = some (some (.int .u8 0), 1, 1) := by kernel_rfl
  obtain ⟨i0, hi, hz0, hz1, hz2⟩ := info_parts hinfo
  have := run_make (P := Tryd.prog) W 42 5 i0 (.int .u8 0) Tryd.underlying42 hi hz0 .i64 .i64 n n (by omega) (Int.le_refl _) (by rw [hz2]; omega) (by omega)
  have hc : madeCells (Value.int .u8 0).cells n = Array.replicate n (Value.int .u8 0) := Array.toList_inj.1 (by rw [show (Value.int .u8 0).cells = #[.int .u8 0] from rfl, toList_madeCells_one]; simp)
  rw [this, hz1, Int.toNat_natCast, Nat.mul_one, hc]
/-- A row of bytes as a string. -/
theorem rep_string {W : World} {g n : Nat} {c : UInt8} (h : RepR W g n c n) (cap : Nat) : (convert 42 9 (.slice (some ⟨g, 0, none⟩) n cap)).run Tryd.prog W = .ok (.string ⟨(List.replicate n c).toArray⟩) W := by
  have q := run_convert_bytes_back (P := Tryd.prog) W 42 9 5 ⟨g, 0, none⟩ cap (List.replicate n c) Tryd.underlying42 Tryd.underlying5 Tryd.underlying9 (fun j hj => by
    have hj' : j < n := by rw [List.length_replicate] at hj; exact hj
    have q := h.cell hj'
    rw [show (⟨g, 0, none⟩ : Addr).add j = ⟨g, j, none⟩ by rw [addr_add, Nat.zero_add], q, if_pos hj', List.getElem_replicate])
  rw [List.length_replicate] at q
  exact q
set_option maxHeartbeats 4000000 in
set_option maxRecDepth 100000 in
theorem longs_good (N : Nat) (c : UInt8) (w : World) (hst : Std w) (ht : Tabs w) (n1 : 198 ≤ N) (n2 : N ≤ 202) (c1 : 32 ≤ c.toNat) (c2 : c.toNat ≤ 126) :
    Calls Tryd.prog 6 #[.int .i64 N, .int .u8 c.toNat] w fun e w' => e = .returned (.bool true) ∧ Sees w w' := by
  have KN := Lib.hid (fun W (hs : Sees w W) => known_any W (hst.sees hs) (ht.sees hs))
  have HT := Lib.hid ht
  have HST := Lib.hid hst
  have hmk := run_make_bytes N (by omega) w
  have g1 : decide ((N : Int) < 198) = false := decide_eq_false (by omega)
  have g2 : decide ((N : Int) > 202) = false := decide_eq_false (by omega)
  have g3 : decide ((c.toNat : Int) < 32) = false := decide_eq_false (by omega)
  have g4 : decide ((c.toNat : Int) > 126) = false := decide_eq_false (by omega)
  have R0 := Lib.hid (RepR.new N c w)
  have S0 := Lib.hid ((Sees.refl w).alloc (.cells (Array.replicate N (Value.int .u8 0)) 5))
  clear ht hst
  go_enter Tryd.func6, Tryd.ntmps6
  go_wp2
  go_loopw [6] (fun ii W => ∃ k : Nat, k ≤ N ∧ ii = .int .i64 k ∧ RepR W w.heap.size N c k ∧ Sees w W) (fun ii _ => N - (intOf ii).toNat)
  case atStart => exact ⟨0, by omega, rfl, R0.out, S0.out⟩
  case round =>
    obtain ⟨k, hk, rfl, hR, hS⟩ := hrel
    have HR := Lib.hid hR
    have HS := Lib.hid hS
    clear hS
    by_cases hlt : k < N
    · have q0 := hR.cell hlt
      have q1 := hR.fr k
      have hkN : (k : Int) < N := by omega
      clear hR
      go_wp2
      exact ⟨⟨k + 1, by omega, by go_num, HR.out.put hlt, HS.out.setCell (p := ⟨w.heap.size, k, none⟩) (Nat.le_refl _) _⟩, by simp [intOf]; omega⟩
    · obtain rfl : k = N := by omega
      clear hlt hk
      obtain ⟨X, hX⟩ : ∃ X : ByteArray, X = ⟨(List.replicate k c).toArray⟩ := ⟨_, rfl⟩
      have HCV : Hid (∀ W, RepR W w.heap.size k c k → (convert 42 9 (.slice (some ⟨w.heap.size, 0, none⟩) k k)).run Tryd.prog W = .ok (.string X) W) := fun W h => by rw [hX]; exact rep_string h k
      have hXs : X.size = k := by rw [hX]; show (List.replicate k c).toArray.size = k; simp
      have hXl : X.data.toList = List.replicate k c := by rw [hX]
      have hXc : chL X = List.replicate k (chC c) := by rw [hX]; exact chL_rep k c
      have HXS := Lib.hid hXs
      have HXL := Lib.hid hXl
      have KR := Lib.hid (fun W => by have q := chRow_any X (by omega) W; rw [hXc] at q; exact q)
      clear hX hXs hXl hXc
      have hcv := HCV.out _ hR
      clear hR hmk R0 S0
      go_wp2_with fail
      refine (KR.out _).mono ?_
      rintro e W1 ⟨v1, rfl, ho, s⟩
      obtain ⟨a1, m1, rfl, _⟩ := ho.slice
      rw [List.length_replicate] at ho ⊢
      have HO := Lib.hid ho.rd
      have HS1 := Lib.hid s
      clear ho s hcv KR
      go_upto_region 9 with fail
      refine wp_world fun W2 hW2 => ?_
      obtain ⟨l0, hl0⟩ : ∃ l0 : Value, l0 = .slice (some ⟨W1.heap.size, 0, none⟩) 1 1 := ⟨_, rfl⟩
      have h2 : lnEl.Rd (fun b => b < W2.heap.size) W2 (.slice (some ⟨W1.heap.size, 0, none⟩) 1 1) [⟨List.replicate k (chC c), false⟩] := by
        have hs : Sees W1 W2 := by subst hW2; exact (Sees.refl W1).alloc _
        have r1 : cellEl.Rd (fun b => b < W2.heap.size) W2 (.slice a1 k m1) (List.replicate k (chC c)) := (HO.out.sees hs).mono (fun b hb _ => hb)
        subst hW2
        exact rd_block (E := lnEl) (heap_alloc_new W1 _) (relIn_one (E := lnEl) (ln_rel r1 false)) (by simp) rfl
      have HL := Lib.hid h2
      have HS2 : Hid (Sees w W2) := by subst hW2; exact (HS.out.trans HS1.out).alloc _
      have HR2 : Hid (RepR W2 w.heap.size k c k) := by subst hW2; exact (HR.out.sees HS1.out).sees ((Sees.refl W1).alloc _)
      clear h2 hW2 HO HR HS HS1 hl0 l0
      have hrows : rowsOk [⟨List.replicate k (chC c), false⟩] 0 = true := by
        unfold rowsOk scrB
        rw [decide_eq_true (p := (0 : Int) ≥ 0) (by omega), decide_eq_true (p := (0 : Int) ≤ 1099511627776) (by omega)]
        simp only [List.all_cons, List.all_nil, scrAt, cols, rep_ok c1 c2 (show k ≤ 1000 by omega), List.length_replicate]
        have : (k == 0) = false := by rw [beq_eq_false_iff_ne]; omega
        simp [this]
      have HROWS := Lib.hid hrows
      clear hrows
      rcases Nat.lt_or_ge 200 k with hk | hk
      · have g5 : decide ((k : Int) > 200) = true := decide_eq_true (by omega)
        have hck : ckR [⟨List.replicate k (chC c), false⟩] 0 X = 2 := ckR_pat (by unfold patOk; rw [HXS.out, decide_eq_false (p := k ≤ 200) (by omega)]; simp)
        have HCK := Lib.hid hck
        have hcv := HCV.out _ HR2.out
        clear hck
        go_wp2_with fail
        refine (alls_no (HT.out.sees HS2.out) HL.out (by simp) (by intro x hx; rw [List.mem_singleton] at hx; subst hx; rw [List.length_replicate]; omega) (by rw [HXS.out]; omega) false HCK.out).mono ?_
        rintro e W3 ⟨rfl, s⟩
        have HS3 := Lib.hid (HS2.out.trans s)
        clear s hcv
        go_wp2_with fail
        refine (KN.out _ HS3.out).mono ?_
        rintro e W4 ⟨rfl, s⟩
        have HS4 := Lib.hid (HS3.out.trans s)
        clear s
        go_wp2
        go_ret
        exact ⟨rfl, HS4.out⟩
      · have g5 : decide ((k : Int) > 200) = false := decide_eq_false (by omega)
        have hpat : patOk X = true := by
          unfold patOk
          rw [HXS.out, decide_eq_true (p := 1 ≤ k) (by omega), decide_eq_true (p := k ≤ 200) hk]
          show patB X = true
          unfold patB
          rw [HXL.out, List.all_eq_true]
          intro x hx
          rw [(List.mem_replicate.1 hx).2]
          exact decide_eq_true c1
        have HCK := Lib.hid (ckR_ok HROWS.out (by simp) hpat)
        have HALL : Hid ([⟨0, 0, 0, (k : Int) - 1⟩] = allM [⟨List.replicate k (chC c), false⟩] 0 X.data.toList false) := by unfold RowKit.Hid; rw [HXL.out, long_all c1 c2 (by omega)]
        clear hpat
        go_upto_region 11 with fail
        have KM : Hid (∀ a b c d W, Calls Tryd.prog 21 #[.int .i64 a, .int .i64 b, .int .i64 c, .int .i64 d] W fun e w' => e = .returned (.agg #[.int .i64 a, .int .i64 b, .int .i64 c, .int .i64 d]) ∧ Sees W w') := fun a b c d W => match_any a b c d W
        refine wpH_go (fun _ => False) 12 (by kernel_rfl) (by kernel_rfl) (by rfl) (fun hB w5 hs => ?_)
        have HS5 := Lib.hid (HS2.out.trans hs)
        have HL5 := Lib.hid (rd_up HL.out hs)
        have HR5 := Lib.hid (HR2.out.sees hs)
        clear hs
        have hS0 : Keeps (fun _ => False) w5 w5 := Keeps.refl _ w5
        have hw1 : IntKind.i64.wrap ((k : Int) - 1) = (k : Int) - 1 := IntWalk.i64_in _ (by omega)
        refine wpH_take (i := 0) (v := .slice (some ⟨W1.heap.size, 0, none⟩) 1 1) hB (by rfl) (by kernel_rfl) (fun _ _ _ _ _ h => h) (by rfl) hS0 (fun W hI => by clear hI; go_simp) ?_; (try simp only [Act.put, List.setIfInBounds_toArray, List.set_cons_zero, List.set_cons_succ])
        refine wpH_take (i := 1) (v := .slice (some ⟨w.heap.size, 0, none⟩) k k) hB (by rfl) (by kernel_rfl) (fun _ _ _ _ _ h => h) (by rfl) hS0 (fun W hI => by clear hI; go_simp) ?_; (try simp only [Act.put, List.setIfInBounds_toArray, List.set_cons_zero, List.set_cons_succ])
        refine wpH_take (i := 2) (v := .string X) hB (by rfl) (by kernel_rfl) (fun _ _ _ _ _ h => h) (by rfl) hS0 (fun W hI => by have q := HCV.out W (HR5.out.sees (hI.sees_end (fun _ _ h => h))); go_simp) ?_; (try simp only [Act.put, List.setIfInBounds_toArray, List.set_cons_zero, List.set_cons_succ])
        refine wpH_take (i := 3) (v := .int .i64 k) hB (by rfl) (by kernel_rfl) (fun _ _ _ _ _ h => h) (by rfl) hS0 (fun W hI => by clear hI; go_simp) ?_; (try simp only [Act.put, List.setIfInBounds_toArray, List.set_cons_zero, List.set_cons_succ])
        refine wpH_take (i := 4) (v := .int .i64 ((k : Int) - 1)) hB (by rfl) (by kernel_rfl) (fun _ _ _ _ _ h => h) (by rfl) hS0 (fun W hI => by clear hI; go_simp) ?_; (try simp only [Act.put, List.setIfInBounds_toArray, List.set_cons_zero, List.set_cons_succ])
        refine wpH_one (i := 5) (by kernel_rfl) (wpOp_enter (fn := 21) (args := #[.int .i64 0, .int .i64 0, .int .i64 0, .int .i64 ((k : Int) - 1)]) (by rfl) (by rfl) (by go_simp) ((KM.out 0 0 0 ((k : Int) - 1) w5).mono ?_))
        rintro e w6 ⟨rfl, hs⟩
        have hS1 := hS0.trans (Keeps.of_sees hs)
        refine ⟨_, rfl, hS1, ?_⟩
        (try simp only [Act.put, List.setIfInBounds_toArray, List.set_cons_zero, List.set_cons_succ])
        have sB : Sees w6 (w6.alloc (.cells #[.int .i64 0, .int .i64 0, .int .i64 0, .int .i64 ((k : Int) - 1)] 35)) := (Sees.refl w6).alloc _
        have HS7 := Lib.hid ((HS5.out.trans hs).trans sB)
        have HL7 := Lib.hid (rd_up HL5.out (hs.trans sB))
        have hS2 := hS1.trans (Keeps.of_sees (F := fun _ => False) sB)
        have HR7 : Hid (mtEl.Rd (fun b => b < (w6.alloc (.cells #[.int .i64 0, .int .i64 0, .int .i64 0, .int .i64 ((k : Int) - 1)] 35)).heap.size) (w6.alloc (.cells #[.int .i64 0, .int .i64 0, .int .i64 0, .int .i64 ((k : Int) - 1)] 35)) (.slice (some ⟨w6.heap.size, 0, none⟩) 1 1) [⟨0, 0, 0, (k : Int) - 1⟩]) :=
          rd_block (E := mtEl) (heap_alloc_new w6 _) (relIn_one (E := mtEl) (mt_rel _ _ ⟨0, 0, 0, (k : Int) - 1⟩)) (by simp) rfl
        clear hs sB hS0 hS1
        refine wpH_one (i := 6) (by kernel_rfl) (wpOp_val (v := .slice (some ⟨w6.heap.size, 0, none⟩) 1 1) (w' := w6.alloc (.cells #[.int .i64 0, .int .i64 0, .int .i64 0, .int .i64 ((k : Int) - 1)] 35)) (by rfl) (wanted_none (by rfl) _) (by go_simp) ⟨hS2, ?_⟩)
        (try simp only [Act.put, List.setIfInBounds_toArray, List.set_cons_zero, List.set_cons_succ])
        generalize w6.alloc (.cells #[.int .i64 0, .int .i64 0, .int .i64 0, .int .i64 ((k : Int) - 1)] 35) = w7 at *
        refine wpH_one (i := 7) (by kernel_rfl) (wpOp_enter (fn := 12) (args := #[.slice (some ⟨W1.heap.size, 0, none⟩) 1 1, .int .i64 0, .string X, .bool false, .slice (some ⟨w6.heap.size, 0, none⟩) 1 1, .int .i64 0]) (by rfl) (by rfl) (by go_simp) ((alls_ok (HST.out.sees HS7.out) (HT.out.sees HS7.out) HL7.out false HCK.out HR7.out HALL.out (by simp)).mono ?_))
        rintro e w8 ⟨rfl, hs⟩
        have hS3 := hS2.trans (Keeps.of_sees (F := fun _ => False) hs)
        refine ⟨_, rfl, hS3, ?_⟩
        (try simp only [Act.put, List.setIfInBounds_toArray, List.set_cons_zero, List.set_cons_succ])
        have HS8 := Lib.hid (HS7.out.trans hs)
        clear hs hS2
        have hS0 := hS3
        clear hS3
        refine wpH_take (i := 8) (v := .bool true) hB (by rfl) (by kernel_rfl) (fun _ _ _ _ _ h => h) (by rfl) hS0 (fun W hI => by clear hI; go_simp) ?_; (try simp only [Act.put, List.setIfInBounds_toArray, List.set_cons_zero, List.set_cons_succ])
        refine wpH_one (i := 9) (by kernel_rfl) (wpOp_enterG (fn := 9) (args := #[]) (by rfl) (by go_simp) (by go_simp) ((KN.out w8 HS8.out).mono ?_))
        rintro e w9 ⟨rfl, hs⟩
        have hS1 := hS0.trans (Keeps.of_sees (F := fun _ => False) hs)
        refine ⟨_, rfl, hS1, ?_⟩
        (try simp only [Act.put, List.setIfInBounds_toArray, List.set_cons_zero, List.set_cons_succ])
        have HS9 := Lib.hid (HS8.out.trans hs)
        clear hs hS0
        have hS0 := hS1
        clear hS1
        refine wpH_take (i := 10) (v := .bool true) hB (by rfl) (by kernel_rfl) (fun _ _ _ _ _ h => h) (by rfl) hS0 (fun W hI => by clear hI; go_simp) ?_; (try simp only [Act.put, List.setIfInBounds_toArray, List.set_cons_zero, List.set_cons_succ])
        refine wpH_take (i := 11) (v := .bool true) hB (by rfl) (by kernel_rfl) (fun _ _ _ _ _ h => h) (by rfl) hS0 (fun W hI => by clear hI; go_simp) ?_; (try simp only [Act.put, List.setIfInBounds_toArray, List.set_cons_zero, List.set_cons_succ])
        refine wpH_end (by kernel_rfl) ?_
        clear hS0 hB
        go_wp2
        go_ret
        exact ⟨rfl, HS9.out⟩
set_option maxHeartbeats 1000000 in
theorem longs_bad (n c : Int) (w : World) (hst : Std w) (ht : Tabs w) (h : n < 198 ∨ 202 < n ∨ c < 32 ∨ 126 < c) :
    Calls Tryd.prog 6 #[.int .i64 n, .int .u8 c] w fun e w' => e = .returned (.bool true) ∧ Sees w w' := by
  have KN := Lib.hid (known_any w hst ht)
  have H := Lib.hid h
  clear hst ht h
  go_enter Tryd.func6, Tryd.ntmps6
  rcases Bool.eq_false_or_eq_true (decide (n < 198)) with g1 | g1
  · go_wp2_with fail
    refine KN.out.mono ?_
    rintro e W1 ⟨rfl, s⟩
    go_wp2
    go_ret
    exact ⟨rfl, s⟩
  rcases Bool.eq_false_or_eq_true (decide (n > 202)) with g2 | g2
  · go_wp2_with fail
    refine KN.out.mono ?_
    rintro e W1 ⟨rfl, s⟩
    go_wp2
    go_ret
    exact ⟨rfl, s⟩
  rcases Bool.eq_false_or_eq_true (decide (c < 32)) with g3 | g3
  · go_wp2_with fail
    refine KN.out.mono ?_
    rintro e W1 ⟨rfl, s⟩
    go_wp2
    go_ret
    exact ⟨rfl, s⟩
  rcases Bool.eq_false_or_eq_true (decide (c > 126)) with g4 | g4
  · go_wp2_with fail
    refine KN.out.mono ?_
    rintro e W1 ⟨rfl, s⟩
    go_wp2
    go_ret
    exact ⟨rfl, s⟩
  · exfalso
    have a1 := of_decide_eq_false g1
    have a2 := of_decide_eq_false g2
    have a3 := of_decide_eq_false g3
    have a4 := of_decide_eq_false g4
    have := H.out
    omega
theorem searchLongs_any (n c : Int) (w : World) (hst : Std w) (ht : Tabs w) (h0 : 0 ≤ c) :
    Calls Tryd.prog 6 #[.int .i64 n, .int .u8 c] w fun e w' => e = .returned (.bool true) ∧ Sees w w' := by
  by_cases h : n < 198 ∨ 202 < n ∨ c < 32 ∨ 126 < c
  · exact longs_bad n c w hst ht h
  · obtain ⟨N, rfl⟩ : ∃ N : Nat, n = N := ⟨n.toNat, by omega⟩
    obtain ⟨m, rfl⟩ : ∃ m : Nat, c = m := ⟨c.toNat, by omega⟩
    have e : (UInt8.ofNat m).toNat = m := by rw [UInt8.toNat_ofNat']; omega
    have q := longs_good N (UInt8.ofNat m) w hst ht (by omega) (by omega) (by rw [e]; omega) (by rw [e]; omega)
    rw [e] at q
    exact q
end Go.Proofs.YtohiigmlkhpneaaDoor
