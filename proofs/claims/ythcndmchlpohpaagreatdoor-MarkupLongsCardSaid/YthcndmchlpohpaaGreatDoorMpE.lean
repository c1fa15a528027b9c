/- MarkupLongs (48). The tables hold what the program's text lays. -/
import Derived.Test.YthcndmchlpohpaaGreatDoorMpD
import Derived.Test.YthcndmchlpohpaaGreatDoorMlE
namespace Go.Proofs.YthcndmchlpohpaaGreatDoor
set_option linter.unusedVariables false
set_option linter.unusedSimpArgs false
open Go.RowKit Go.Shelf
attribute [local go_sem] Oper.semAt_some

/-- A row of n bytes, the first i of them a letter. -/
def RepR (W : World) (g n : Nat) (c : UInt8) (i : Nat) : Prop := ∃ cur : Array Value, W.heap[g]? = some (.cells cur 5 (0, 0)) ∧ cur.size = n ∧ ∀ j, j < n → cur[j]? = some (.int .u8 (if j < i then (c.toNat : Int) else 0))
namespace RepR
variable {W W' : World} {g n i : Nat} {c : UInt8}
theorem new (n : Nat) (c : UInt8) (W : World) : RepR (W.alloc (.cells (Array.replicate n (Value.int .u8 0)) 5)) W.heap.size n c 0 :=
  ⟨_, heap_alloc_new W _, by simp, fun j hj => by rw [Array.getElem?_replicate, if_pos hj]; simp⟩
theorem cell (h : RepR W g n c i) {j : Nat} (hj : j < n) : W.cell? ⟨g, j, none⟩ = some (.int .u8 (if j < i then (c.toNat : Int) else 0)) := by
  obtain ⟨cur, h1, h2, h3⟩ := h
  rw [cell_of_row _ _ _ _ _ _ h1, h3 j hj]
theorem fr (h : RepR W g n c i) (j : Nat) : W.frozen? ⟨g, j, none⟩ = false := by
  obtain ⟨cur, h1, h2, h3⟩ := h
  exact frozen_of_row W g j _ _ h1
theorem put (h : RepR W g n c i) (hi : i < n) : RepR (W.setCell ⟨g, i, none⟩ (.int .u8 (c.toNat : Int))) g n c (i + 1) := by
  obtain ⟨cur, h1, h2, h3⟩ := h
  refine ⟨_, heap_setCell_same W g i _ _ _ h1, by simpa using h2, fun j hj => ?_⟩
  have h4 := h3 j hj
  by_cases e : j = i
  · subst e
    rw [if_pos (by omega)]
    simp [h2, hj]
  · have e' : ¬ i = j := fun h => e h.symm
    have hv : (if j < i + 1 then (c.toNat : Int) else 0) = if j < i then (c.toNat : Int) else 0 := by
      by_cases hlt : j < i
      · rw [if_pos hlt, if_pos (by omega)]
      · rw [if_neg hlt, if_neg (by omega)]
    rw [hv, ← h4]
    simp [e']
theorem sees (h : RepR W g n c i) (hs : Sees W W') : RepR W' g n c i := by
  obtain ⟨cur, h1, h2, h3⟩ := h
  exact ⟨cur, by rw [hs.block _ (Array.getElem?_eq_some_iff.1 h1).1]; exact h1, h2, h3⟩
end RepR
theorem run_make_bytes (n : Nat) (hn : n ≤ 1048577) (W : World) : (Instr.makeSlice 23 (.int .i64 (n : Int)) (.int .i64 (n : Int))).run Tryz.prog W = .ok (.slice (some ⟨W.heap.size, 0, none⟩) n n) (W.alloc (.cells (Array.replicate n (Value.int .u8 0)) 5)) := by
  have hinfo : (Tryz.prog.info? 5).map (fun i => (i.zero, i.size, i.bytes)) = some (some (.int .u8 0), 1, 1) := by kernel_rfl
  obtain ⟨i0, hi, hz0, hz1, hz2⟩ := info_parts hinfo
  have := run_make (P := Tryz.prog) W 23 5 i0 (.int .u8 0) Tryz.underlying23 hi hz0 .i64 .i64 n n (by omega) (Int.le_refl _) (by rw [hz2]; omega) (by omega)
  have hc : madeCells (Value.int .u8 0).cells n = Array.replicate n (Value.int .u8 0) := Array.toList_inj.1 (by rw [show (Value.int .u8 0).cells = #[.int .u8 0] from rfl, toList_madeCells_one]; simp)
  rw [this, hz1, Int.toNat_natCast, Nat.mul_one, hc]
/-- A row of bytes as a string. -/
theorem rep_string {W : World} {g n : Nat} {c : UInt8} (h : RepR W g n c n) (cap : Nat) : (convert 23 9 (.slice (some ⟨g, 0, none⟩) n cap)).run Tryz.prog W = .ok (.string ⟨(List.replicate n c).toArray⟩) W := by
  have q := run_convert_bytes_back (P := Tryz.prog) W 23 9 5 ⟨g, 0, none⟩ cap (List.replicate n c) Tryz.underlying23 Tryz.underlying5 Tryz.underlying9 (fun j hj => by
    have hj' : j < n := by rw [List.length_replicate] at hj; exact hj
    have q := h.cell hj'
    rw [show (⟨g, 0, none⟩ : Addr).add j = ⟨g, j, none⟩ by rw [addr_add, Nat.zero_add], q, if_pos hj', List.getElem_replicate])
  rw [List.length_replicate] at q
  exact q
theorem index_rep {a b : UInt8} (h : a ≠ b) : ∀ n, Lib.index (List.replicate n a) [b] = -1
  | 0 => rfl
  | n + 1 => by
    rw [List.replicate_succ]
    unfold Lib.index
    rw [index_rep h n]
    have : (List.isPrefixOf [b] (a :: List.replicate n a)) = false := by
      simp only [List.isPrefixOf, Bool.and_true, beq_eq_false_iff_ne]
      exact fun e => h e.symm
    rw [this]; rfl
/-- Equal bytes: Line. -/
theorem rep_line {c : UInt8} {n : Nat} (h1 : 2 ≤ n) (no : Int) (hno : no = if n ≤ 1048576 then 6 else 5) : lineB (List.replicate n c) 5 = ([], false, no) := by
  subst hno
  unfold lineB
  rw [if_neg (by omega), List.length_replicate]
  by_cases h : 1048576 < n
  · rw [if_pos h, if_neg (by omega)]
  · rw [if_neg h, if_pos (show n ≤ 1048576 by omega)]
    by_cases hc : c = 91
    · have hr : (readB (List.replicate n c)).2.2 = false := by
        obtain ⟨m, rfl⟩ : ∃ m, n = m + 1 := ⟨n - 1, by omega⟩
        subst hc
        unfold readB
        rw [List.length_replicate, List.replicate_succ, readF_cons]
        unfold readStep Lib.cut
        rw [index_rep (by decide), if_neg (by rintro ⟨h, _⟩; cases h), if_pos rfl, if_neg (show ¬ (0 : Int) ≤ -1 by decide)]
        rfl
      rw [if_pos hr]
    · by_cases hr : (readB (List.replicate n c)).2.2 = false
      · rw [if_pos hr]
      · rw [if_neg hr, if_pos (fun h => mkL_rep h1 hc h.2)]
theorem eol_rep {c : UInt8} (h : c ≠ 10) : ∀ n, eol (List.replicate n c) = n
  | 0 => rfl
  | n + 1 => by
    rw [List.replicate_succ]
    unfold eol
    rw [eol_rep h n, if_neg (by simpa using h)]
/-- Equal bytes: Parse. -/
theorem rep_parse {c : UInt8} {n : Nat} (h1 : 2 ≤ n) (hc : c ≠ 10) (no : Int) (hno : no = if n ≤ 1048576 then 6 else 5) : parseB (List.replicate n c) 5 = ([], no) := by
  subst hno
  unfold parseB
  rw [if_neg (by omega), List.length_replicate]
  by_cases h : 1048576 < n
  · rw [if_pos h, if_neg (by omega)]
  · rw [if_neg h, if_pos (show n ≤ 1048576 by omega), pcs_cons (by intro e; have := congrArg List.length e; rw [List.length_replicate, List.length_nil] at this; omega), eol_rep hc]
    unfold parseF
    rw [List.take_of_length_le (by rw [List.length_replicate]; omega)]
    have hs : Lib.hasSuffix (List.replicate n c) [10] = false := by
      unfold Lib.hasSuffix
      rw [Bool.eq_false_iff]
      intro e
      have := (List.isSuffixOf_iff_suffix.1 e).subset (List.mem_singleton.2 rfl)
      exact hc (List.mem_replicate.1 this).2.symm
    rw [hs]; rfl
set_option maxHeartbeats 8000000 in
set_option maxRecDepth 100000 in
theorem mlongs_good (N : Nat) (more : Int) (c : UInt8) (w : World) (hw : Sd w) (n1 : -1 ≤ more) (n2 : more ≤ 1) (hN : 1048576 + more = (N : Int)) (c1 : 33 ≤ c.toNat) (c2 : c.toNat ≤ 126) :
    Calls Tryz.prog 3 #[.int .i64 more, .int .u8 c.toNat] w fun e w' => e = .returned (.bool true) ∧ Sees w w' := by
  have KN : Hid (∀ W, Sees w W → Calls Tryz.prog 8 #[] W fun e w' => e = .returned (.bool true) ∧ Sees W w') := fun W hs => known48_any W (hw.sees hs)
  have HW := Lib.hid hw
  have hmk := run_make_bytes N (by omega) w
  have g1 : decide (more < -1) = false := decide_eq_false (by omega)
  have g2 : decide (more > 1) = false := decide_eq_false (by omega)
  have g3 : decide ((c.toNat : Int) < 33) = false := decide_eq_false (by omega)
  have g4 : decide ((c.toNat : Int) > 126) = false := decide_eq_false (by omega)
  have R0 := Lib.hid (RepR.new N c w)
  have S0 := Lib.hid ((Sees.refl w).alloc (.cells (Array.replicate N (Value.int .u8 0)) 5))
  have hcc : c ≠ 10 := fun e => by subst e; revert c1; decide
  have HLL : Hid ((List.replicate N c).length ≤ 1000000000) := Lib.hid (by rw [List.length_replicate]; omega)
  have H3 : Hid (lineB (List.replicate N c) (-1) = ([], false, 2)) := Lib.hid (by unfold lineB; rw [if_pos (.inl (by decide))])
  clear hw
  by_cases hm : more > 0
  · have g5 : decide (more > 0) = true := decide_eq_true hm
    have H1 : Hid (lineB (List.replicate N c) 5 = ([], false, 5)) := Lib.hid (rep_line (by omega) _ (by rw [if_neg (by omega)]))
    have H2 : Hid (parseB (List.replicate N c) 5 = ([], 5)) := Lib.hid (rep_parse (by omega) hcc _ (by rw [if_neg (by omega)]))
    clear hcc
    go_enter Tryz.func3, Tryz.ntmps3
    go_wp2
    go_loopw [6] (fun ii W => ∃ k : Nat, k ≤ N ∧ ii = .int .i64 k ∧ RepR W w.heap.size N c k ∧ Sees w W) (fun ii _ => N - (intOf ii).toNat)
    case atStart => exact ⟨0, by omega, rfl, R0.out, S0.out⟩
    case round =>
      obtain ⟨k, hk, rfl, hR, hS⟩ := hrel
      have HR := Lib.hid hR
      have HS := Lib.hid hS
      clear hS
      by_cases hlt : k < N
      · have q0 := hR.cell hlt
        have q1 := hR.fr k
        have hkN : (k : Int) < N := by omega
        clear hR
        go_wp2
        exact ⟨⟨k + 1, by omega, by go_num, HR.out.put hlt, HS.out.setCell (p := ⟨w.heap.size, k, none⟩) (Nat.le_refl _) _⟩, by simp [intOf]; omega⟩
      · obtain rfl : k = N := by omega
        clear hlt hk
        obtain ⟨L, hL⟩ : ∃ L, L = List.replicate k c := ⟨_, rfl⟩
        rw [← hL] at H1 H2 H3 HLL
        have HCV : Hid (∀ W, RepR W w.heap.size k c k → (convert 23 9 (.slice (some ⟨w.heap.size, 0, none⟩) k k)).run Tryz.prog W = .ok (.string (strL L)) W) := fun W h => by rw [hL]; exact rep_string h k
        have hcv := HCV.out _ hR
        have KA : Hid (∀ W, Sees w W → Calls Tryz.prog 9 #[.string (strL L), .int .i64 5, .agg #[.slice none 0 0, .bool false], .int .i64 5] W fun e w' => e = .returned (.bool true) ∧ Sees W w') := fun W hs => by
          have h := reads_any L 5 HLL.out (.slice none 0 0) ⟨[], false⟩ (fun _ => True) 5 W (HW.out.sees hs) (El.Rd.nil _ _)
          rw [decide_eq_true H1.out] at h
          exact h
        have KB : Hid (∀ W, Sees w W → Calls Tryz.prog 10 #[.string (strL L), .int .i64 5, .slice none 0 0, .int .i64 5] W fun e w' => e = .returned (.bool true) ∧ Sees W w') := fun W hs => by
          have h := parses_any L 5 (fun _ => True) (.slice none 0 0) [] 5 W (HW.out.sees hs) HLL.out (El.Rd.nil _ _) (by simp)
          rw [H2.out] at h
          exact h
        have KC : Hid (∀ W, Sees w W → Calls Tryz.prog 9 #[.string (strL L), .int .i64 (-1), .agg #[.slice none 0 0, .bool false], .int .i64 2] W fun e w' => e = .returned (.bool true) ∧ Sees W w') := fun W hs => by
          have h := reads_any L (-1) HLL.out (.slice none 0 0) ⟨[], false⟩ (fun _ => True) 2 W (HW.out.sees hs) (El.Rd.nil _ _)
          rw [decide_eq_true H3.out] at h
          exact h
        clear hL hR hmk R0 S0
        go_wp2_with fail
        refine (KA.out _ HS.out).mono ?_
        rintro e W1 ⟨rfl, s1⟩
        have HS1 := Lib.hid (HS.out.trans s1)
        have hcv1 := HCV.out _ (HR.out.sees s1)
        have HR1 := Lib.hid (HR.out.sees s1)
        clear hcv s1
        go_wp2_with fail
        refine (KB.out _ HS1.out).mono ?_
        rintro e W2 ⟨rfl, s2⟩
        have HS2 := Lib.hid (HS1.out.trans s2)
        have hcv2 := HCV.out _ (HR1.out.sees s2)
        clear hcv1 s2
        go_wp2_with fail
        refine (KC.out _ HS2.out).mono ?_
        rintro e W3 ⟨rfl, s3⟩
        have HS3 := Lib.hid (HS2.out.trans s3)
        clear hcv2 s3
        go_wp2_with fail
        refine (KN.out _ HS3.out).mono ?_
        rintro e W4 ⟨rfl, s4⟩
        have HS4 := Lib.hid (HS3.out.trans s4)
        clear s4
        go_wp2
        go_ret
        exact ⟨rfl, HS4.out⟩
  · have g5 : decide (more > 0) = false := decide_eq_false hm
    have H1 : Hid (lineB (List.replicate N c) 5 = ([], false, 6)) := Lib.hid (rep_line (by omega) _ (by rw [if_pos (by omega)]))
    have H2 : Hid (parseB (List.replicate N c) 5 = ([], 6)) := Lib.hid (rep_parse (by omega) hcc _ (by rw [if_pos (by omega)]))
    clear hcc
    go_enter Tryz.func3, Tryz.ntmps3
    go_wp2
    go_loopw [6] (fun ii W => ∃ k : Nat, k ≤ N ∧ ii = .int .i64 k ∧ RepR W w.heap.size N c k ∧ Sees w W) (fun ii _ => N - (intOf ii).toNat)
    case atStart => exact ⟨0, by omega, rfl, R0.out, S0.out⟩
    case round =>
      obtain ⟨k, hk, rfl, hR, hS⟩ := hrel
      have HR := Lib.hid hR
      have HS := Lib.hid hS
      clear hS
      by_cases hlt : k < N
      · have q0 := hR.cell hlt
        have q1 := hR.fr k
        have hkN : (k : Int) < N := by omega
        clear hR
        go_wp2
        exact ⟨⟨k + 1, by omega, by go_num, HR.out.put hlt, HS.out.setCell (p := ⟨w.heap.size, k, none⟩) (Nat.le_refl _) _⟩, by simp [intOf]; omega⟩
      · obtain rfl : k = N := by omega
        clear hlt hk
        obtain ⟨L, hL⟩ : ∃ L, L = List.replicate k c := ⟨_, rfl⟩
        rw [← hL] at H1 H2 H3 HLL
        have HCV : Hid (∀ W, RepR W w.heap.size k c k → (convert 23 9 (.slice (some ⟨w.heap.size, 0, none⟩) k k)).run Tryz.prog W = .ok (.string (strL L)) W) := fun W h => by rw [hL]; exact rep_string h k
        have hcv := HCV.out _ hR
        have KA : Hid (∀ W, Sees w W → Calls Tryz.prog 9 #[.string (strL L), .int .i64 5, .agg #[.slice none 0 0, .bool false], .int .i64 6] W fun e w' => e = .returned (.bool true) ∧ Sees W w') := fun W hs => by
          have h := reads_any L 5 HLL.out (.slice none 0 0) ⟨[], false⟩ (fun _ => True) 6 W (HW.out.sees hs) (El.Rd.nil _ _)
          rw [decide_eq_true H1.out] at h
          exact h
        have KB : Hid (∀ W, Sees w W → Calls Tryz.prog 10 #[.string (strL L), .int .i64 5, .slice none 0 0, .int .i64 6] W fun e w' => e = .returned (.bool true) ∧ Sees W w') := fun W hs => by
          have h := parses_any L 5 (fun _ => True) (.slice none 0 0) [] 6 W (HW.out.sees hs) HLL.out (El.Rd.nil _ _) (by simp)
          rw [H2.out] at h
          exact h
        have KC : Hid (∀ W, Sees w W → Calls Tryz.prog 9 #[.string (strL L), .int .i64 (-1), .agg #[.slice none 0 0, .bool false], .int .i64 2] W fun e w' => e = .returned (.bool true) ∧ Sees W w') := fun W hs => by
          have h := reads_any L (-1) HLL.out (.slice none 0 0) ⟨[], false⟩ (fun _ => True) 2 W (HW.out.sees hs) (El.Rd.nil _ _)
          rw [decide_eq_true H3.out] at h
          exact h
        clear hL hR hmk R0 S0
        go_wp2_with fail
        refine (KA.out _ HS.out).mono ?_
        rintro e W1 ⟨rfl, s1⟩
        have HS1 := Lib.hid (HS.out.trans s1)
        have hcv1 := HCV.out _ (HR.out.sees s1)
        have HR1 := Lib.hid (HR.out.sees s1)
        clear hcv s1
        go_wp2_with fail
        refine (KB.out _ HS1.out).mono ?_
        rintro e W2 ⟨rfl, s2⟩
        have HS2 := Lib.hid (HS1.out.trans s2)
        have hcv2 := HCV.out _ (HR1.out.sees s2)
        clear hcv1 s2
        go_wp2_with fail
        refine (KC.out _ HS2.out).mono ?_
        rintro e W3 ⟨rfl, s3⟩
        have HS3 := Lib.hid (HS2.out.trans s3)
        clear hcv2 s3
        go_wp2_with fail
        refine (KN.out _ HS3.out).mono ?_
        rintro e W4 ⟨rfl, s4⟩
        have HS4 := Lib.hid (HS3.out.trans s4)
        clear s4
        go_wp2
        go_ret
        exact ⟨rfl, HS4.out⟩
set_option maxHeartbeats 1000000 in
theorem mlongs_bad (n c : Int) (w : World) (hw : Sd w) (h : n < -1 ∨ 1 < n ∨ c < 33 ∨ 126 < c) :
    Calls Tryz.prog 3 #[.int .i64 n, .int .u8 c] w fun e w' => e = .returned (.bool true) ∧ Sees w w' := by
  have KN := Lib.hid (known48_any w hw)
  have H := Lib.hid h
  clear hw h
  go_enter Tryz.func3, Tryz.ntmps3
  rcases Bool.eq_false_or_eq_true (decide (n < -1)) with g1 | g1
  · go_wp2_with fail
    refine KN.out.mono ?_
    rintro e W1 ⟨rfl, s⟩
    go_wp2
    go_ret
    exact ⟨rfl, s⟩
  rcases Bool.eq_false_or_eq_true (decide (n > 1)) with g2 | g2
  · go_wp2_with fail
    refine KN.out.mono ?_
    rintro e W1 ⟨rfl, s⟩
    go_wp2
    go_ret
    exact ⟨rfl, s⟩
  rcases Bool.eq_false_or_eq_true (decide (c < 33)) with g3 | g3
  · go_wp2_with fail
    refine KN.out.mono ?_
    rintro e W1 ⟨rfl, s⟩
    go_wp2
    go_ret
    exact ⟨rfl, s⟩
  rcases Bool.eq_false_or_eq_true (decide (c > 126)) with g4 | g4
  · go_wp2_with fail
    refine KN.out.mono ?_
    rintro e W1 ⟨rfl, s⟩
    go_wp2
    go_ret
    exact ⟨rfl, s⟩
  · exfalso
    have a1 := of_decide_eq_false g1
    have a2 := of_decide_eq_false g2
    have a3 := of_decide_eq_false g3
    have a4 := of_decide_eq_false g4
    have := H.out
    omega
theorem markupLongs_true (n c : Int) (w : World) (hw : Sd w) (h0 : 0 ≤ c) :
    Calls Tryz.prog 3 #[.int .i64 n, .int .u8 c] w fun e w' => e = .returned (.bool true) ∧ Sees w w' := by
  by_cases h : n < -1 ∨ 1 < n ∨ c < 33 ∨ 126 < c
  · exact mlongs_bad n c w hw h
  · obtain ⟨m, rfl⟩ : ∃ m : Nat, c = m := ⟨c.toNat, by omega⟩
    have e : (UInt8.ofNat m).toNat = m := by rw [UInt8.toNat_ofNat']; omega
    have q := mlongs_good (1048576 + n).toNat n (UInt8.ofNat m) w hw (by omega) (by omega) (by omega) (by rw [e]; omega) (by rw [e]; omega)
    rw [e] at q
    exact q
end Go.Proofs.YthcndmchlpohpaaGreatDoor
