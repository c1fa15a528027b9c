/- Many blank cells (48): slices.Repeat, line.empties. line.Fit of a line that there may be, with no fewer columns (48). The library's variables hold what the program's text lays. No condition. -/
import Derived.Test.YthcndmchlpohpaaGreatDoorMlC
namespace Go.Proofs.YthcndmchlpohpaaGreatDoor
set_option linter.unusedVariables false
set_option linter.unusedSimpArgs false
open Go.RowKit Go.Shelf
attribute [local go_sem] Oper.semAt_some

theorem flat_take (cs : List Cell) (k : Nat) : (flat cs).take (k * 16) = flat (cs.take k) := by
  induction cs generalizing k with
  | nil => simp [flat]
  | cons c r ih =>
    cases k with
    | zero => simp [flat]
    | succ k =>
      rw [flat, List.take_succ_cons, flat, List.take_append, List.take_of_length_le (by simp [Cell.vals]; omega)]
      congr 1
      rw [← ih k]; congr 1
      simp [Cell.vals]; omega
theorem flat_drop (cs : List Cell) (k : Nat) : (flat cs).drop (k * 16) = flat (cs.drop k) := by
  have h1 := List.take_append_drop (k * 16) (flat cs)
  rw [flat_take] at h1
  have h2 : flat cs = flat (cs.take k) ++ flat (cs.drop k) := by rw [← flat_append, List.take_append_drop]
  rw [h2] at h1 ⊢
  exact List.append_cancel_left h1
theorem exec_copy {P : Program} {ρ : Operand → Value} {o : Oper} {s x : Operand} {t t' : TypeId} {v u v' : Value} {W W' : World} (ho : o.op = .call { callee := .builtin .copy, args := #[s, x], argTypes := #[t, t'] }) (hs : ρ s = v) (hx : ρ x = u)
    (hr : (Builtin.copy_ #[t, t'] o.type #[v, u]).run P W = .ok v' W') : (execOp ρ o).run P W = .ok (.value v') W' := by
  unfold execOp
  simp only [ho, resolve, invoke, builtin, Sem.run_bind, Sem.run_pure, Result.andThen_ok, List.map_toArray, List.map_cons, List.map_nil, hs, hx, hr]
/-- Blank cells so far, zero cells behind them. -/
def rpL (n k : Nat) : List Cell := List.replicate k blankC ++ List.replicate (n - k) zeroM
def RpR (W : World) (g n k : Nat) : Prop := W.heap[g]? = some (.cells (flat (rpL n k)).toArray 42 (0, 0))
theorem rpL_len {n k : Nat} (h : k ≤ n) : (rpL n k).length = n := by simp [rpL]; omega
theorem rpL_put {n k m : Nat} (h : k + m ≤ n) : (rpL n k).take k ++ List.replicate m blankC ++ (rpL n k).drop (k + m) = rpL n (k + m) := by
  unfold rpL
  rw [List.take_left' (by simp), ← List.drop_drop, List.drop_left' (by simp), List.drop_replicate, List.replicate_append_replicate, Nat.sub_sub]
theorem rp_copy {W : World} {g n k : Nat} (h : RpR W g n k) (ty : TypeId) (a : Addr) (sLen sCap cap m : Nat) (hk : k ≤ n) (hm : m = Nat.min sLen (n - k)) (hsrc : ∀ j v, (flat (List.replicate m blankC))[j]? = some v → W.cell? (a.add j) = some v) :
    (Builtin.copy_ #[25, 25] ty #[.slice (some ⟨g, k * 16, none⟩) (n - k) cap, .slice (some a) sLen sCap]).run Tryz.prog W = .ok (.int .i64 (m : Int)) (W.setRow g (flat (rpL n (k + m))).toArray) := by
  have hinfo : (Tryz.prog.info? 42).map (·.size) = some 16 := by
    have := infoCell
    cases hi : Tryz.prog.info? 42 with
    | none => rw [hi] at this; cases this
    | some i => rw [hi] at this; simp at this; simp [this.2.1]
  have hmn : m ≤ n - k := by rw [hm]; exact Nat.min_le_right _ _
  have hrun := run_copy_words (P := Tryz.prog) W 25 25 ty 42 16 g (k * 16) (n - k) cap a sLen sCap (flat (rpL n k)).toArray 42 (flat (List.replicate m blankC)) Tryz.underlying25 hinfo h
    (by rw [flat_length, List.length_replicate, hm]) hsrc (by rw [List.size_toArray, flat_length, flat_length, List.length_replicate, rpL_len hk]; omega) flat_one
  rw [← hm] at hrun
  have e : (flat (rpL n k)).toArray.toList.take (k * 16) ++ flat (List.replicate m blankC) ++ (flat (rpL n k)).toArray.toList.drop (k * 16 + (flat (List.replicate m blankC)).length) = flat (rpL n (k + m)) := by
    rw [flat_length, List.length_replicate, ← Nat.add_mul]
    show (flat (rpL n k)).take (k * 16) ++ flat (List.replicate m blankC) ++ (flat (rpL n k)).drop ((k + m) * 16) = _
    rw [flat_take, flat_drop, ← flat_append, ← flat_append, rpL_put (by omega)]
  rw [e] at hrun
  exact hrun
theorem RpR.src {W : World} {g n k : Nat} (h : RpR W g n k) {m : Nat} (hm : m ≤ k) (j : Nat) (v : Value) (hv : (flat (List.replicate m blankC))[j]? = some v) : W.cell? ((⟨g, 0, none⟩ : Addr).add j) = some v := by
  refine El.row_cells h j v ?_
  have e : rpL n k = List.replicate m blankC ++ (List.replicate (k - m) blankC ++ List.replicate (n - k) zeroM) := by
    unfold rpL
    rw [← List.append_assoc, List.replicate_append_replicate, show m + (k - m) = k by omega]
  show (flat (rpL n k))[j]? = some v
  rw [e, flat_append, List.getElem?_append_left (List.getElem?_eq_some_iff.1 hv).1]
  exact hv
theorem RpR.own {W : World} {g n base : Nat} (h : RpR W g n n) (hb : base ≤ g) (hn : n ≤ 1000000) : cellEl.Own (fun b => base ≤ b) W (.slice (some ⟨g, 0, none⟩) n n) (List.replicate n blankC) := by
  have e : rpL n n = List.replicate n blankC := by simp [rpL]
  unfold RpR at h
  rw [e] at h
  have h1 : OwnCells W base (.slice (some ⟨g, 0, none⟩) (List.replicate n blankC).length n) (List.replicate n blankC) := ⟨flat_length _, .inr ⟨g, n, _, rfl, hb, h, by simp, by unfold maxLen; omega, by rw [List.size_toArray, flat_length, List.length_replicate], by
    show ((flat (List.replicate n blankC)).toArray.toList).take ((List.replicate n blankC).length * 16) = flat (List.replicate n blankC)
    rw [← flat_length]; simp⟩⟩
  have := h1.elNew
  rwa [List.length_replicate] at this
theorem flat_rep (n : Nat) : (List.replicate n zeroM.vals).flatten = flat (List.replicate n zeroM) := by
  induction n with
  | zero => rfl
  | succ n ih => rw [List.replicate_succ, List.flatten_cons, ih, List.replicate_succ, flat]
theorem cells_made (n : Nat) (hn : n ≤ 1000000) (W : World) : (Instr.makeSlice 25 (.int .i64 (n : Int)) (.int .i64 (n : Int))).run Tryz.prog W = .ok (.slice (some ⟨W.heap.size, 0, none⟩) n n) (W.alloc (.cells (flat (rpL n 0)).toArray 42)) := by
  have h := (El.run_make_own (E := cellEl) (P := Tryz.prog) (st := 25) zeroM.vals zeroM Tryz.underlying25 (by kernel_rfl) (fun i hi => by
    have h : (Tryz.prog.info? 42).map (·.bytes) = some 64 := by kernel_rfl
    have hi2 : Tryz.prog.info? 42 = some i := hi
    rw [hi2] at h; simp at h; omega) rfl rfl (fun F w => rfl) n hn W).1
  rw [flat_rep] at h
  have e : rpL n 0 = List.replicate n zeroM := by simp [rpL]
  rw [e]
  exact h
set_option maxHeartbeats 1000000 in
set_option maxRecDepth 100000 in
theorem repeat_any (n : Nat) (hn : n ≤ 1000) (b : Nat) (w : World) (hb : w.heap[b]? = some (.cells blankC.vals.toArray 42 (0, 0))) :
    Calls Tryz.prog 69 #[.slice (some ⟨b, 0, none⟩) 1 1, .int .i64 (n : Int)] w fun e w' => ∃ v, e = .returned v ∧ cellEl.Own (fun g => w.heap.size ≤ g) w' v (List.replicate n blankC) ∧ Sees w w' := by
  have KM : Hid (∀ W, Calls Tryz.prog 80 #[.int .u64 1, .int .u64 (n : Int)] W fun e w' => e = .returned (.tuple #[.int .u64 0, .int .u64 (n : Int)]) ∧ w' = W) := fun W => by
    have := Any.bits_Mul Tryz.lays212 1 n (by omega) (by omega) W
    rw [Nat.one_mul, Nat.div_eq_of_lt (show n < 18446744073709551616 by omega), Nat.mod_eq_of_lt (show n < 18446744073709551616 by omega)] at this
    exact this
  have hw0 : IntKind.u64.wrap (n : Int) = n := by rw [IntKind.wrap_u64]; omega
  have hw1 : IntKind.i64.wrap (n : Int) = n := by rw [IntKind.wrap_i64]; omega
  have hmk := cells_made n (by omega) w
  have g1 : ¬ ((n : Int) < 0) := by omega
  have g2 : ¬ ((n : Int) > 9223372036854775807) := by omega
  have HB := Lib.hid hb
  have HR0 : Hid (RpR (w.alloc (.cells (flat (rpL n 0)).toArray 42)) w.heap.size n 0) := heap_alloc_new w _
  obtain ⟨m, hm⟩ : ∃ m, m = Nat.min 1 n := ⟨_, rfl⟩
  have hmn : m ≤ n := by rw [hm]; exact Nat.min_le_right _ _
  have hm1 : m ≤ 1 := by rw [hm]; exact Nat.min_le_left _ _
  have HC : Hid ((Builtin.copy_ #[25, 25] 3 #[.slice (some ⟨w.heap.size, 0, none⟩) n n, .slice (some ⟨b, 0, none⟩) 1 1]).run Tryz.prog (w.alloc (.cells (flat (rpL n 0)).toArray 42)) = .ok (.int .i64 (m : Int)) ((w.alloc (.cells (flat (rpL n 0)).toArray 42)).setRow w.heap.size (flat (rpL n m)).toArray)) := by
    have := rp_copy HR0.out 3 ⟨b, 0, none⟩ 1 1 n m (Nat.zero_le _) (by rw [hm, Nat.sub_zero]) (fun j v hv => by
      have hb2 : (w.alloc (.cells (flat (rpL n 0)).toArray 42)).heap[b]? = some (.cells blankC.vals.toArray 42 (0, 0)) := by
        rw [((Sees.refl w).alloc _).block _ (Array.getElem?_eq_some_iff.1 hb).1]; exact hb
      refine El.row_cells hb2 j v ?_
      rcases (show m = 0 ∨ m = 1 by omega) with h | h
      · rw [h] at hv; simp [flat] at hv
      · rw [h] at hv; simpa [flat] using hv)
    rw [Nat.zero_mul, Nat.sub_zero, Nat.zero_add] at this
    exact this
  have HS1 : Hid (Sees w ((w.alloc (.cells (flat (rpL n 0)).toArray 42)).setRow w.heap.size (flat (rpL n m)).toArray)) :=
    (Keeps.setRow' (F := fun _ => False) (Keeps.of_sees ((Sees.refl w).alloc _)) (Nat.le_refl _) _).sees_end (fun _ _ h => h)
  have HR1 : Hid (RpR ((w.alloc (.cells (flat (rpL n 0)).toArray 42)).setRow w.heap.size (flat (rpL n m)).toArray) w.heap.size n m) := setRow_heap _ _ _ _ _ _ HR0.out
  have HM := Lib.hid hm
  clear hb hm
  go_enter Tryz.func69, Tryz.ntmps69
  go_wp2_with fail
  refine (KM.out _).mono ?_
  rintro e W2 ⟨rfl, rfl⟩
  clear KM HB HR0
  go_wp2_with (guard_target = wpList _ _ _ ({ dst := _, op := Op.call { callee := Callee.builtin Builtin.copy, args := _, argTypes := _ }, type := _, pos := _, after := _, guard := _ } :: _) _ _; refine wpList_val rfl (exec_copy rfl (by go_simp) (by go_simp) HC.out) (fun K hK => ?_); go_simp; refine hK _ _ ?_; clear hK K)
  have HMK : Hid (n = 0 ∨ 1 ≤ m) := by unfold RowKit.Hid; rw [HM.out]; rcases Nat.eq_zero_or_pos n with h | h; exact .inl h; exact .inr (Nat.le_min.2 ⟨Nat.le_refl 1, h⟩)
  go_loopw [8] (fun ii W => ∃ k : Nat, k ≤ n ∧ (n = 0 ∨ 1 ≤ k) ∧ ii = .int .i64 k ∧ RpR W W2.heap.size n k ∧ Sees W2 W) (fun ii _ => n - (intOf ii).toNat)
  case atStart => exact ⟨m, hmn, HMK.out, rfl, HR1.out, HS1.out⟩
  case round =>
    obtain ⟨k, hk, hk1, rfl, hR, hS⟩ := hrel
    have HR := Lib.hid hR
    have HS := Lib.hid hS
    clear hR hS HC HS1 HR1 HM hmk hmn hm1 HMK
    by_cases hlt : k < n
    · have hk2 : 1 ≤ k := by omega
      have hnk : ¬ n = k := by omega
      clear hk1
      obtain ⟨d, hd⟩ : ∃ d, d = Nat.min k (n - k) := ⟨_, rfl⟩
      have hd1 : 1 ≤ d := by rw [hd]; exact Nat.le_min.2 ⟨hk2, by omega⟩
      have hd2 : d ≤ n - k := by rw [hd]; exact Nat.min_le_right _ _
      have HCP : Hid (∀ W, RpR W W2.heap.size n k → (Builtin.copy_ #[25, 25] 3 #[.slice (some ⟨W2.heap.size, k * 16, none⟩) (n - k) (n - k), .slice (some ⟨W2.heap.size, 0, none⟩) k n]).run Tryz.prog W = .ok (.int .i64 (d : Int)) (W.setRow W2.heap.size (flat (rpL n (k + d))).toArray)) := fun W h =>
        rp_copy h 3 ⟨W2.heap.size, 0, none⟩ k n (n - k) d hk hd (h.src (by rw [hd]; exact Nat.min_le_left _ _))
      clear hd
      go_upto_region 9 with fail
      refine wpH_go (fun b => b = W2.heap.size) 10 (by kernel_rfl) (by kernel_rfl) (by rfl) (fun hB v0 hs9 => ?_)
      have HR2 : Hid (RpR v0 W2.heap.size n k) := by unfold RowKit.Hid RpR; rw [hs9.block _ (Array.getElem?_eq_some_iff.1 HR.out).1]; exact HR.out
      have HS2 := Lib.hid (HS.out.trans hs9)
      have hS0 : Keeps (fun b => b = W2.heap.size) v0 v0 := Keeps.refl _ v0
      have hw2 : IntKind.i64.wrap ((k : Int) + d) = ((k + d : Nat) : Int) := by rw [IntWalk.i64_in _ (by omega)]; omega
      clear hs9 HR HS
      refine wpH_take (i := 0) (v := .int .i64 (k : Int)) hB (by rfl) (by kernel_rfl) (fun _ _ _ _ _ h => h) (by rfl) hS0 (fun W hI => by clear hI; go_simp) ?_; (try simp only [Act.put, List.setIfInBounds_toArray, List.set_cons_zero, List.set_cons_succ])
      refine wpH_take (i := 1) (v := .slice (some ⟨W2.heap.size, 0, none⟩) n n) hB (by rfl) (by kernel_rfl) (fun _ _ _ _ _ h => h) (by rfl) hS0 (fun W hI => by clear hI; go_simp) ?_; (try simp only [Act.put, List.setIfInBounds_toArray, List.set_cons_zero, List.set_cons_succ])
      refine wpH_take (i := 2) (v := .int .i64 (k : Int)) hB (by rfl) (by kernel_rfl) (fun _ _ _ _ _ h => h) (by rfl) hS0 (fun W hI => by clear hI; go_simp) ?_; (try simp only [Act.put, List.setIfInBounds_toArray, List.set_cons_zero, List.set_cons_succ])
      refine wpH_take (i := 3) (v := .slice (some ⟨W2.heap.size, k * 16, none⟩) (n - k) (n - k)) hB (by rfl) (by kernel_rfl) (fun _ _ _ _ _ h => h) (by rfl) hS0 (fun W hI => by clear hI; go_simp) ?_; (try simp only [Act.put, List.setIfInBounds_toArray, List.set_cons_zero, List.set_cons_succ])
      refine wpH_take (i := 4) (v := .slice (some ⟨W2.heap.size, 0, none⟩) n n) hB (by rfl) (by kernel_rfl) (fun _ _ _ _ _ h => h) (by rfl) hS0 (fun W hI => by clear hI; go_simp) ?_; (try simp only [Act.put, List.setIfInBounds_toArray, List.set_cons_zero, List.set_cons_succ])
      refine wpH_take (i := 5) (v := .int .i64 (k : Int)) hB (by rfl) (by kernel_rfl) (fun _ _ _ _ _ h => h) (by rfl) hS0 (fun W hI => by clear hI; go_simp) ?_; (try simp only [Act.put, List.setIfInBounds_toArray, List.set_cons_zero, List.set_cons_succ])
      refine wpH_take (i := 6) (v := .slice (some ⟨W2.heap.size, 0, none⟩) k n) hB (by rfl) (by kernel_rfl) (fun _ _ _ _ _ h => h) (by rfl) hS0 (fun W hI => by clear hI; go_simp) ?_; (try simp only [Act.put, List.setIfInBounds_toArray, List.set_cons_zero, List.set_cons_succ])
      have hS1 : Keeps (fun b => b = W2.heap.size) v0 (v0.setRow W2.heap.size (flat (rpL n (k + d))).toArray) := Keeps.setRowF hS0 rfl _
      have HR3 : Hid (RpR (v0.setRow W2.heap.size (flat (rpL n (k + d))).toArray) W2.heap.size n (k + d)) := setRow_heap _ _ _ _ _ _ HR2.out
      have HS3 : Hid (Sees W2 (v0.setRow W2.heap.size (flat (rpL n (k + d))).toArray)) := (Keeps.setRow' (F := fun _ => False) (Keeps.of_sees HS2.out) (Nat.le_refl _) _).sees_end (fun _ _ h => h)
      refine wpH_one (i := 7) (by kernel_rfl) (wpOp_val (v := .int .i64 (d : Int)) (w' := v0.setRow W2.heap.size (flat (rpL n (k + d))).toArray) (by rfl) (wanted_none (by rfl) _) (exec_copy (v := .slice (some ⟨W2.heap.size, k * 16, none⟩) (n - k) (n - k)) (u := .slice (some ⟨W2.heap.size, 0, none⟩) k n) rfl (by go_simp) (by go_simp) (HCP.out _ HR2.out)) ⟨hS1, ?_⟩)
      (try simp only [Act.put, List.setIfInBounds_toArray, List.set_cons_zero, List.set_cons_succ])
      clear hS0
      have hS0 := hS1
      refine wpH_take (i := 8) (v := .int .i64 ((k + d : Nat) : Int)) hB (by rfl) (by kernel_rfl) (fun _ _ _ _ _ h => h) (by rfl) hS0 (fun W hI => by clear hI; go_simp) ?_; (try simp only [Act.put, List.setIfInBounds_toArray, List.set_cons_zero, List.set_cons_succ])
      refine wpH_take (i := 9) (v := .int .i64 ((k + d : Nat) : Int)) hB (by rfl) (by kernel_rfl) (fun _ _ _ _ _ h => h) (by rfl) hS0 (fun W hI => by clear hI; go_simp) ?_; (try simp only [Act.put, List.setIfInBounds_toArray, List.set_cons_zero, List.set_cons_succ])
      refine wpH_end (by kernel_rfl) ?_
      clear hS0 hS1 hB
      go_wp2
      go_roundw
      case rel => exact ⟨k + d, by omega, by omega, rfl, HR3.out, HS3.out⟩
      case measure => simp [intOf]; omega
    · obtain rfl : k = n := by omega
      clear hlt
      go_wp2
      go_ret
      exact ⟨_, rfl, HR.out.own (Nat.le_refl _) (by omega), HS.out⟩
set_option maxHeartbeats 1000000 in
/-- So many blank cells. -/
theorem empties_any (n : Nat) (hn : n ≤ 1000) (w : World) :
    Calls Tryz.prog 54 #[.int .i64 (n : Int)] w fun e w' => ∃ v, e = .returned v ∧ cellEl.Own (fun b => w.heap.size ≤ b) w' v (List.replicate n blankC) ∧ Sees w w' := by
  have KB : Hid (∀ W, Calls Tryz.prog 56 #[zeroM.pen] W fun e w' => e = .returned blankC.val ∧ Sees W w') := fun W => blankP_any zeroM W
  have KR : Hid (∀ W, Sees w W → Calls Tryz.prog 69 #[.slice (some ⟨W.heap.size, 0, none⟩) 1 1, .int .i64 (n : Int)] (W.alloc (.cells blankC.vals.toArray 42)) fun e w' => ∃ v, e = .returned v ∧ cellEl.Own (fun b => w.heap.size ≤ b) w' v (List.replicate n blankC) ∧ Sees w w') := fun W hs => by
    refine (repeat_any n hn W.heap.size _ (heap_alloc_new W _)).mono ?_
    rintro e w' ⟨v, rfl, ho, hs'⟩
    have hz := hs.size
    exact ⟨v, rfl, ho.mono fun b _ hb => by rw [World.size_alloc] at hb; omega, (hs.alloc _).trans hs'⟩
  unfold Cell.pen zeroM at KB
  go_enter Tryz.func54, Tryz.ntmps54
  go_wp2_with fail
  refine (KB.out _).mono ?_
  rintro e W1 ⟨rfl, s1⟩
  have HS := Lib.hid s1
  clear s1 KB
  go_wp2_with (guard_target = wpList _ _ _ ({ dst := _, op := Op.buildSlice _ _ _, type := _, pos := _, after := _, guard := _ } :: _) _ _; refine wpList_val rfl (exec_buildS (a := blankC.val) rfl (by go_simp) (run_buildOne blankC W1)) (fun K hK => ?_); go_simp; refine hK _ _ ?_; clear hK K)
  refine (KR.out _ HS.out).mono ?_
  rintro e W2 ⟨v, rfl, ho, s2⟩
  have HO := Lib.hid ho
  have HS2 := Lib.hid s2
  clear ho s2 KR
  go_wp2
  go_ret
  exact ⟨v, rfl, HO.out, HS2.out⟩
end Go.Proofs.YthcndmchlpohpaaGreatDoor

namespace Go.Proofs.YthcndmchlpohpaaGreatDoor
set_option linter.unusedVariables false
set_option linter.unusedSimpArgs false
open Go.RowKit Go.Shelf
attribute [local go_sem] Oper.semAt_some

/-- What stands in memory: the line, the result. -/
structure FtS (w : World) (v : Value) (so : Bool) (W : World) : Prop where
  s : Sees w W
  l : LnAt W w.heap.size v so
  z : LnAt W (w.heap.size + 1) (.slice none 0 0) false
theorem FtS.sees {w W W' : World} {v : Value} {so : Bool} (h : FtS w v so W) (hs : Sees W W') : FtS w v so W' := ⟨h.s.trans hs, h.l.sees hs, h.z.sees hs⟩
set_option maxHeartbeats 1000000 in
set_option maxRecDepth 100000 in
theorem fit_row (v : Value) (cs : List Cell) (so : Bool) (F : Nat → Prop) (w : World) (ht : Tabs w) (h : cellEl.Rd F w v cs) (hok : lnOk cs = true) (N : Nat) (hN : cs.length ≤ N) (hN2 : N ≤ 1000) :
    Calls Tryz.prog 33 #[.agg #[v, .bool so], .int .i64 (N : Int)] w fun e w' => ∃ v', e = .returned (.tuple #[.agg #[v', .bool so], .int .i64 0]) ∧ cellEl.Own (fun b => w.heap.size ≤ b) w' v' (cs ++ List.replicate (N - cs.length) blankC) ∧ Sees w w' := by
  obtain ⟨a, cp, rfl, hcp⟩ := h.slice'
  obtain ⟨n, hnn⟩ : ∃ n, n = cs.length := ⟨_, rfl⟩
  rw [← hnn] at h hN hcp ⊢
  have HN := Lib.hid hnn
  have KV : Hid (∀ W, Sees w W → Calls Tryz.prog 11 #[.agg #[.slice a n cp, .bool so]] W fun e w' => e = .returned (.bool true) ∧ Sees W w') := fun W hs => by
    rw [← hok]
    exact lineValid_any _ cs so W (ht.sees hs) ((h.sees hs).rdc.rd) (by rw [← hnn]; omega)
  have KX : Hid (∀ W, Sees w W → Calls Tryz.prog 53 #[.slice a n cp] W fun e w' => ∃ v', e = .returned v' ∧ cellEl.Own (fun b => W.heap.size ≤ b) w' v' cs ∧ Sees W w') := fun W hs => by
    have := fix_any (.slice a n cp) cs F W (h.sees hs) (by rw [← hnn]; omega)
    rwa [fix_ok hok] at this
  have KE : Hid (∀ W, Calls Tryz.prog 54 #[.int .i64 ((N - n : Nat) : Int)] W fun e w' => ∃ v', e = .returned v' ∧ cellEl.Own (fun b => W.heap.size ≤ b) w' v' (List.replicate (N - n) blankC) ∧ Sees W w') := fun W => empties_any (N - n) (by omega) W
  have H0 : Hid (∀ X, X = w.alloc (.cells #[.slice a n cp, .bool so] 27) → ∀ Y, Y = X.alloc (.cells #[.slice none 0 0, .bool false] 27) → FtS w (.slice a n cp) so Y) := by
    rintro X rfl Y rfl
    have e1 : (w.alloc (.cells #[.slice a n cp, .bool so] 27)).heap.size = w.heap.size + 1 := World.size_alloc _ _
    exact ⟨((Sees.refl w).alloc _).alloc _, (LnAt.new rfl : LnAt (w.alloc _) _ _ _).sees ((Sees.refl _).alloc _), LnAt.new e1.symm⟩
  have g1 : ¬ ((N : Int) < 0) := by omega
  have g2 : ¬ ((N : Int) > 1000) := by omega
  have hmin : min (N : Int) (n : Int) = n := by omega
  have hsub : IntKind.i64.wrap ((N : Int) - n) = ((N - n : Nat) : Int) := by rw [IntWalk.i64_in _ (by omega)]; omega
  have hlen : (cs ++ List.replicate (N - n) blankC).length = N := by rw [List.length_append, List.length_replicate, ← hnn]; omega
  have HLEN := Lib.hid hlen
  clear h hnn ht hok hlen
  go_enter Tryz.func33, Tryz.ntmps33
  go_upto_region 1 with fail
  refine wp_world fun W1 hW1 => ?_
  have T1 := Lib.hid (H0.out _ rfl W1 hW1)
  clear hW1 H0
  go_wp2_with (guard_target = wpList _ _ _ ({ dst := _, op := Op.load 27 _, type := _, pos := _, after := _, guard := _ } :: _) _ _; refine wpList_val rfl (exec_load (v := .agg #[.slice a n cp, .bool so]) rfl rfl (run_loadLn T1.out.l)) (fun K hK => ?_); go_simp; refine hK _ _ ?_; clear hK K)
  refine (KV.out _ T1.out.s).mono ?_
  rintro e W2 ⟨rfl, s2⟩
  have T2 := Lib.hid (T1.out.sees s2)
  obtain ⟨l0, l1⟩ := T2.out.l.c
  clear s2 T1 KV
  go_upto_region 4 with fail
  clear l0 l1
  refine wpH_go (fun b => w.heap.size + 1 ≤ b) 15 (by kernel_rfl) (by kernel_rfl) (by rfl) (fun hB v0 hs9 => ?_)
  have T3 := Lib.hid (T2.out.sees hs9)
  have hS0 : Keeps (fun b => w.heap.size + 1 ≤ b) v0 v0 := Keeps.refl _ v0
  have NF : Hid (¬ (w.heap.size + 1 ≤ w.heap.size)) := by unfold RowKit.Hid; omega
  have HC0 := Lib.hid T3.out.l.c.1
  have HC1 := Lib.hid T3.out.l.c.2
  clear hs9 T2
  refine wpH_take (i := 0) (v := .pointer (some ⟨w.heap.size, 0, none⟩)) hB (by rfl) (by kernel_rfl) (fun _ _ _ _ _ h => h) (by rfl) hS0 (fun W hI => by clear hI; go_simp) ?_; (try simp only [Act.put, List.setIfInBounds_toArray, List.set_cons_zero, List.set_cons_succ])
  refine wpH_take (i := 1) (v := .slice a n cp) hB (by rfl) (by kernel_rfl) (fun _ _ _ _ _ h => h) (by rfl) hS0 (fun W hI => by have z0 := hI.cell NF.out HC0.out; clear hI; go_simp) ?_; (try simp only [Act.put, List.setIfInBounds_toArray, List.set_cons_zero, List.set_cons_succ])
  refine wpH_take (i := 2) (v := .int .i64 (n : Int)) hB (by rfl) (by kernel_rfl) (fun _ _ _ _ _ h => h) (by rfl) hS0 (fun W hI => by clear hI; go_simp) ?_; (try simp only [Act.put, List.setIfInBounds_toArray, List.set_cons_zero, List.set_cons_succ])
  refine wpH_take (i := 3) (v := .slice a n cp) hB (by rfl) (by kernel_rfl) (fun _ _ _ _ _ h => h) (by rfl) hS0 (fun W hI => by clear hI; go_simp) ?_; (try simp only [Act.put, List.setIfInBounds_toArray, List.set_cons_zero, List.set_cons_succ])
  refine wpH_take (i := 5) (v := .int .i64 (N : Int)) hB (by rfl) (by kernel_rfl) (fun _ _ _ _ _ h => h) (by rfl) hS0 (fun W hI => by clear hI; go_simp) ?_; (try simp only [Act.put, List.setIfInBounds_toArray, List.set_cons_zero, List.set_cons_succ])
  refine wpH_take (i := 6) (v := .int .i64 (n : Int)) hB (by rfl) (by kernel_rfl) (fun _ _ _ _ _ h => h) (by rfl) hS0 (fun W hI => by clear hI; go_simp) ?_; (try simp only [Act.put, List.setIfInBounds_toArray, List.set_cons_zero, List.set_cons_succ])
  refine wpH_take (i := 7) (v := .int .i64 ((N - n : Nat) : Int)) hB (by rfl) (by kernel_rfl) (fun _ _ _ _ _ h => h) (by rfl) hS0 (fun W hI => by clear hI; go_simp) ?_; (try simp only [Act.put, List.setIfInBounds_toArray, List.set_cons_zero, List.set_cons_succ])
  refine wpH_take (i := 10) (v := .pointer (some ⟨w.heap.size, 1, none⟩)) hB (by rfl) (by kernel_rfl) (fun _ _ _ _ _ h => h) (by rfl) hS0 (fun W hI => by clear hI; go_simp) ?_; (try simp only [Act.put, List.setIfInBounds_toArray, List.set_cons_zero, List.set_cons_succ])
  refine wpH_take (i := 11) (v := .bool so) hB (by rfl) (by kernel_rfl) (fun _ _ _ _ _ h => h) (by rfl) hS0 (fun W hI => by have z0 := hI.cell NF.out HC1.out; clear hI; go_simp) ?_; (try simp only [Act.put, List.setIfInBounds_toArray, List.set_cons_zero, List.set_cons_succ])
  refine wpH_one (i := 4) (by kernel_rfl) (wpOp_enter (fn := 53) (args := #[.slice a n cp]) (by rfl) (by rfl) (by go_simp) ((KX.out _ T3.out.s).mono ?_))
  rintro ee W5 ⟨v5, rfl, o5, s5⟩
  have hS1 := hS0.trans (Keeps.of_sees s5)
  refine ⟨_, rfl, hS1, ?_⟩
  (try simp only [Act.put, List.setIfInBounds_toArray, List.set_cons_zero, List.set_cons_succ])
  clear hS0
  refine wpH_one (i := 8) (by kernel_rfl) (wpOp_enter (fn := 54) (args := #[.int .i64 ((N - n : Nat) : Int)]) (by rfl) (by rfl) (by go_simp) ((KE.out _).mono ?_))
  rintro ee W6 ⟨v6, rfl, o6, s6⟩
  have hS2 := hS1.trans (Keeps.of_sees s6)
  refine ⟨_, rfl, hS2, ?_⟩
  (try simp only [Act.put, List.setIfInBounds_toArray, List.set_cons_zero, List.set_cons_succ])
  clear hS1
  have z3 := T3.out.s.size
  have z5 := s5.size
  have z6 := s6.size
  have hown : ∀ b, v5.ownBlock = some b → v0.heap.size ≤ b ∧ b < W5.heap.size := fun b hb => o5.base hb
  have hrow : cellEl.Row v0.heap.size (fun b => v5.ownBlock ≠ some b) W6 v5 cs := cell_row_of _ (o5.sees s6) (fun g h => h)
  have hu : cellEl.Rd (fun b => v5.ownBlock ≠ some b) W6 v6 (List.replicate (N - n) blankC) := o6.rd.mono fun b _ hb e => by have := (hown b e).2; omega
  obtain ⟨v7, W7, ha7, ho7, hk7, hb7⟩ := El.run_append_row typedCell 25 hrow v6 (List.replicate (N - n) blankC) hu (fun b h => h) (by have := HLEN.out; rw [List.length_append] at this; omega) (by omega)
  have hS3 := hS2.trans (hk7.mono fun b _ e => by
    have h1 := (hown b e).1
    have h2 := (Array.getElem?_eq_some_iff.1 T3.out.z).1
    show w.heap.size + 1 ≤ b
    omega)
  refine wpH_one (i := 9) (by kernel_rfl) (wpOp_val (v := v7) (w' := W7) (by rfl) (wanted_none (by rfl) _) (exec_append (v := v5) (u := v6) rfl (by go_simp) (by go_simp) ha7) ⟨hS3, ?_⟩)
  (try simp only [Act.put, List.setIfInBounds_toArray, List.set_cons_zero, List.set_cons_succ])
  clear hS2
  have o7 := cell_row_own ho7
  have hz3 := (Array.getElem?_eq_some_iff.1 T3.out.z).1
  have hz7 : LnAt W7 (w.heap.size + 1) (.slice none 0 0) false := ((T3.out.z.sees s5).sees s6).keeps hk7 (fun e => by have := (hown _ e).1; omega)
  have hs7 : Sees w W7 := T3.out.s.trans ((El.keep_new (s5.trans s6) hk7 (fun g hg => (hown g hg).1)))
  obtain ⟨a7, c7, hv7, _⟩ := o7.slice
  obtain ⟨N7, hN7⟩ : ∃ N7, N7 = (cs ++ List.replicate (N - n) blankC).length := ⟨_, rfl⟩
  rw [← hN7] at hv7
  subst hv7
  have HO7 := Lib.hid o7
  have HZ7 := Lib.hid hz7
  have HS7 := Lib.hid hs7
  have HV0 := Lib.hid hz3
  clear o7 hz7 hs7 ho7 hk7 hb7 ha7 hrow hu hown o5 o6 s5 s6 z3 z5 z6 hz3 hN7
  have hS0 := hS3
  refine wpH_take (i := 12) (v := .agg #[.slice a7 N7 c7, .bool so]) hB (by rfl) (by kernel_rfl) (fun _ _ _ _ _ h => h) (by rfl) hS0 (fun W hI => by clear hI; go_simp) ?_; (try simp only [Act.put, List.setIfInBounds_toArray, List.set_cons_zero, List.set_cons_succ])
  have hS4 : Keeps (fun b => w.heap.size + 1 ≤ b) v0 (W7.setRow (w.heap.size + 1) #[.slice a7 N7 c7, .bool so]) := Keeps.setRowF hS3 (Nat.le_refl _) _
  refine wpH_one (i := 13) (by kernel_rfl) (wpOp_skip (w' := W7.setRow (w.heap.size + 1) #[.slice a7 N7 c7, .bool so]) (by rfl) (wanted_none (by rfl) _) (exec_store (v := .agg #[.slice a7 N7 c7, .bool so]) rfl rfl rfl (run_storeLn (u := .slice a7 N7 c7) (so' := so) HZ7.out (by rfl))) ⟨hS4, ?_⟩)
  (try simp only [Act.put, List.setIfInBounds_toArray, List.set_cons_zero, List.set_cons_succ])
  clear hS0 hS3
  have hS0 := hS4
  refine wpH_take (i := 14) (v := .int .i64 0) hB (by rfl) (by kernel_rfl) (fun _ _ _ _ _ h => h) (by rfl) hS0 (fun W hI => by clear hI; go_simp) ?_; (try simp only [Act.put, List.setIfInBounds_toArray, List.set_cons_zero, List.set_cons_succ])
  refine wpH_end (by kernel_rfl) ?_
  clear hS0 hS4 hB
  have hzz : LnAt (W7.setRow (w.heap.size + 1) #[.slice a7 N7 c7, .bool so]) (w.heap.size + 1) (.slice a7 N7 c7) so := setRow_heap _ _ _ _ _ _ HZ7.out
  have HZZ := Lib.hid hzz
  have HSS : Hid (Sees w (W7.setRow (w.heap.size + 1) #[.slice a7 N7 c7, .bool so])) := (Keeps.setRow' (F := fun _ => False) (Keeps.of_sees HS7.out) (Nat.le_succ _) _).sees_end (fun _ _ h => h)
  have HOO : Hid (cellEl.Own (fun b => w.heap.size ≤ b) (W7.setRow (w.heap.size + 1) #[.slice a7 N7 c7, .bool so]) (.slice a7 N7 c7) (cs ++ List.replicate (N - n) blankC)) :=
    (HO7.out.keeps (Keeps.setRowF (F := fun b => b = w.heap.size + 1) (Keeps.refl _ W7) rfl _) (fun b hb e => by have := HV0.out; omega)).mono fun b _ hb => by have := HV0.out; omega
  clear hzz
  go_wp2
  exact bodyPost_ret (results_ln rfl rfl rfl HZZ.out) rfl ⟨_, rfl, HOO.out, HSS.out⟩
end Go.Proofs.YthcndmchlpohpaaGreatDoor
