/- Small functions of the statements about matches (42): places, matches, rows of letters. The tables hold what the program's text lays. -/
import Derived.Test.YtohiigmlkhpneaaDoorSrO
namespace Go.Proofs.YtohiigmlkhpneaaDoor
set_option linter.unusedVariables false
set_option linter.unusedSimpArgs false
open Go.RowKit Go.Shelf
attribute [local go_sem] Oper.semAt_some

theorem results_one {P : Program} {fn : Func} {tmps : Array Value} {W : World} {i p : Nat} {T : TypeId} {x : Value} (hr : fn.results = #[.cell i T]) (hi : tmps[i]?.getD undef = .pointer (some ⟨p, 0, none⟩)) (hl : (loadVar T ⟨p, 0, none⟩).run P W = .ok x W) :
    (results fn tmps).run P W = .ok x W := by
  unfold results
  rw [hr]
  simp [hi, asAddr, hl]
theorem pl_isAgg : ∀ W, (isAgg 32).run Tryd.prog W = .ok true W := fun _ => by kernel_rfl
theorem pl_sizeOf : ∀ W, (sizeOf 32).run Tryd.prog W = .ok 2 W := fun _ => by kernel_rfl
theorem run_loadPl {W : World} {b : Nat} {l c : Int} (h : PlAt W b l c) : (loadVar 32 ⟨b, 0, none⟩).run Tryd.prog W = .ok (.agg #[.int .i64 l, .int .i64 c]) W :=
  run_load_agg 32 b 0 [.int .i64 l, .int .i64 c] pl_isAgg pl_sizeOf fun j x hx => by
    rw [Nat.zero_add, Go.cell_of_row W b _ _ _ _ h]
    simpa using hx
set_option maxHeartbeats 1000000 in
theorem at_any (l c : Int) (w : World) : Calls Tryd.prog 16 #[.int .i64 l, .int .i64 c] w fun e w' => e = .returned (.agg #[.int .i64 l, .int .i64 c]) ∧ Sees w w' := by
  have h : PlAt (w.alloc (.cells #[.int .i64 l, .int .i64 c] 32)) w.heap.size l c := heap_alloc_new w _
  have H := Lib.hid h
  clear h
  go_enter Tryd.func16, Tryd.ntmps16
  go_wp2
  exact bodyPost_ret (results_one rfl rfl (run_loadPl H.out)) rfl ⟨rfl, (Sees.refl w).alloc _⟩
theorem loadVar_mt {W : World} {b : Nat} {m : Mt} (h : MtAt W b m) : (loadVar 35 ⟨b, 0, none⟩).run Tryd.prog W = .ok m.val W := run_loadMt h
set_option maxHeartbeats 400000 in
theorem match_any (a b c d : Int) (w : World) : Calls Tryd.prog 21 #[.int .i64 a, .int .i64 b, .int .i64 c, .int .i64 d] w fun e w' => e = .returned (Mt.val ⟨a, b, c, d⟩) ∧ Sees w w' := by
  have KA := Lib.hid (fun l c W => at_any l c W)
  have h : MtAt (w.alloc (.cells #[.int .i64 0, .int .i64 0, .int .i64 0, .int .i64 0] 35)) w.heap.size zeroMt := heap_alloc_new w _
  have H := Lib.hid h
  clear h
  go_enter Tryd.func21, Tryd.ntmps21
  go_wp2_with fail
  refine (KA.out _ _ _).mono ?_
  rintro e W1 ⟨rfl, s1⟩
  go_wp2_with fail
  refine (KA.out _ _ _).mono ?_
  rintro e W2 ⟨rfl, s2⟩
  have H2 := Lib.hid ((H.out.sees s1).sees s2)
  have S2 := Lib.hid ((((Sees.refl w).alloc (.cells #[.int .i64 0, .int .i64 0, .int .i64 0, .int .i64 0] 35)).trans s1).trans s2)
  obtain ⟨m0, m1, m2, m3⟩ := H2.out.c
  have m4 := H2.out.fr
  clear s1 s2 H
  go_wp2
  change bodyPost _ _ _ _ _ (put4 W2 w.heap.size ⟨a, b, c, d⟩)
  have h1 := put4_at H2.out ⟨a, b, c, d⟩
  have h2 := sees_put4 S2.out (Nat.le_refl _) ⟨a, b, c, d⟩
  generalize put4 W2 w.heap.size ⟨a, b, c, d⟩ = W3 at *
  exact bodyPost_ret (results_one rfl rfl (loadVar_mt h1)) rfl ⟨rfl, h2⟩
set_option maxHeartbeats 1000000 in
theorem after_any (l c l' c' : Int) (w : World) :
    Calls Tryd.prog 17 #[.agg #[.int .i64 l, .int .i64 c], .agg #[.int .i64 l', .int .i64 c']] w fun e w' => e = .returned (.bool (befB l' c' l c)) ∧ Sees w w' := by
  have hs : Sees w ((w.alloc (.cells #[.int .i64 l, .int .i64 c] 32)).alloc (.cells #[.int .i64 l', .int .i64 c'] 32)) := ((Sees.refl w).alloc _).alloc _
  have HS := Lib.hid hs
  clear hs
  go_enter Tryd.func17, Tryd.ntmps17
  rcases Bool.eq_false_or_eq_true (decide (l > l')) with h1 | h1
  · go_wp2
    go_ret
    exact ⟨ret_bool (by unfold befB; rw [show decide (l' < l) = true from h1]; rfl), HS.out⟩
  rcases Bool.eq_false_or_eq_true (l == l') with h2 | h2
  · have h2' : (l' == l) = true := by rw [beq_iff_eq] at h2 ⊢; exact h2.symm
    rcases Bool.eq_false_or_eq_true (decide (c > c')) with h3 | h3
    all_goals
      go_wp2
      go_ret
      exact ⟨ret_bool (by unfold befB; rw [show decide (l' < l) = _ from h1, h2', show decide (c' < c) = _ from h3]; rfl), HS.out⟩
  · have h2' : (l' == l) = false := by rw [beq_eq_false_iff_ne] at h2 ⊢; exact fun e => h2 e.symm
    go_wp2
    go_ret
    exact ⟨ret_bool (by unfold befB; rw [show decide (l' < l) = _ from h1, h2']; rfl), HS.out⟩
/-- A cell of a letter. -/
def chC (b : UInt8) : Cell := ⟨b.toNat, 0, 0, 0, 1, 0, 0, 0, 0, 0, 0, 0, 0, 0, 0, 0⟩
def chL (s : ByteArray) : List Cell := s.data.toList.map chC
theorem chL_len (s : ByteArray) : (chL s).length = s.size := by unfold chL; rw [List.length_map, ← Lib.size_eq]
set_option maxHeartbeats 4000000 in
theorem chRow_any (s : ByteArray) (hs : s.size ≤ 100000) (w : World) :
    Calls Tryd.prog 18 #[.string s] w fun e w' => ∃ v, e = .returned v ∧ cellEl.Own (fun b => w.heap.size ≤ b) w' v (chL s) ∧ Sees w w' := by
  go_enter Tryd.func18, Tryd.ntmps18
  go_wp2
  go_loopw [3, 4] (fun v i wr => ∃ k : Nat, k ≤ s.size ∧ i = .int .i64 k ∧ cellEl.Own (fun b => w.heap.size ≤ b) wr v ((chL s).take k) ∧ Sees w wr) (fun v i _ => s.size - (intOf i).toNat)
  case atStart => exact ⟨0, by omega, rfl, El.Own.nil _ _, Sees.refl _⟩
  case round =>
    obtain ⟨k, hk, rfl, ho, hS⟩ := hrel
    by_cases hlt : k < s.size
    · have k1 : (k : Int) < s.size := by omega
      obtain ⟨a3, c3, rfl, _⟩ := ho.slice
      rw [List.length_take, chL_len, Nat.min_eq_left hk] at ho ⊢
      have hcb : (s.data.toList)[k]? = some s[k] := by
        rw [List.getElem?_eq_getElem (by rw [← Lib.size_eq]; exact hlt)]
        rfl
      have hch : (chL s)[k]? = some (chC s[k]) := by unfold chL; rw [List.getElem?_map, hcb]; rfl
      have h32 : wrap32 (s[k].toNat : Int) = s[k].toNat := by have := s[k].toNat_lt; unfold wrap32; omega
      have htk : (chL s).take (k + 1) = (chL s).take k ++ [chC s[k]] := by rw [List.take_add_one, hch]; rfl
      have HTK := Lib.hid htk
      have hll : ((chL s).take k).length = k := by rw [List.length_take, chL_len]; omega
      have HL2 := Lib.hid (show ((chL s).take k).length + [chC s[k]].length ≤ 100000000 by rw [hll]; simp; omega)
      obtain ⟨cv, hcv⟩ : ∃ cv, cv = #[Value.int .i32 (s[k].toNat : Int), .int .i32 0, .int .i32 0, .int .i32 0, .int .i64 1, .int .i64 0, .int .u8 0, .int .u8 0, .int .u8 0, .int .u8 0, .int .i64 0, .int .u8 0, .int .u8 0, .int .u8 0, .int .u8 0, .int .u8 0] := ⟨_, rfl⟩
      have hrow := heap_alloc_new wr (.cells #[Value.int .i32 (s[k].toNat : Int), .int .i32 0, .int .i32 0, .int .i32 0, .int .i64 1, .int .i64 0, .int .u8 0, .int .u8 0, .int .u8 0, .int .u8 0, .int .i64 0, .int .u8 0, .int .u8 0, .int .u8 0, .int .u8 0, .int .u8 0] 60)
      have sA : Sees wr (wr.alloc (.cells #[Value.int .i32 (s[k].toNat : Int), .int .i32 0, .int .i32 0, .int .i32 0, .int .i64 1, .int .i64 0, .int .u8 0, .int .u8 0, .int .u8 0, .int .u8 0, .int .i64 0, .int .u8 0, .int .u8 0, .int .u8 0, .int .u8 0, .int .u8 0] 60)) := (Sees.refl wr).alloc _
      have HO := Lib.hid (ho.cut.sees sA)
      have Hrow := Lib.hid hrow
      have HF := Lib.hid (show ∀ b, (w.heap.size ≤ b ∧ b < wr.heap.size) → b < (wr.alloc (.cells #[Value.int .i32 (s[k].toNat : Int), .int .i32 0, .int .i32 0, .int .i32 0, .int .i64 1, .int .i64 0, .int .u8 0, .int .u8 0, .int .u8 0, .int .u8 0, .int .i64 0, .int .u8 0, .int .u8 0, .int .u8 0, .int .u8 0, .int .u8 0] 60)).heap.size from fun b hb => by rw [World.size_alloc]; omega)
      have HS := Lib.hid (hS.trans sA)
      have HLL := Lib.hid hll
      have HH := Lib.hid hS.size
      clear hrow sA hll htk hch hcb ho hS hcv cv
      go_wp2_with (at_builtin; refine El.wpList_append_own (v := .slice a3 k c3) typedCell rfl (.tmp 11) (.tmp 17) rfl (by go_simp) HO.out ⟨wr.heap.size, 0, none⟩ 1 1 (by go_simp) (chC s[k]).vals [chC s[k]] (fun _ => False) (El.ownIn_one (E := cellEl) rfl) rfl (fun j u hu => El.row_cells Hrow.out j u hu) HF.out (fun b hb => hb.elim) HL2.out ?_; intro v7 w7 ho7 hk7; obtain ⟨a7, c7, rfl, _⟩ := ho7.slice; obtain ⟨j7, hj7⟩ : ∃ j7, j7 = ((chL s).take k ++ [chC s[k]]).length := ⟨_, rfl⟩; rw [← hj7] at ho7 ⊢; have HJ7 := Lib.hid hj7; have HO7 := Lib.hid ho7; have HK7 := Lib.hid hk7; clear hj7 ho7 hk7)
      refine ⟨⟨k + 1, by omega, by go_num, ?_, El.keep_new HS.out HK7.out (fun g hg => (HO.out.base hg).1.1)⟩, by simp [intOf]; omega⟩
      rw [HTK.out]
      refine HO7.out.mono fun b _ hb => ?_
      rcases hb with hb | hb | hb
      · exact hb.1
      · exact hb.elim
      · rw [World.size_alloc] at hb; have := HH.out; omega
    · obtain rfl : k = s.size := by omega
      go_wp2
      go_ret
      refine ⟨_, rfl, ?_, hS⟩
      rw [List.take_of_length_le (by rw [chL_len]; exact Nat.le_refl _)] at ho
      exact ho
/-- lower. -/
theorem lower_any (b : UInt8) (fold : Bool) (w : World) : Calls Tryd.prog 26 #[.int .u8 b.toNat, .bool fold] w fun e w' => e = .returned (.int .u8 (low fold b).toNat) ∧ w' = w := by
  go_enter Tryd.func26, Tryd.ntmps26
  cases fold
  · go_wp2
    go_ret
    exact ⟨by rw [low_false]; rfl, rfl⟩
  · rcases Bool.eq_false_or_eq_true (decide ((b.toNat : Int) ≥ 65)) with h1 | h1
    · rcases Bool.eq_false_or_eq_true (decide ((b.toNat : Int) ≤ 90)) with h2 | h2
      · have e : low true b = b + 32 := by
          unfold low
          rw [if_pos]
          have h1 := of_decide_eq_true h1
          have h2 := of_decide_eq_true h2
          rw [decide_eq_true (show (65 : UInt8) ≤ b by rw [UInt8.le_iff_toNat_le]; show 65 ≤ b.toNat; omega), decide_eq_true (show b ≤ 90 by rw [UInt8.le_iff_toNat_le]; show b.toNat ≤ 90; omega)]
          rfl
        rw [e]
        have h3 : (b + 32).toNat = b.toNat + 32 := by
          rw [UInt8.toNat_add]
          have h2 := of_decide_eq_true h2
          show (b.toNat + 32) % 256 = _
          omega
        rw [h3]
        have h4 : (((b.toNat : Int) - 65) % 256 + 97) % 256 = ((b.toNat + 32 : Nat) : Int) := by
          have h2 := of_decide_eq_true h2
          have h1 := of_decide_eq_true h1
          omega
        have h5 := congrArg (fun x => Ending.returned (.int .u8 x)) h4
        clear e h3 h4
        go_wp2
        go_ret
        exact ⟨h5, rfl⟩
      · have e : low true b = b := by
          unfold low
          rw [if_neg]
          have h2 := of_decide_eq_false h2
          rw [decide_eq_false (p := b ≤ 90) (fun h => by rw [UInt8.le_iff_toNat_le] at h; have h : b.toNat ≤ 90 := h; omega)]
          simp
        rw [e]
        go_wp2
        go_ret
        exact ⟨rfl, rfl⟩
    · have e : low true b = b := by
        unfold low
        rw [if_neg]
        have h1 := of_decide_eq_false h1
        rw [decide_eq_false (p := 65 ≤ b) (fun h => by rw [UInt8.le_iff_toNat_le] at h; have h : 65 ≤ b.toNat := h; omega)]
        simp
      rw [e]
      go_wp2
      go_ret
      exact ⟨rfl, rfl⟩
end Go.Proofs.YtohiigmlkhpneaaDoor
