/- Places, rows of letters (43). The tables hold what the program's text lays. -/
import Derived.Test.YtfdolhppbimbmaaDoorLkI
import Derived.Test.YtfdolhppbimbmaaDoorSrV
namespace Go.Proofs.YtfdolhppbimbmaaDoor
set_option linter.unusedVariables false
set_option linter.unusedSimpArgs false
open Go.RowKit Go.Shelf
attribute [local go_sem] Oper.semAt_some

set_option maxHeartbeats 1000000 in
theorem lat_any (l c : Int) (w : World) : Calls Tryd.prog 33 #[.int .i64 l, .int .i64 c] w fun e w' => e = .returned (.agg #[.int .i64 l, .int .i64 c]) ∧ Sees w w' := by
  have h : PlAt (w.alloc (.cells #[.int .i64 l, .int .i64 c] 31)) w.heap.size l c := heap_alloc_new w _
  have H := Lib.hid h
  clear h
  go_enter Tryd.func33, Tryd.ntmps33
  go_wp2
  exact bodyPost_ret (results_one rfl rfl (run_loadPl H.out)) rfl ⟨rfl, (Sees.refl w).alloc _⟩
/-- The cells of a string, and blank ones up to so many columns. -/
def chP (s : ByteArray) (q : Nat) : List Cell := chL s ++ List.replicate q blankC
theorem chP_len (s : ByteArray) (q : Nat) : (chP s q).length = s.size + q := by unfold chP; rw [List.length_append, chL_len, List.length_replicate]
theorem chP_step (s : ByteArray) (q : Nat) : chP s (q + 1) = chP s q ++ [blankC] := by unfold chP; rw [List.replicate_succ', List.append_assoc]
def sliceLen : Value → Nat
  | .slice _ n _ => n
  | _ => 0
set_option maxHeartbeats 4000000 in
set_option maxRecDepth 100000 in
theorem lrow_any (s : ByteArray) (m : Nat) (hs : s.size ≤ 100000) (hm : m ≤ 100000) (w : World) :
    Calls Tryd.prog 34 #[.string s, .int .i64 m] w fun e w' => ∃ v, e = .returned v ∧ cellEl.Own (fun b => w.heap.size ≤ b) w' v (chP s (m - s.size)) ∧ Sees w w' := by
  go_enter Tryd.func34, Tryd.ntmps34
  go_wp2
  go_loopw [5, 6] (fun v i wr => ∃ k : Nat, k ≤ s.size ∧ i = .int .i64 k ∧ cellEl.Own (fun b => w.heap.size ≤ b) wr v ((chL s).take k) ∧ Sees w wr) (fun v i _ => s.size - (intOf i).toNat)
  case atStart => exact ⟨0, by omega, rfl, El.Own.nil _ _, Sees.refl _⟩
  case round =>
    obtain ⟨k, hk, rfl, ho, hS⟩ := hrel
    by_cases hlt : k < s.size
    · have k1 : (k : Int) < s.size := by omega
      obtain ⟨a3, c3, rfl, _⟩ := ho.slice
      rw [List.length_take, chL_len, Nat.min_eq_left hk] at ho ⊢
      have hcb : (s.data.toList)[k]? = some s[k] := by
        rw [List.getElem?_eq_getElem (by rw [← Lib.size_eq]; exact hlt)]
        rfl
      have hch : (chL s)[k]? = some (chC s[k]) := by unfold chL; rw [List.getElem?_map, hcb]; rfl
      have h32 : wrap32 (s[k].toNat : Int) = s[k].toNat := by have := s[k].toNat_lt; unfold wrap32; omega
      have htk : (chL s).take (k + 1) = (chL s).take k ++ [chC s[k]] := by rw [List.take_add_one, hch]; rfl
      have HTK := Lib.hid htk
      have hll : ((chL s).take k).length = k := by rw [List.length_take, chL_len]; omega
      have HL2 := Lib.hid (show ((chL s).take k).length + [chC s[k]].length ≤ 100000000 by rw [hll]; simp; omega)
      have hrow := heap_alloc_new wr (.cells #[Value.int .i32 (s[k].toNat : Int), .int .i32 0, .int .i32 0, .int .i32 0, .int .i64 1, .int .i64 0, .int .u8 0, .int .u8 0, .int .u8 0, .int .u8 0, .int .i64 0, .int .u8 0, .int .u8 0, .int .u8 0, .int .u8 0, .int .u8 0] 46)
      have sA : Sees wr (wr.alloc (.cells #[Value.int .i32 (s[k].toNat : Int), .int .i32 0, .int .i32 0, .int .i32 0, .int .i64 1, .int .i64 0, .int .u8 0, .int .u8 0, .int .u8 0, .int .u8 0, .int .i64 0, .int .u8 0, .int .u8 0, .int .u8 0, .int .u8 0, .int .u8 0] 46)) := (Sees.refl wr).alloc _
      have HO := Lib.hid (ho.cut.sees sA)
      have Hrow := Lib.hid hrow
      have HS := Lib.hid (hS.trans sA)
      have HH := Lib.hid (hS.trans sA).size
      clear hrow sA hll htk hch hcb ho hS
      go_wp2_with (at_builtin; refine El.wpList_append_own (v := .slice a3 k c3) typedCell rfl (.tmp 13) (.tmp 19) rfl (by go_simp) HO.out ⟨wr.heap.size, 0, none⟩ 1 1 (by go_simp) (chC s[k]).vals [chC s[k]] (fun _ => False) (El.ownIn_one (E := cellEl) rfl) rfl (fun j u hu => El.row_cells Hrow.out j u hu) (fun b hb => by rw [World.size_alloc]; omega) (fun b hb => hb.elim) HL2.out ?_; intro v7 w7 ho7 hk7; have HO7 := Lib.hid ho7; have HK7 := Lib.hid hk7; clear ho7 hk7)
      refine ⟨⟨k + 1, by omega, by go_num, ?_, El.keep_new HS.out HK7.out (fun g hg => (HO.out.base hg).1.1)⟩, by simp [intOf]; omega⟩
      rw [HTK.out]
      refine HO7.out.mono fun b _ hb => ?_
      have := HH.out
      rcases hb with hb | hb | hb
      · exact hb.1
      · exact hb.elim
      · omega
    · obtain rfl : k = s.size := by omega
      rw [List.take_of_length_le (by rw [chL_len]; exact Nat.le_refl _)] at ho
      have HO := Lib.hid ho
      have HS := Lib.hid hS
      clear ho hS
      go_wp2_with fail
      go_loopw [5] (fun v W => ∃ q : Nat, (q = 0 ∨ s.size + q ≤ m) ∧ cellEl.Own (fun b => w.heap.size ≤ b) W v (chP s q) ∧ Sees w W) (fun v _ => m - sliceLen v)
      case atStart => exact ⟨0, .inl rfl, by unfold chP; rw [List.replicate_zero, List.append_nil]; exact HO.out, HS.out⟩
      case round =>
        obtain ⟨q, hq, ho, hS⟩ := hrel
        obtain ⟨a3, c3, rfl, _⟩ := ho.slice
        obtain ⟨t, ht⟩ : ∃ t, t = s.size + q := ⟨_, rfl⟩
        rw [chP_len, ← ht] at ho ⊢
        by_cases hlt : t < m
        · have k1 : (t : Int) < (m : Int) := by omega
          have sA : Sees wr (wr.alloc (.cells #[Value.int .i32 0, .int .i32 0, .int .i32 0, .int .i32 0, .int .i64 1, .int .i64 0, .int .u8 0, .int .u8 0, .int .u8 0, .int .u8 0, .int .i64 0, .int .u8 0, .int .u8 0, .int .u8 0, .int .u8 0, .int .u8 0] 46)) := (Sees.refl wr).alloc _
          have HO2 := Lib.hid (ho.cut.sees sA)
          have Hrow := Lib.hid (heap_alloc_new wr (.cells #[Value.int .i32 0, .int .i32 0, .int .i32 0, .int .i32 0, .int .i64 1, .int .i64 0, .int .u8 0, .int .u8 0, .int .u8 0, .int .u8 0, .int .i64 0, .int .u8 0, .int .u8 0, .int .u8 0, .int .u8 0, .int .u8 0] 46))
          have HS2 := Lib.hid (hS.trans sA)
          have HH := Lib.hid (hS.trans sA).size
          have HL2 : Hid ((chP s q).length + [blankC].length ≤ 100000000) := by unfold RowKit.Hid; rw [chP_len, List.length_singleton]; omega
          have HT := Lib.hid ht
          clear sA ho hS ht
          go_wp2_with (at_builtin; refine El.wpList_append_own (v := .slice a3 t c3) typedCell rfl (.tmp 25) (.tmp 27) rfl (by go_simp) HO2.out ⟨wr.heap.size, 0, none⟩ 1 1 (by go_simp) blankC.vals [blankC] (fun _ => False) (El.ownIn_one (E := cellEl) rfl) rfl (fun j u hu => El.row_cells Hrow.out j u hu) (fun b hb => by rw [World.size_alloc]; omega) (fun b hb => hb.elim) HL2.out ?_; intro v7 w7 ho7 hk7; obtain ⟨a7, c7, rfl, _⟩ := ho7.slice; obtain ⟨j7, hj7⟩ : ∃ j7, j7 = (chP s q ++ [blankC]).length := ⟨_, rfl⟩; rw [← hj7] at ho7 ⊢; have HO7 := Lib.hid ho7; have HK7 := Lib.hid hk7; have HJ7 := Lib.hid hj7; clear ho7 hk7 hj7)
          refine ⟨⟨q + 1, .inr (by have := HT.out; omega), ?_, El.keep_new HS2.out HK7.out (fun g hg => (HO2.out.base hg).1.1)⟩, ?_⟩
          · rw [chP_step]
            refine HO7.out.mono fun b _ hb => ?_
            have := HH.out
            rcases hb with hb | hb | hb
            · exact hb.1
            · exact hb.elim
            · omega
          · show m - j7 < m - t
            have h7 := HJ7.out
            rw [List.length_append, chP_len, List.length_singleton] at h7
            have := HT.out
            omega
        · have hq2 : q = m - s.size := by omega
          have k1 : ¬ ((t : Int) < (m : Int)) := by omega
          rw [hq2] at ho
          have HO2 := Lib.hid ho
          have HS2 := Lib.hid hS
          clear ho hS hq2 hq ht
          go_wp2
          go_ret
          exact ⟨_, rfl, HO2.out, HS2.out⟩
end Go.Proofs.YtfdolhppbimbmaaDoor
