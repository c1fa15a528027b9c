/- What cells' and lines' texts are in the program: cell.Empty, cell.Text, line.Used. No condition. -/
import Derived.Test.YthcndmchlpohpaaGreatDoorSrP
import Derived.Test.YthcndmchlpohpaaGreatDoorElT
import Derived.Test.YthcndmchlpohpaaGreatDoorLnA
import Derived.BigCall
import Derived.IntWalk
import Derived.WalkMore
namespace Go.Proofs.YthcndmchlpohpaaGreatDoor
set_option linter.unusedVariables false
set_option linter.unusedSimpArgs false
open Go.RowKit

set_option maxHeartbeats 1000000 in
theorem blankZ_any (w : World) : Calls Tryz.prog 56 #[.agg #[.int .i64 0, .int .u8 0, .int .u8 0, .int .u8 0, .int .u8 0, .int .i64 0, .int .u8 0, .int .u8 0, .int .u8 0, .int .u8 0, .int .u8 0]] w fun e w' =>
    e = .returned (.agg #[.int .i32 0, .int .i32 0, .int .i32 0, .int .i32 0, .int .i64 1, .int .i64 0, .int .u8 0, .int .u8 0, .int .u8 0, .int .u8 0, .int .i64 0, .int .u8 0, .int .u8 0, .int .u8 0, .int .u8 0, .int .u8 0]) ∧ Sees w w' := by
  go_enter Tryz.func56, Tryz.ntmps56
  go_wp2
  exact bodyPost_ret (v := .agg #[.int .i32 0, .int .i32 0, .int .i32 0, .int .i32 0, .int .i64 1, .int .i64 0, .int .u8 0, .int .u8 0, .int .u8 0, .int .u8 0, .int .i64 0, .int .u8 0, .int .u8 0, .int .u8 0, .int .u8 0, .int .u8 0]) (by simp [results, Tryz.results56, go_sem]) rfl ⟨rfl, ((Sees.refl _).alloc _).alloc _⟩
set_option maxHeartbeats 1000000 in
set_option maxRecDepth 100000 in
theorem empty_any (c : Cell) (w : World) : Calls Tryz.prog 35 #[c.val] w fun e w' => e = .returned (.bool (decide (c = blankC))) ∧ Sees w w' := by
  have hq := eqlCell
  have he := Lib.hid (eq16_iff c blankC)
  unfold Cell.val
  go_enter Tryz.func35, Tryz.ntmps35
  go_wp2
  refine wp_region_sees (by kernel_rfl) (by kernel_rfl) ?_
  repeat (first | (refine wpQuiet_val (fun K hK => ⟨?_, ?_⟩); (focus (go_simp; done)); apply Exists.intro; refine ⟨fun W hW => ?_, ?_⟩; (focus (have hc := hW.cells;  go_simp; first | done | rfl)); go_simp; refine hK _ ?_; clear hK K) | (refine wpQuiet_off (fun K hK => ⟨?_, ?_⟩); (focus (go_simp; done)); go_simp; refine hK _ ?_; clear hK K))
  refine wpQuiet_enter 56 #[.agg #[.int .i64 0, .int .u8 0, .int .u8 0, .int .u8 0, .int .u8 0, .int .i64 0, .int .u8 0, .int .u8 0, .int .u8 0, .int .u8 0, .int .u8 0]] (fun K hK => ⟨?_, fun W hW => ?_, ?_⟩); (focus (go_simp; done)); (focus (have hc := hW.cells;  go_simp; done)); apply Exists.intro; refine ⟨fun W hW => (blankZ_any _).mono fun e w'' ⟨he, hb⟩ => ⟨he, hW.trans hb⟩, ?_⟩; go_simp; refine hK _ ?_; clear hK K
  repeat (first | (refine wpQuiet_val (fun K hK => ⟨?_, ?_⟩); (focus (go_simp; done)); apply Exists.intro; refine ⟨fun W hW => ?_, ?_⟩; (focus (have hc := hW.cells;  go_simp; first | done | rfl)); go_simp; refine hK _ ?_; clear hK K) | (refine wpQuiet_off (fun K hK => ⟨?_, ?_⟩); (focus (go_simp; done)); go_simp; refine hK _ ?_; clear hK K))
  refine wpQuiet_nil ?_; intro w2 hw2
  go_wp2
  go_ret
  exact ⟨by rw [← he.out]; rfl, ((Sees.refl _).alloc _).trans hw2⟩

set_option maxHeartbeats 4000000 in
set_option maxRecDepth 100000 in
theorem used_any (v : Value) (x : Ln) (F : Nat → Prop) (w : World) (h : cellEl.Rd F w v x.cells) (hn : x.cells.length ≤ 1000000) :
    Calls Tryz.prog 22 #[.agg #[v, .bool x.soft]] w fun e w' => e = .returned (.int .i64 (usedN x.cells)) ∧ Sees w w' := by
  obtain ⟨a, cp, rfl, hcp⟩ := h.slice'
  obtain ⟨U, hU⟩ : ∃ U, U = usedN x.cells := ⟨_, rfl⟩
  have HU0 : Hid (usedTo x.cells x.cells.length = U) := hU.symm
  rw [← hU]
  clear hU
  obtain ⟨n, hnn⟩ : ∃ n, n = x.cells.length := ⟨_, rfl⟩
  rw [← hnn] at h hn HU0 hcp ⊢
  have H := Lib.hid h
  have L0 := Lib.hid (LnAt.new rfl : LnAt (w.alloc (.cells #[.slice a n cp, .bool x.soft] 27)) w.heap.size (.slice a n cp) x.soft)
  have S0 := Lib.hid ((Sees.refl w).alloc (.cells #[.slice a n cp, .bool x.soft] 27))
  clear h hnn
  go_enter Tryz.func22, Tryz.ntmps22
  go_wp2
  go_step3
  go_wp2
  go_step3
  go_wp2
  go_loopw [3] (fun i W => ∃ k : Nat, k ≤ n ∧ i = .int .i64 k ∧ Hid (usedTo x.cells k = U) ∧ Sees (w.alloc (.cells #[.slice a n cp, .bool x.soft] 27)) W) (fun i _ => (intOf i).toNat)
  case atStart => exact ⟨n, Nat.le_refl _, rfl, HU0, Sees.refl _⟩
  case round =>
    obtain ⟨k, hk, rfl, hu, hS⟩ := hrel
    have c0 := (L0.out.sees hS).c.1
    have HS := Lib.hid (S0.out.trans hS)
    have HS1 := Lib.hid hS
    clear hS
    rcases Nat.eq_zero_or_pos k with rfl | hpos
    · go_wp2
      rw [Exit.noGoto_ret]
      go_ret
      refine ⟨?_, HS.out⟩
      rw [← hu.out]
      rfl
    · obtain ⟨j, rfl⟩ : ∃ j, k = j + 1 := ⟨k - 1, by omega⟩
      obtain ⟨b, o, c, rfl, _, hc, hat⟩ := H.out.cell (show j < n by omega)
      have hat := hat.sees HS.out
      have wr : IntKind.i64.wrap (((j + 1 : Nat) : Int) - 1) = (j : Int) := by rw [IntWalk.i64_in _ (by omega)]; omega
      by_cases he : c = blankC
      · have K := Lib.hid (usedTo_blank (show x.cells[j]? = some blankC by rw [hc, he]))
        have E := Lib.hid (fun W => by have q := empty_any c W; rw [decide_eq_true he] at q; exact q)
        clear hc he
        go_wp2_with (refine wpList_val rfl (exec_load (v := c.val) rfl rfl (run_loadCell hat)) (fun K hK => ?_); go_simp; refine hK _ _ ?_; clear hK K)
        refine (E.out _).mono ?_
        rintro e W1 ⟨rfl, s1⟩
        go_wp2
        go_roundw
        case rel => exact ⟨j, by omega, by go_num, by rw [← hu.out, K.out]; exact rfl, HS1.out.trans s1⟩
        case measure => simp [intOf]
      · have K := Lib.hid (usedTo_not (show x.cells[j]? ≠ some blankC by rw [hc]; simpa using he))
        have E := Lib.hid (fun W => by have q := empty_any c W; rw [decide_eq_false he] at q; exact q)
        clear hc he
        go_wp2_with (refine wpList_val rfl (exec_load (v := c.val) rfl rfl (run_loadCell hat)) (fun K hK => ?_); go_simp; refine hK _ _ ?_; clear hK K)
        refine (E.out _).mono ?_
        rintro e W1 ⟨rfl, s1⟩
        go_wp2
        rw [Exit.noGoto_ret]
        go_ret
        exact ⟨by rw [← hu.out, K.out]; rfl, HS.out.trans s1⟩

/-- A cell's text up to its k-th mark. -/
def ctxt1 (c : Cell) : ByteArray := if c.m0 = 0 then Utf8.encode c.rune else Utf8.encode c.rune ++ Utf8.encode c.m0
def ctxt2 (c : Cell) : ByteArray := if c.m1 = 0 then ctxt1 c else ctxt1 c ++ Utf8.encode c.m1
def ctxt3 (c : Cell) : ByteArray := if c.m2 = 0 then ctxt2 c else ctxt2 c ++ Utf8.encode c.m2
def ctxtTo (c : Cell) : Nat → ByteArray
  | 0 => Utf8.encode c.rune
  | 1 => ctxt1 c
  | 2 => ctxt2 c
  | _ => ctxt3 c
theorem bytes_ext {s t : ByteArray} (h : s.data.toList = t.data.toList) : s = t := by
  cases s; cases t
  congr 1
  exact Array.toList_inj.1 h
theorem bytes_app (s t : ByteArray) : (s ++ t).data.toList = s.data.toList ++ t.data.toList := by
  rw [ByteArray.data_append, Array.toList_append]
theorem add_mk (s : ByteArray) (m : Int) : (if m = 0 then s else s ++ Utf8.encode m).data.toList = s.data.toList ++ mkTxt m := by
  unfold mkTxt encL
  split
  · simp
  · rw [bytes_app]
theorem ctxt_txt (c : Cell) (h1 : c.width ≠ 0) (h2 : c.rune ≠ 0) : ctxtTo c 3 = ⟨c.txt.toArray⟩ := by
  refine bytes_ext ?_
  unfold Cell.txt
  rw [if_neg h1, if_neg h2]
  show (if c.m2 = 0 then ctxtTo c 2 else ctxtTo c 2 ++ Utf8.encode c.m2).data.toList = _
  rw [add_mk]
  show (if c.m1 = 0 then ctxtTo c 1 else ctxtTo c 1 ++ Utf8.encode c.m1).data.toList ++ _ = _
  rw [add_mk]
  show (if c.m0 = 0 then Utf8.encode c.rune else Utf8.encode c.rune ++ Utf8.encode c.m0).data.toList ++ _ ++ _ = _
  rw [add_mk]
  rfl
theorem ctxt_size (c : Cell) (k : Nat) : (ctxtTo c k).size ≤ 16 := by
  have h0 := encode_size_le c.rune
  have h1 := encode_size_le c.m0
  have h2 := encode_size_le c.m1
  have h3 := encode_size_le c.m2
  have a1 : (ctxtTo c 1).size ≤ 8 := by
    show (if c.m0 = 0 then Utf8.encode c.rune else Utf8.encode c.rune ++ Utf8.encode c.m0).size ≤ 8
    split
    · omega
    · rw [ByteArray.size_append]; omega
  have a2 : (ctxtTo c 2).size ≤ 12 := by
    show (if c.m1 = 0 then ctxtTo c 1 else ctxtTo c 1 ++ Utf8.encode c.m1).size ≤ 12
    split
    · omega
    · rw [ByteArray.size_append]; omega
  match k with
  | 0 => show (Utf8.encode c.rune).size ≤ 16; omega
  | 1 => omega
  | 2 => omega
  | k + 3 =>
    show (if c.m2 = 0 then ctxtTo c 2 else ctxtTo c 2 ++ Utf8.encode c.m2).size ≤ 16
    split
    · omega
    · rw [ByteArray.size_append]; omega
def Cell.mark (c : Cell) (k : Nat) : Int := if k = 0 then c.m0 else if k = 1 then c.m1 else c.m2
theorem ctxt_step (c : Cell) (k : Nat) (h : k < 3) : ctxtTo c (k + 1) = if c.mark k = 0 then ctxtTo c k else ctxtTo c k ++ Utf8.encode (c.mark k) := by
  match k, h with
  | 0, _ => rfl
  | 1, _ => rfl
  | 2, _ => rfl
theorem mark_at (c : Cell) (k : Nat) (h : k < 3) (w : World) : (Instr.index 34 (.agg #[.int .i32 c.m0, .int .i32 c.m1, .int .i32 c.m2]) (.int .i64 (k : Int))).run Tryz.prog w = .ok (.int .i32 (c.mark k)) w := by
  have i0 : (Instr.index 34 (.agg #[.int .i32 c.m0, .int .i32 c.m1, .int .i32 c.m2]) (.int .i64 0)).run Tryz.prog w = .ok (.int .i32 c.m0) w := by kernel_rfl
  have i1 : (Instr.index 34 (.agg #[.int .i32 c.m0, .int .i32 c.m1, .int .i32 c.m2]) (.int .i64 1)).run Tryz.prog w = .ok (.int .i32 c.m1) w := by kernel_rfl
  have i2 : (Instr.index 34 (.agg #[.int .i32 c.m0, .int .i32 c.m1, .int .i32 c.m2]) (.int .i64 2)).run Tryz.prog w = .ok (.int .i32 c.m2) w := by kernel_rfl
  rcases (show k = 0 ∨ k = 1 ∨ k = 2 by omega) with rfl | rfl | rfl
  · exact i0
  · exact i1
  · exact i2
set_option maxHeartbeats 4000000 in
set_option maxRecDepth 100000 in
theorem ctext_any (c : Cell) (w : World) : Calls Tryz.prog 23 #[c.val] w fun e w' => e = .returned (.string ⟨c.txt.toArray⟩) ∧ Sees w w' := by
  by_cases h0 : c.width = 0
  · have Hf : Hid (c.txt = []) := by unfold Hid Cell.txt; rw [if_pos h0]
    unfold Cell.val
    rw [h0]
    clear h0
    go_enter Tryz.func23, Tryz.ntmps23
    go_wp2
    go_ret
    exact ⟨by rw [Hf.out]; rfl, (Sees.refl _).alloc _⟩
  by_cases h1 : c.rune = 0
  · have Hf : Hid (c.txt = [32]) := by unfold Hid Cell.txt; rw [if_neg h0, if_pos h1]
    have g0 : (c.width == 0) = false := by simpa using h0
    unfold Cell.val
    rw [h1]
    clear h0 h1
    go_enter Tryz.func23, Tryz.ntmps23
    go_wp2
    go_ret
    exact ⟨by rw [Hf.out]; rfl, (Sees.refl _).alloc _⟩
  have Hf := Lib.hid (ctxt_txt c h0 h1)
  have g0 : (c.width == 0) = false := by simpa using h0
  have g1 : (c.rune == 0) = false := by simpa using h1
  clear h0 h1
  have B0 := Lib.hid (heap_alloc_new w (.cells #[.int .i32 c.rune, .int .i32 c.m0, .int .i32 c.m1, .int .i32 c.m2, .int .i64 c.width, .int .i64 c.f0, .int .u8 c.f1, .int .u8 c.f2, .int .u8 c.f3, .int .u8 c.f4, .int .i64 c.b0, .int .u8 c.b1, .int .u8 c.b2, .int .u8 c.b3, .int .u8 c.b4, .int .u8 c.flags] 42))
  unfold Cell.val
  go_enter Tryz.func23, Tryz.ntmps23
  go_wp2
  go_loopw [19, 3] (fun i s W => ∃ k : Nat, k ≤ 3 ∧ i = .int .i64 k ∧ s = .string (ctxtTo c k) ∧ W = w.alloc (.cells #[.int .i32 c.rune, .int .i32 c.m0, .int .i32 c.m1, .int .i32 c.m2, .int .i64 c.width, .int .i64 c.f0, .int .u8 c.f1, .int .u8 c.f2, .int .u8 c.f3, .int .u8 c.f4, .int .i64 c.b0, .int .u8 c.b1, .int .u8 c.b2, .int .u8 c.b3, .int .u8 c.b4, .int .u8 c.flags] 42)) (fun i _ _ => 3 - (intOf i).toNat)
  case atStart => exact ⟨0, by omega, rfl, rfl, rfl⟩
  case round =>
    obtain ⟨k, hk, rfl, rfl, rfl⟩ := hrel
    by_cases hlt : k < 3
    · have hm := fun W => mark_at c k hlt W
      have Hst := Lib.hid (ctxt_step c k hlt)
      have hsz := ctxt_size c k
      have hes := encode_size_le (c.mark k)
      generalize c.mark k = m at hm Hst hes
      generalize hX : ctxtTo c k = X at *
      clear hX
      by_cases hm0 : m = 0
      · have g2 : (m != 0) = false := by simpa using hm0
        go_wp2
        go_roundw
        case rel => exact ⟨k + 1, by omega, by go_num, by rw [Hst.out, if_pos hm0], trivial⟩
        case measure => simp [intOf]; omega
      · have g2 : (m != 0) = true := by simpa using hm0
        go_wp2
        go_roundw
        case rel => exact ⟨k + 1, by omega, by go_num, by rw [Hst.out, if_neg hm0], trivial⟩
        case measure => simp [intOf]; omega
    · obtain rfl : k = 3 := by omega
      go_wp2
      go_ret
      exact ⟨by rw [Hf.out]; rfl, (Sees.refl _).alloc _⟩
end Go.Proofs.YthcndmchlpohpaaGreatDoor
