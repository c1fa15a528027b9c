/- text.valid, text.Rows (40). The tables hold what the program's text lays. -/
import Derived.Test.YtfdolhppbimbmaaDoorTtB
import Derived.Test.YtfdolhppbimbmaaDoorTtC
namespace Go.Proofs.YtfdolhppbimbmaaDoor
set_option linter.unusedVariables false
set_option linter.unusedSimpArgs false
open Go.RowKit

theorem ret_boolT {a b : Bool} (h : a = b) : Ending.returned (.bool a) = Ending.returned (.bool b) := by rw [h]
def vldL (ls : List Ln) : Bool := ls.all fun l => lnOk l.cells
set_option maxHeartbeats 4000000 in
set_option maxRecDepth 100000 in
theorem tvalid_any (G : Nat → Prop) (v : Value) (xs : List Ln) (w : World) (ht : Tabs w) (hv : lnEl.Rd G w v xs) (hl : ∀ l ∈ xs, l.cells.length ≤ 1000000) (hn0 : xs.length ≤ 1000000000) :
    Calls Tryd.prog 108 #[v] w fun e w' => e = .returned (.bool (vldL xs)) ∧ Sees w w' := by
  have Hv := Lib.hid hv
  have Hl := Lib.hid hl
  have HT := Lib.hid ht
  obtain ⟨ao, c, rfl, _⟩ := hv.slice'
  obtain ⟨n, hn⟩ : ∃ n, n = xs.length := ⟨_, rfl⟩
  rw [← hn] at Hv hn0 ⊢
  have Hn := Lib.hid hn
  clear hv hl hn ht
  go_enter Tryd.func108, Tryd.ntmps108
  go_wp2_with fail
  go_loopw [7] (fun i W => ∃ k : Nat, k ≤ n ∧ i = .int .i64 k ∧ (∀ (j : Nat) x, j < k → xs[j]? = some x → lnOk x.cells = true) ∧ Sees w W) (fun i _ => n - (intOf i).toNat)
  case atStart => exact ⟨0, Nat.zero_le _, rfl, fun j x h => by omega, Sees.refl _⟩
  case round =>
    obtain ⟨k, hk, rfl, hm, hS⟩ := hrel
    have HS := Lib.hid hS
    have HM := Lib.hid hm
    clear hS hm
    by_cases hlt : k < n
    · obtain ⟨b1, o1, l, a1, m1, rfl, _, hl, _, y0, y1, y2⟩ := Hv.out.line (k := k) hlt
      have x0 := HS.out.cell y0
      have x1 := HS.out.cell y1
      have Y2 := Lib.hid (y2.rdCells)
      have Hll := Lib.hid (Hl.out l (List.mem_iff_getElem?.2 ⟨k, hl⟩))
      have Hlk := Lib.hid hl
      obtain ⟨n1, hn1⟩ : ∃ n1, n1 = l.cells.length := ⟨_, rfl⟩
      rw [← hn1] at x0 Y2
      have KV : Hid (∀ W, Sees w W → Calls Tryd.prog 56 #[.agg #[.slice a1 n1 m1, .bool l.soft]] W fun e w' => e = .returned (.bool (lnOk l.cells)) ∧ Sees W w') := fun W hs => lineValid_any _ l.cells l.soft W (HT.out.sees hs) (Y2.out.sees hs) Hll.out
      clear hl y0 y1 y2 hn1
      go_wp2_with fail
      refine (KV.out _ (HS.out.alloc _)).mono ?_
      rintro e W2 ⟨rfl, hs⟩
      have HS2 := Lib.hid ((HS.out.alloc _).trans hs)
      clear hs x0 x1
      by_cases hok : lnOk l.cells = true
      · go_wp2
        refine ⟨⟨k + 1, by omega, by go_num, fun j y hj hy => ?_, HS2.out⟩, by simp [intOf] <;> omega⟩
        rcases Nat.lt_or_ge j k with h | h
        · exact HM.out j y h hy
        · obtain rfl : j = k := by omega
          rw [Hlk.out] at hy; cases hy; exact hok
      · have hok : lnOk l.cells = false := by simpa using hok
        have Hf : Hid (vldL xs = false) := Lib.hid (by
          unfold vldL
          rw [List.all_eq_false]
          exact ⟨l, List.mem_iff_getElem?.2 ⟨k, Hlk.out⟩, by simp [hok]⟩)
        go_wp2
        go_ret
        exact ⟨ret_boolT Hf.out.symm, HS2.out⟩
    · obtain rfl : k = n := by omega
      have Hf : Hid (vldL xs = true) := Lib.hid (by
        unfold vldL
        rw [List.all_eq_true]
        intro x hx
        obtain ⟨j, hj⟩ := List.mem_iff_getElem?.1 hx
        exact HM.out j x (by have := Hn.out; have := (List.getElem?_eq_some_iff.1 hj).1; omega) hj)
      go_wp2
      go_ret
      exact ⟨ret_boolT Hf.out.symm, HS.out⟩
def sEl : El ByteArray := strEl 9
theorem typedS : El.Typed Tryd.prog sEl 52 := El.typed_of (z := .string ⟨#[]⟩) (bytes := 16) Tryd.underlying52 (by kernel_rfl) rfl (by decide)
/-- The texts of rows. -/
def rowTxt (x : Ln) : ByteArray := strL (txts (x.part true))
set_option maxHeartbeats 8000000 in
set_option maxRecDepth 100000 in
theorem trows_any (G : Nat → Prop) (v : Value) (xs : List Ln) (w : World) (ht : Tabs w) (hv : lnEl.Rd G w v xs) (hl : ∀ l ∈ xs, l.cells.length ≤ 1000000) (hn0 : xs.length ≤ 1000000) (hok : vldL xs = true) :
    Calls Tryd.prog 64 #[v] w fun e w' => ∃ v', e = .returned (.tuple #[v', .int .i64 0]) ∧ sEl.Own (fun b => w.heap.size ≤ b) w' v' (xs.map rowTxt) ∧ Sees w w' := by
  have KV := Lib.hid (tvalid_any G v xs w ht hv hl (by omega))
  rw [hok] at KV
  have Hv := Lib.hid hv
  have Hl := Lib.hid hl
  obtain ⟨ao, c, rfl, _⟩ := hv.slice'
  obtain ⟨n, hn⟩ : ∃ n, n = xs.length := ⟨_, rfl⟩
  rw [← hn] at Hv KV hn0 ⊢
  have Hn := Lib.hid hn
  clear hv hl hn ht hok
  go_enter Tryd.func64, Tryd.ntmps64
  go_wp2_with fail
  refine KV.out.mono ?_
  rintro e W1 ⟨rfl, s⟩
  have HS1 := Lib.hid s
  clear s KV
  go_wp2_with fail
  go_loopw [4, 12] (fun u i W => ∃ k : Nat, k ≤ n ∧ i = .int .i64 k ∧ sEl.Own (fun b => w.heap.size ≤ b) W u ((xs.take k).map rowTxt) ∧ Sees w W) (fun _ i _ => n - (intOf i).toNat)
  case atStart => exact ⟨0, Nat.zero_le _, rfl, El.Own.nil _ _, HS1.out⟩
  case round =>
    obtain ⟨k, hk, rfl, hO, hS⟩ := hrel
    have HS := Lib.hid hS
    have HO := Lib.hid hO
    clear hS hO HS1
    by_cases hlt : k < n
    · obtain ⟨b1, o1, l, a1, m1, rfl, _, hl, _, y0, y1, y2⟩ := Hv.out.line (k := k) hlt
      have x0 := HS.out.cell y0
      have x1 := HS.out.cell y1
      have Hll := Hl.out l (List.mem_iff_getElem?.2 ⟨k, hl⟩)
      have KT : Hid (∀ W, Sees w W → Calls Tryd.prog 109 #[.agg #[.slice a1 l.cells.length m1, .bool l.soft]] W fun e w' => e = .returned (.string (rowTxt l)) ∧ Sees W w') := fun W hs => lineText_any _ l G W (y2.sees hs) Hll
      have HTK : Hid ((xs.take (k + 1)).map rowTxt = (xs.take k).map rowTxt ++ [rowTxt l]) := by unfold RowKit.Hid; rw [List.take_add_one, hl, List.map_append]; rfl
      have HLL : Hid (((xs.take k).map rowTxt).length + [rowTxt l].length ≤ 100000000) := by unfold RowKit.Hid; rw [List.length_map, List.length_take, List.length_singleton]; omega
      obtain ⟨n1, hn1⟩ : ∃ n1, n1 = l.cells.length := ⟨_, rfl⟩
      rw [← hn1] at x0 KT
      generalize rowTxt l = X at *
      clear hl y0 y1 y2 hn1
      go_wp2_with fail
      refine (KT.out _ (HS.out.alloc _)).mono ?_
      rintro e W2 ⟨rfl, hs⟩
      have sA : Sees wr W2 := ((Sees.refl wr).alloc _).trans hs
      have sB : Sees wr (W2.alloc (.cells #[.string X] 9)) := sA.alloc _
      have HS2 := Lib.hid (HS.out.trans sB)
      have HO2 := Lib.hid (HO.out.sees sB).cut
      have HR := Lib.hid (heap_alloc_new W2 (.cells #[.string X] 9))
      have HWB := Lib.hid (HS.out.trans sB).size
      clear hs x0 x1 sA sB KT
      go_wp2_with (at_builtin; refine El.wpList_append_own (v := u4) typedS rfl (.tmp 16) (.tmp 19) rfl (by go_simp) HO2.out ⟨W2.heap.size, 0, none⟩ 1 1 (by go_simp) [.string X] [X] (fun _ => False) (El.ownIn_one (E := sEl) rfl) rfl (fun j u hu => El.row_cells HR.out j u hu) (fun b hb => hb.2) (fun b hb => hb.elim) HLL.out ?_; intro v7 w7 ho7 hk7; have HO7 := Lib.hid ho7; have HK7 := Lib.hid hk7; clear ho7 hk7)
      refine ⟨⟨k + 1, by omega, by go_num, ?_, El.keep_new HS2.out HK7.out (fun g hg => (HO2.out.base hg).1.1)⟩, by simp [intOf]; omega⟩
      rw [HTK.out]
      refine HO7.out.mono fun b _ hb => ?_
      have := HWB.out
      rcases hb with hb | hb | hb
      · exact hb.1
      · exact hb.elim
      · omega
    · obtain rfl : n = k := by omega
      have hfin := HO.out
      rw [Hn.out, List.take_length] at hfin
      have HF := Lib.hid hfin
      clear hfin
      go_wp2
      go_ret2
      exact ⟨_, rfl, HF.out, HS.out⟩
theorem trows_err (G : Nat → Prop) (v : Value) (xs : List Ln) (w : World) (ht : Tabs w) (hv : lnEl.Rd G w v xs) (hl : ∀ l ∈ xs, l.cells.length ≤ 1000000) (hn0 : xs.length ≤ 1000000) (hok : vldL xs = false) :
    Calls Tryd.prog 64 #[v] w fun e w' => e = .returned (.tuple #[.slice none 0 0, .int .i64 2]) ∧ Sees w w' := by
  have KV := Lib.hid (tvalid_any G v xs w ht hv hl (by omega))
  rw [hok] at KV
  clear hv hl ht hok
  go_enter Tryd.func64, Tryd.ntmps64
  go_wp2_with fail
  refine KV.out.mono ?_
  rintro e W1 ⟨rfl, s⟩
  have HS1 := Lib.hid s
  clear s KV
  go_wp2
  go_ret2
  exact ⟨rfl, HS1.out⟩
end Go.Proofs.YtfdolhppbimbmaaDoor
