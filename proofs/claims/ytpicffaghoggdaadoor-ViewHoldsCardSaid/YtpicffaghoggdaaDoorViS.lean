/- Lines of one cell each, from a string: list (32). A history with lines: made (32); Lines of a view, where it is refused. sees (32): what Lines returns is compared. No condition. -/
import Derived.Test.YtpicffaghoggdaaDoorViC
namespace Go.Proofs.YtpicffaghoggdaaDoor
set_option linter.unusedVariables false
set_option linter.unusedSimpArgs false
open Go.RowKit

/-- The lines of a string. -/
def rowsOf (s : ByteArray) : List Ln := s.data.toList.map fun c => ⟨[one (c.toNat : Int)], false⟩
set_option maxRecDepth 100000 in
set_option maxHeartbeats 4000000 in
theorem list32_any (s : ByteArray) (w : World) (hn : s.size ≤ 1000) :
    Calls Tryd.prog 31 #[.string s] w fun e w' => ∃ v, e = .returned v ∧ lnEl.Own (fun c => w.heap.size ≤ c) w' v (rowsOf s) ∧ Sees w w' := by
  obtain ⟨n, hnl⟩ : ∃ n, n = s.size := ⟨_, rfl⟩
  have Hn := Lib.hid hnl
  have hn : n ≤ 1000 := by omega
  have hns : s.size = n := hnl.symm
  clear hnl
  go_enter Tryd.func31, Tryd.ntmps31
  go_wp2_with fail
  go_loopw [3, 4] (fun o i W => ∃ k : Nat, k ≤ n ∧ i = .int .i64 k ∧ lnEl.Own (fun c => w.heap.size ≤ c) W o ((rowsOf s).take k) ∧ Sees w W) (fun _ i _ => n - (intOf i).toNat)
  case atStart => exact ⟨0, by omega, rfl, El.Own.nil _ _, Sees.refl _⟩
  case round =>
    obtain ⟨k, hk, rfl, ho, hS⟩ := hrel
    have HO := Lib.hid ho
    have HS := Lib.hid hS
    have hrl : (rowsOf s).length = n := by unfold rowsOf; rw [List.length_map, Array.length_toList]; exact hns
    have hlen : ((rowsOf s).take k).length = k := by rw [List.length_take, hrl]; omega
    obtain ⟨a3, c3, e3, _⟩ := ho.slice
    rw [hlen] at e3
    subst e3
    clear ho hS
    by_cases hlt : k < n
    · have hks : k < s.size := by omega
      obtain ⟨r, hr⟩ : ∃ r : Int, ((s[k]'hks).toNat : Int) = r := ⟨_, rfl⟩
      have hrb : 0 ≤ r ∧ r ≤ 255 := by have := UInt8.toNat_lt (s[k]'hks); omega
      have hw32 : wrap32 r = r := by unfold wrap32; omega
      have Hx : Hid ((rowsOf s)[k]? = some ⟨[one r], false⟩) := Lib.hid (by
        unfold rowsOf
        rw [List.getElem?_map, Array.getElem?_toList, Array.getElem?_eq_getElem (show k < s.data.size from hks)]
        rw [← hr]
        rfl)
      have Hz := Lib.hid HS.out.size
      have hX : Sees wr ((wr.alloc (.cells (one r).vals.toArray 108)).alloc (.cells #[.slice (some ⟨wr.heap.size, 0, none⟩) 1 1, .bool false] 40)) := ((Sees.refl wr).alloc _).alloc _
      have HSX := Lib.hid hX
      have HOX := Lib.hid (HO.out.cut.sees hX)
      have hc0 : OwnCells (wr.alloc (.cells (one r).vals.toArray 108)) wr.heap.size (.slice (some ⟨wr.heap.size, 0, none⟩) 1 1) [one r] := ⟨rfl, .inr ⟨wr.heap.size, 1, (one r).vals.toArray, rfl, Nat.le_refl _, heap_alloc_new _ _, Nat.le_refl _, by unfold maxLen; omega, rfl, rfl⟩⟩
      have Hcell := Lib.hid (OwnCells.sees hc0 ((Sees.refl (wr.alloc (.cells (one r).vals.toArray 108))).alloc (.cells #[.slice (some ⟨wr.heap.size, 0, none⟩) 1 1, .bool false] 40)))
      have Hrow := Lib.hid (show ((wr.alloc (.cells (one r).vals.toArray 108)).alloc (.cells #[.slice (some ⟨wr.heap.size, 0, none⟩) 1 1, .bool false] 40)).heap[wr.heap.size + 1]? = some (.cells #[.slice (some ⟨wr.heap.size, 0, none⟩) 1 1, .bool false] 40 (0, 0)) from by
        have := heap_alloc_new (wr.alloc (.cells (one r).vals.toArray 108)) (.cells #[.slice (some ⟨wr.heap.size, 0, none⟩) 1 1, .bool false] 40)
        simpa using this)
      have HzX := Lib.hid (show ((wr.alloc (.cells (one r).vals.toArray 108)).alloc (.cells #[.slice (some ⟨wr.heap.size, 0, none⟩) 1 1, .bool false] 40)).heap.size = wr.heap.size + 2 from by simp)
      have HcL : Hid (((rowsOf s).take k).length + [(⟨[one r], false⟩ : Ln)].length ≤ 100000000) := Lib.hid (by rw [hlen]; simp; omega)
      have HoC := Lib.hid (El.ownIn_one (E := lnEl) (F := fun b => b = wr.heap.size) (x := (⟨[one r], false⟩ : Ln)) (vs := [.slice (some ⟨wr.heap.size, 0, none⟩) 1 1, .bool false]) ⟨_, rfl, Hcell.out.el.mono (fun b _ h => by have h := h.1; cases h; rfl)⟩)
      have HcF : Hid (∀ b, (w.heap.size ≤ b ∧ b < wr.heap.size) → b < ((wr.alloc (.cells (one r).vals.toArray 108)).alloc (.cells #[.slice (some ⟨wr.heap.size, 0, none⟩) 1 1, .bool false] 40)).heap.size) := Lib.hid (fun b hb => by rw [HzX.out]; have := hb.2; omega)
      have HcN : Hid (∀ b, b = wr.heap.size → b < ((wr.alloc (.cells (one r).vals.toArray 108)).alloc (.cells #[.slice (some ⟨wr.heap.size, 0, none⟩) 1 1, .bool false] 40)).heap.size ∧ ¬ (w.heap.size ≤ b ∧ b < wr.heap.size)) := Lib.hid (fun b hb => by rw [HzX.out]; exact ⟨by omega, fun h => by have := h.2; omega⟩)
      clear hX hrl hlen hrb hc0
      go_wp2_with (at_builtin; refine El.wpList_append_own (v := .slice a3 k c3) typedLn rfl (.tmp 11) (.tmp 19) rfl (by go_simp) HOX.out ⟨wr.heap.size + 1, 0, none⟩ 1 1 (by go_simp) [.slice (some ⟨wr.heap.size, 0, none⟩) 1 1, .bool false] [⟨[one r], false⟩] (fun b => b = wr.heap.size) HoC.out rfl (fun j u hu => El.row_cells Hrow.out j u hu) HcF.out HcN.out HcL.out ?_; intro v7 w7 ho7 hk7)
      have HS7 : Sees w w7 := El.keep_new (HS.out.trans HSX.out) hk7 (fun g' hg' => (HOX.out.base hg').1.1)
      go_roundw
      case rel =>
        refine ⟨k + 1, by omega, by go_num, ?_, HS7⟩
        rw [List.take_add_one, Hx.out]
        exact ho7.mono (fun b _ h => by
          have := Hz.out
          rcases h with h | h | h
          · exact h.1
          · omega
          · exact Nat.le_trans (Nat.le_trans Hz.out HSX.out.size) h)
      case measure => simp [intOf] <;> omega
    · obtain rfl : n = k := by omega
      have HO2 : Hid (lnEl.Own (fun c => w.heap.size ≤ c) wr (.slice a3 n c3) (rowsOf s)) := Lib.hid (by
        have := HO.out
        rw [List.take_of_length_le (by omega)] at this
        exact this)
      clear HO hrl hlen
      go_wp2
      go_ret
      exact ⟨_, rfl, HO2.out, HS.out⟩
end Go.Proofs.YtpicffaghoggdaaDoor

namespace Go.Proofs.YtpicffaghoggdaaDoor
set_option linter.unusedVariables false
set_option linter.unusedSimpArgs false
open Go.RowKit

theorem made32_any (most : Int) (v : Value) (xs : List Ln) (G : Nat → Prop) (w : World) (ht : Tabs w) (h0 : 0 ≤ most) (h1 : most ≤ 1048576) (hv : lnEl.Rd G w v xs) (hok : ∀ l ∈ xs, lnOk l.cells = true) (hn : xs.length ≤ 1000000) (k : Nat) (hk : k = xs.length - most.toNat) :
    Calls Tryd.prog 30 #[.int .i64 most, v] w fun e w' => ∃ b, e = .returned (.pointer (some ⟨b, 0, none⟩)) ∧ HiF w (fun c => w.heap.size ≤ c) w' b most k (xs.drop k) := by
  have Hv := Lib.hid (hv.mono (G := fun b => b < w.heap.size) (fun b hb _ => hb))
  have H0 := Lib.hid h0
  have H1 := Lib.hid h1
  have Hok := Lib.hid hok
  have Hn := Lib.hid hn
  have Hk := Lib.hid hk
  obtain ⟨a, c, rfl, _⟩ := hv.slice'
  clear hv h0 h1 hok hn hk
  go_enter Tryd.func30, Tryd.ntmps30
  go_wp2_with fail
  refine (hnew_ok most w H0.out H1.out).mono ?_
  rintro e w1 ⟨b, rfl, hp⟩
  have P1 := Lib.hid hp
  clear hp
  go_wp2_with fail
  refine (P1.out.push ht _ xs (Hv.out.sees P1.out.see) (fun c hc hF => Nat.lt_irrefl _ (Nat.lt_of_lt_of_le hc hF)) Hok.out (by have := Hn.out; simp; omega) k (by have := Hk.out; simp; omega)).mono ?_
  rintro e w2 ⟨rfl, hp, _⟩
  have P2 := Lib.hid hp
  have hz := P1.out.see.size
  clear hp
  go_wp2
  go_ret
  refine ⟨_, rfl, ?_⟩
  have := P2.out.mono (G := fun c => w.heap.size ≤ c) (fun c _ h => by
    rcases h with h | h
    · exact h
    · omega) (fun c h => h)
  simpa using this
theorem vlines_no1 (w : World) (v h u : Value) (hv : NoVw w v) : Calls Tryd.prog 34 #[v, h, u] w fun e w' => e = .returned (.tuple #[.slice none 0 0, .int .i64 0, .int .i64 1]) ∧ Sees w w' := by
  go_enter Tryd.func34, Tryd.ntmps34
  go_wp2_with fail
  refine (vzero_no w v hv).mono ?_
  rintro e w1 ⟨rfl, s1⟩
  go_wp2
  go_ret3
  exact ⟨rfl, s1⟩
theorem vlines_no2 (w : World) (b : Nat) (rows back : Int) (h u : Value) (hb : VwAt w b rows back) (h0 : rows ≠ 0) (hh : NoHi w h) : Calls Tryd.prog 34 #[.pointer (some ⟨b, 0, none⟩), h, u] w fun e w' => e = .returned (.tuple #[.slice none 0 0, .int .i64 0, .int .i64 1]) ∧ Sees w w' := by
  go_enter Tryd.func34, Tryd.ntmps34
  go_wp2_with fail
  refine (vzero_at w b rows back hb h0).mono ?_
  rintro e w1 ⟨rfl, s1⟩
  go_wp2_with fail
  refine (vnothing_no w1 h (hh.sees s1)).mono ?_
  rintro e w2 ⟨rfl, s2⟩
  go_wp2
  go_ret3
  exact ⟨rfl, s1.trans s2⟩
theorem vlines_arg {w1 W : World} {F : Nat → Prop} {g : Nat} {most first : Int} {ls : List Ln} (hh : HiF w1 F W g most first ls) (b : Nat) (rows back : Int) (a : Option Addr) (n c : Nat) (hb : VwAt W b rows back) (h0 : rows ≠ 0) (hn : (n : Int) ≠ rows) :
    Calls Tryd.prog 34 #[.pointer (some ⟨b, 0, none⟩), .pointer (some ⟨g, 0, none⟩), .slice a n c] W fun e w' => e = .returned (.tuple #[.slice none 0 0, .int .i64 0, .int .i64 2]) ∧ Sees W w' := by
  have d1 : ((n : Int) != rows) = true := by rw [bne_iff_ne]; exact hn
  have H := Lib.hid hh
  clear hh hn
  go_enter Tryd.func34, Tryd.ntmps34
  go_wp2_with fail
  refine (vzero_at W b rows back hb h0).mono ?_
  rintro e w2 ⟨rfl, s2⟩
  go_wp2_with fail
  refine (vnothing_at (H.out.sees s2)).mono ?_
  rintro e w3 ⟨rfl, s3⟩
  have S3 := Lib.hid (s2.trans s3)
  obtain ⟨q0, q1⟩ := (hb.sees (s2.trans s3)).c
  clear s2 s3 hb
  go_wp2
  go_ret3
  exact ⟨rfl, S3.out⟩
end Go.Proofs.YtpicffaghoggdaaDoor

namespace Go.Proofs.YtpicffaghoggdaaDoor
set_option linter.unusedVariables false
set_option linter.unusedSimpArgs false
open Go.RowKit

theorem vsees_true (v h u wt : Value) (first e0 : Int) (ls : List Ln) (G : Nat → Prop) (w : World) (hn : ls.length ≤ 1000000) (hc : ∀ l ∈ ls, l.cells.length ≤ 1000000) (hw : RdL G w wt ls)
    (hL : Calls Tryd.prog 34 #[v, h, u] w fun e w' => ∃ vl, e = .returned (.tuple #[vl, .int .i64 first, .int .i64 e0]) ∧ RdL (fun _ => True) w' vl ls ∧ Sees w w') :
    Calls Tryd.prog 43 #[v, h, u, wt, .int .i64 first, .int .i64 e0] w fun e w' => e = .returned (.bool true) ∧ Sees w w' := by
  have Hn := Lib.hid hn
  have Hc := Lib.hid hc
  have Hw := Lib.hid hw
  have HL := Lib.hid hL
  clear hn hc hw hL
  go_enter Tryd.func43, Tryd.ntmps43
  go_wp2_with fail
  refine (HL.out).mono ?_
  rintro e w1 ⟨vl, rfl, hv, hs⟩
  have V1 := Lib.hid hv
  have S1 := Lib.hid hs
  clear hv hs
  go_wp2_with fail
  refine (all_true _ _ _ _ ls ls _ V1.out (Hw.out.sees S1.out) Hn.out Hc.out rfl).mono ?_
  rintro e w2 ⟨rfl, hs2⟩
  go_wp2
  go_ret
  exact ⟨by simp, S1.out.trans hs2⟩
/-- Refused: nothing is returned. -/
theorem vsees_err (v h u : Value) (e0 : Int) (w : World)
    (hL : Calls Tryd.prog 34 #[v, h, u] w fun e w' => e = .returned (.tuple #[.slice none 0 0, .int .i64 0, .int .i64 e0]) ∧ Sees w w') :
    Calls Tryd.prog 43 #[v, h, u, .slice none 0 0, .int .i64 0, .int .i64 e0] w fun e w' => e = .returned (.bool true) ∧ Sees w w' := by
  refine vsees_true v h u _ 0 e0 [] (fun _ => True) w (by simp) (fun l hl => by cases hl) (El.Rd.nil _ _).rdl (hL.mono ?_)
  rintro e w' ⟨rfl, hs⟩
  exact ⟨_, rfl, (El.Rd.nil _ _).rdl, hs⟩
end Go.Proofs.YtpicffaghoggdaaDoor
