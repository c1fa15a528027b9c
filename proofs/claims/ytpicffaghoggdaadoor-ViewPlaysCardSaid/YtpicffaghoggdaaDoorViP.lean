/- Lines of one cell each, from a string: list (32). A history with lines: made (32); Lines of a view, where it is refused. sees (32): what Lines returns is compared. Lines of one's own that are moved one by one. Lines of a view, answered. A view, a history and a screen side by side: every call of them. No condition. -/
import Derived.Test.YtpicffaghoggdaaDoorViC
import Derived.Test.YtpicffaghoggdaaDoorHsA
namespace Go.Proofs.YtpicffaghoggdaaDoor
set_option linter.unusedVariables false
set_option linter.unusedSimpArgs false
open Go.RowKit

/-- The lines of a string. -/
def rowsOf (s : ByteArray) : List Ln := s.data.toList.map fun c => ⟨[one (c.toNat : Int)], false⟩
set_option maxRecDepth 100000 in
set_option maxHeartbeats 4000000 in
theorem list32_any (s : ByteArray) (w : World) (hn : s.size ≤ 1000) :
    Calls Tryd.prog 31 #[.string s] w fun e w' => ∃ v, e = .returned v ∧ lnEl.Own (fun c => w.heap.size ≤ c) w' v (rowsOf s) ∧ Sees w w' := by
  obtain ⟨n, hnl⟩ : ∃ n, n = s.size := ⟨_, rfl⟩
  have Hn := Lib.hid hnl
  have hn : n ≤ 1000 := by omega
  have hns : s.size = n := hnl.symm
  clear hnl
  go_enter Tryd.func31, Tryd.ntmps31
  go_wp2_with fail
  go_loopw [3, 4] (fun o i W => ∃ k : Nat, k ≤ n ∧ i = .int .i64 k ∧ lnEl.Own (fun c => w.heap.size ≤ c) W o ((rowsOf s).take k) ∧ Sees w W) (fun _ i _ => n - (intOf i).toNat)
  case atStart => exact ⟨0, by omega, rfl, El.Own.nil _ _, Sees.refl _⟩
  case round =>
    obtain ⟨k, hk, rfl, ho, hS⟩ := hrel
    have HO := Lib.hid ho
    have HS := Lib.hid hS
    have hrl : (rowsOf s).length = n := by unfold rowsOf; rw [List.length_map, Array.length_toList]; exact hns
    have hlen : ((rowsOf s).take k).length = k := by rw [List.length_take, hrl]; omega
    obtain ⟨a3, c3, e3, _⟩ := ho.slice
    rw [hlen] at e3
    subst e3
    clear ho hS
    by_cases hlt : k < n
    · have hks : k < s.size := by omega
      obtain ⟨r, hr⟩ : ∃ r : Int, ((s[k]'hks).toNat : Int) = r := ⟨_, rfl⟩
      have hrb : 0 ≤ r ∧ r ≤ 255 := by have := UInt8.toNat_lt (s[k]'hks); omega
      have hw32 : wrap32 r = r := by unfold wrap32; omega
      have Hx : Hid ((rowsOf s)[k]? = some ⟨[one r], false⟩) := Lib.hid (by
        unfold rowsOf
        rw [List.getElem?_map, Array.getElem?_toList, Array.getElem?_eq_getElem (show k < s.data.size from hks)]
        rw [← hr]
        rfl)
      have Hz := Lib.hid HS.out.size
      have hX : Sees wr ((wr.alloc (.cells (one r).vals.toArray 108)).alloc (.cells #[.slice (some ⟨wr.heap.size, 0, none⟩) 1 1, .bool false] 40)) := ((Sees.refl wr).alloc _).alloc _
      have HSX := Lib.hid hX
      have HOX := Lib.hid (HO.out.cut.sees hX)
      have hc0 : OwnCells (wr.alloc (.cells (one r).vals.toArray 108)) wr.heap.size (.slice (some ⟨wr.heap.size, 0, none⟩) 1 1) [one r] := ⟨rfl, .inr ⟨wr.heap.size, 1, (one r).vals.toArray, rfl, Nat.le_refl _, heap_alloc_new _ _, Nat.le_refl _, by unfold maxLen; omega, rfl, rfl⟩⟩
      have Hcell := Lib.hid (OwnCells.sees hc0 ((Sees.refl (wr.alloc (.cells (one r).vals.toArray 108))).alloc (.cells #[.slice (some ⟨wr.heap.size, 0, none⟩) 1 1, .bool false] 40)))
      have Hrow := Lib.hid (show ((wr.alloc (.cells (one r).vals.toArray 108)).alloc (.cells #[.slice (some ⟨wr.heap.size, 0, none⟩) 1 1, .bool false] 40)).heap[wr.heap.size + 1]? = some (.cells #[.slice (some ⟨wr.heap.size, 0, none⟩) 1 1, .bool false] 40 (0, 0)) from by
        have := heap_alloc_new (wr.alloc (.cells (one r).vals.toArray 108)) (.cells #[.slice (some ⟨wr.heap.size, 0, none⟩) 1 1, .bool false] 40)
        simpa using this)
      have HzX := Lib.hid (show ((wr.alloc (.cells (one r).vals.toArray 108)).alloc (.cells #[.slice (some ⟨wr.heap.size, 0, none⟩) 1 1, .bool false] 40)).heap.size = wr.heap.size + 2 from by simp)
      have HcL : Hid (((rowsOf s).take k).length + [(⟨[one r], false⟩ : Ln)].length ≤ 100000000) := Lib.hid (by rw [hlen]; simp; omega)
      have HoC := Lib.hid (El.ownIn_one (E := lnEl) (F := fun b => b = wr.heap.size) (x := (⟨[one r], false⟩ : Ln)) (vs := [.slice (some ⟨wr.heap.size, 0, none⟩) 1 1, .bool false]) ⟨_, rfl, Hcell.out.el.mono (fun b _ h => by have h := h.1; cases h; rfl)⟩)
      have HcF : Hid (∀ b, (w.heap.size ≤ b ∧ b < wr.heap.size) → b < ((wr.alloc (.cells (one r).vals.toArray 108)).alloc (.cells #[.slice (some ⟨wr.heap.size, 0, none⟩) 1 1, .bool false] 40)).heap.size) := Lib.hid (fun b hb => by rw [HzX.out]; have := hb.2; omega)
      have HcN : Hid (∀ b, b = wr.heap.size → b < ((wr.alloc (.cells (one r).vals.toArray 108)).alloc (.cells #[.slice (some ⟨wr.heap.size, 0, none⟩) 1 1, .bool false] 40)).heap.size ∧ ¬ (w.heap.size ≤ b ∧ b < wr.heap.size)) := Lib.hid (fun b hb => by rw [HzX.out]; exact ⟨by omega, fun h => by have := h.2; omega⟩)
      clear hX hrl hlen hrb hc0
      go_wp2_with (at_builtin; refine El.wpList_append_own (v := .slice a3 k c3) typedLn rfl (.tmp 11) (.tmp 19) rfl (by go_simp) HOX.out ⟨wr.heap.size + 1, 0, none⟩ 1 1 (by go_simp) [.slice (some ⟨wr.heap.size, 0, none⟩) 1 1, .bool false] [⟨[one r], false⟩] (fun b => b = wr.heap.size) HoC.out rfl (fun j u hu => El.row_cells Hrow.out j u hu) HcF.out HcN.out HcL.out ?_; intro v7 w7 ho7 hk7)
      have HS7 : Sees w w7 := El.keep_new (HS.out.trans HSX.out) hk7 (fun g' hg' => (HOX.out.base hg').1.1)
      go_roundw
      case rel =>
        refine ⟨k + 1, by omega, by go_num, ?_, HS7⟩
        rw [List.take_add_one, Hx.out]
        exact ho7.mono (fun b _ h => by
          have := Hz.out
          rcases h with h | h | h
          · exact h.1
          · omega
          · exact Nat.le_trans (Nat.le_trans Hz.out HSX.out.size) h)
      case measure => simp [intOf] <;> omega
    · obtain rfl : n = k := by omega
      have HO2 : Hid (lnEl.Own (fun c => w.heap.size ≤ c) wr (.slice a3 n c3) (rowsOf s)) := Lib.hid (by
        have := HO.out
        rw [List.take_of_length_le (by omega)] at this
        exact this)
      clear HO hrl hlen
      go_wp2
      go_ret
      exact ⟨_, rfl, HO2.out, HS.out⟩
end Go.Proofs.YtpicffaghoggdaaDoor

namespace Go.Proofs.YtpicffaghoggdaaDoor
set_option linter.unusedVariables false
set_option linter.unusedSimpArgs false
open Go.RowKit

theorem made32_any (most : Int) (v : Value) (xs : List Ln) (G : Nat → Prop) (w : World) (ht : Tabs w) (h0 : 0 ≤ most) (h1 : most ≤ 1048576) (hv : lnEl.Rd G w v xs) (hok : ∀ l ∈ xs, lnOk l.cells = true) (hn : xs.length ≤ 1000000) (k : Nat) (hk : k = xs.length - most.toNat) :
    Calls Tryd.prog 30 #[.int .i64 most, v] w fun e w' => ∃ b, e = .returned (.pointer (some ⟨b, 0, none⟩)) ∧ HiF w (fun c => w.heap.size ≤ c) w' b most k (xs.drop k) := by
  have Hv := Lib.hid (hv.mono (G := fun b => b < w.heap.size) (fun b hb _ => hb))
  have H0 := Lib.hid h0
  have H1 := Lib.hid h1
  have Hok := Lib.hid hok
  have Hn := Lib.hid hn
  have Hk := Lib.hid hk
  obtain ⟨a, c, rfl, _⟩ := hv.slice'
  clear hv h0 h1 hok hn hk
  go_enter Tryd.func30, Tryd.ntmps30
  go_wp2_with fail
  refine (hnew_ok most w H0.out H1.out).mono ?_
  rintro e w1 ⟨b, rfl, hp⟩
  have P1 := Lib.hid hp
  clear hp
  go_wp2_with fail
  refine (P1.out.push ht _ xs (Hv.out.sees P1.out.see) (fun c hc hF => Nat.lt_irrefl _ (Nat.lt_of_lt_of_le hc hF)) Hok.out (by have := Hn.out; simp; omega) k (by have := Hk.out; simp; omega)).mono ?_
  rintro e w2 ⟨rfl, hp, _⟩
  have P2 := Lib.hid hp
  have hz := P1.out.see.size
  clear hp
  go_wp2
  go_ret
  refine ⟨_, rfl, ?_⟩
  have := P2.out.mono (G := fun c => w.heap.size ≤ c) (fun c _ h => by
    rcases h with h | h
    · exact h
    · omega) (fun c h => h)
  simpa using this
theorem vlines_no1 (w : World) (v h u : Value) (hv : NoVw w v) : Calls Tryd.prog 34 #[v, h, u] w fun e w' => e = .returned (.tuple #[.slice none 0 0, .int .i64 0, .int .i64 1]) ∧ Sees w w' := by
  go_enter Tryd.func34, Tryd.ntmps34
  go_wp2_with fail
  refine (vzero_no w v hv).mono ?_
  rintro e w1 ⟨rfl, s1⟩
  go_wp2
  go_ret3
  exact ⟨rfl, s1⟩
theorem vlines_no2 (w : World) (b : Nat) (rows back : Int) (h u : Value) (hb : VwAt w b rows back) (h0 : rows ≠ 0) (hh : NoHi w h) : Calls Tryd.prog 34 #[.pointer (some ⟨b, 0, none⟩), h, u] w fun e w' => e = .returned (.tuple #[.slice none 0 0, .int .i64 0, .int .i64 1]) ∧ Sees w w' := by
  go_enter Tryd.func34, Tryd.ntmps34
  go_wp2_with fail
  refine (vzero_at w b rows back hb h0).mono ?_
  rintro e w1 ⟨rfl, s1⟩
  go_wp2_with fail
  refine (vnothing_no w1 h (hh.sees s1)).mono ?_
  rintro e w2 ⟨rfl, s2⟩
  go_wp2
  go_ret3
  exact ⟨rfl, s1.trans s2⟩
theorem vlines_arg {w1 W : World} {F : Nat → Prop} {g : Nat} {most first : Int} {ls : List Ln} (hh : HiF w1 F W g most first ls) (b : Nat) (rows back : Int) (a : Option Addr) (n c : Nat) (hb : VwAt W b rows back) (h0 : rows ≠ 0) (hn : (n : Int) ≠ rows) :
    Calls Tryd.prog 34 #[.pointer (some ⟨b, 0, none⟩), .pointer (some ⟨g, 0, none⟩), .slice a n c] W fun e w' => e = .returned (.tuple #[.slice none 0 0, .int .i64 0, .int .i64 2]) ∧ Sees W w' := by
  have d1 : ((n : Int) != rows) = true := by rw [bne_iff_ne]; exact hn
  have H := Lib.hid hh
  clear hh hn
  go_enter Tryd.func34, Tryd.ntmps34
  go_wp2_with fail
  refine (vzero_at W b rows back hb h0).mono ?_
  rintro e w2 ⟨rfl, s2⟩
  go_wp2_with fail
  refine (vnothing_at (H.out.sees s2)).mono ?_
  rintro e w3 ⟨rfl, s3⟩
  have S3 := Lib.hid (s2.trans s3)
  obtain ⟨q0, q1⟩ := (hb.sees (s2.trans s3)).c
  clear s2 s3 hb
  go_wp2
  go_ret3
  exact ⟨rfl, S3.out⟩
end Go.Proofs.YtpicffaghoggdaaDoor

namespace Go.Proofs.YtpicffaghoggdaaDoor
set_option linter.unusedVariables false
set_option linter.unusedSimpArgs false
open Go.RowKit

theorem vsees_true (v h u wt : Value) (first e0 : Int) (ls : List Ln) (G : Nat → Prop) (w : World) (hn : ls.length ≤ 1000000) (hc : ∀ l ∈ ls, l.cells.length ≤ 1000000) (hw : RdL G w wt ls)
    (hL : Calls Tryd.prog 34 #[v, h, u] w fun e w' => ∃ vl, e = .returned (.tuple #[vl, .int .i64 first, .int .i64 e0]) ∧ RdL (fun _ => True) w' vl ls ∧ Sees w w') :
    Calls Tryd.prog 43 #[v, h, u, wt, .int .i64 first, .int .i64 e0] w fun e w' => e = .returned (.bool true) ∧ Sees w w' := by
  have Hn := Lib.hid hn
  have Hc := Lib.hid hc
  have Hw := Lib.hid hw
  have HL := Lib.hid hL
  clear hn hc hw hL
  go_enter Tryd.func43, Tryd.ntmps43
  go_wp2_with fail
  refine (HL.out).mono ?_
  rintro e w1 ⟨vl, rfl, hv, hs⟩
  have V1 := Lib.hid hv
  have S1 := Lib.hid hs
  clear hv hs
  go_wp2_with fail
  refine (all_true _ _ _ _ ls ls _ V1.out (Hw.out.sees S1.out) Hn.out Hc.out rfl).mono ?_
  rintro e w2 ⟨rfl, hs2⟩
  go_wp2
  go_ret
  exact ⟨by simp, S1.out.trans hs2⟩
/-- Refused: nothing is returned. -/
theorem vsees_err (v h u : Value) (e0 : Int) (w : World)
    (hL : Calls Tryd.prog 34 #[v, h, u] w fun e w' => e = .returned (.tuple #[.slice none 0 0, .int .i64 0, .int .i64 e0]) ∧ Sees w w') :
    Calls Tryd.prog 43 #[v, h, u, .slice none 0 0, .int .i64 0, .int .i64 e0] w fun e w' => e = .returned (.bool true) ∧ Sees w w' := by
  refine vsees_true v h u _ 0 e0 [] (fun _ => True) w (by simp) (fun l hl => by cases hl) (El.Rd.nil _ _).rdl (hL.mono ?_)
  rintro e w' ⟨rfl, hs⟩
  exact ⟨_, rfl, (El.Rd.nil _ _).rdl, hs⟩
end Go.Proofs.YtpicffaghoggdaaDoor

namespace Go.Proofs.YtpicffaghoggdaaDoor
set_option linter.unusedVariables false
set_option linter.unusedSimpArgs false
open Go.RowKit

/-- A row of lines, from the line 'j' on of one's own. -/
def MvL (F : Nat → Prop) (W : World) (b : Nat) (L : List Ln) (j : Nat) : Prop :=
  ∃ vals cur t, W.heap[b]? = some (.cells cur t (0, 0)) ∧ cur.toList.take (L.length * 2) = vals ∧ lnEl.ownIn F W (vals.drop (j * 2)) (L.drop j)
theorem MvL.keeps {F G : Nat → Prop} {W W' : World} {b j : Nat} {L : List Ln} (h : MvL F W b L j) (hk : Keeps G W W') (hF : ∀ c, F c → ¬ G c) (hb : ¬ G b) : MvL F W' b L j := by
  obtain ⟨vals, cur, t, h1, h2, h3⟩ := h
  exact ⟨vals, cur, t, by rw [hk.block _ (Array.getElem?_eq_some_iff.1 h1).1 hb]; exact h1, h2, El.ownIn_keeps h3 hk hF⟩
theorem MvL.of {F : Nat → Prop} {W : World} {a : Option Addr} {n c : Nat} {L : List Ln} (h : lnEl.Own F W (.slice a n c) L) (h0 : L ≠ []) : ∃ b, a = some ⟨b, 0, none⟩ ∧ F b ∧ MvL (fun x => F x ∧ x ≠ b) W b L 0 := by
  obtain ⟨xs, ⟨h1, h2⟩, hF, h3⟩ := h
  rcases h2 with ⟨_, h2⟩ | ⟨g, cap, cur, e, _, hg, hn, _, hsz, htk⟩
  · exact absurd (List.eq_nil_of_length_eq_zero h2) h0
  · cases e
    refine ⟨g, rfl, hF g rfl, xs, cur, _, hg, htk, ?_⟩
    simp only [Nat.zero_mul, List.drop_zero]
    exact El.ownIn_mono h3 (fun b _ h => ⟨h.1, fun e => h.2 (by rw [e]; rfl)⟩)
theorem MvL.step {F : Nat → Prop} {W : World} {b j : Nat} {L : List Ln} (h : MvL F W b L j) {l : Ln} (hl : L[j]? = some l) : ∃ a c F1 F2, W.cell? ⟨b, j * 2, none⟩ = some (.slice a l.cells.length c) ∧ W.cell? ⟨b, j * 2 + 1, none⟩ = some (.bool l.soft) ∧
    (∀ x, F1 x → F x) ∧ (∀ x, F2 x → F x) ∧ (∀ x, F1 x → ¬ F2 x) ∧ cellEl.Own F1 W (.slice a l.cells.length c) l.cells ∧ MvL F2 W b L (j + 1) := by
  obtain ⟨xs, cur, t, h1, h2, h4⟩ := h
  have hk := (List.getElem?_eq_some_iff.1 hl).1
  have hd : L.drop j = l :: L.drop (j + 1) := by
    rw [List.drop_eq_getElem_cons hk, (List.getElem?_eq_some_iff.1 hl).2]
  rw [hd] at h4
  obtain ⟨F1, F2, g1, g2, g3, ⟨v, hv, ho⟩, h5⟩ := h4
  have hv : (xs.drop (j * 2)).take 2 = [v, .bool l.soft] := hv
  have h5 : lnEl.ownIn F2 W ((xs.drop (j * 2)).drop 2) (L.drop (j + 1)) := h5
  obtain ⟨a, c, rfl, _⟩ := ho.slice
  have e0 : xs[j * 2]? = some (.slice a l.cells.length c) := by
    have := congrArg (fun z => z[0]?) hv; simpa using this
  have e1 : xs[j * 2 + 1]? = some (.bool l.soft) := by
    have := congrArg (fun z => z[1]?) hv; simpa using this
  have at_ : ∀ i u, xs[i]? = some u → W.cell? ⟨b, i, none⟩ = some u := by
    intro i u hu
    rw [cell_of_row _ _ _ _ _ _ h1]
    rw [← h2, List.getElem?_take] at hu
    split at hu
    · rw [← hu]; simp
    · cases hu
  refine ⟨a, c, F1, F2, at_ _ _ e0, at_ _ _ e1, g1, g2, g3, ho, xs, cur, t, h1, h2, ?_⟩
  rw [List.drop_drop] at h5
  rw [show (j + 1) * 2 = j * 2 + 2 by omega]
  exact h5
end Go.Proofs.YtpicffaghoggdaaDoor

namespace Go.Proofs.YtpicffaghoggdaaDoor
set_option linter.unusedVariables false
set_option linter.unusedSimpArgs false
open Go.RowKit

theorem MvL.mono {F G : Nat → Prop} {W : World} {b j : Nat} {L : List Ln} (h : MvL F W b L j) (hFG : ∀ c, F c → G c) : MvL G W b L j := by
  obtain ⟨vals, cur, t, h1, h2, h3⟩ := h
  exact ⟨vals, cur, t, h1, h2, El.ownIn_mono h3 (fun b _ h => hFG b h)⟩
theorem MvL.cut {F : Nat → Prop} {W : World} {b j : Nat} {L : List Ln} (h : MvL F W b L j) : MvL (fun c => F c ∧ c < W.heap.size) W b L j := by
  obtain ⟨vals, cur, t, h1, h2, h3⟩ := h
  exact ⟨vals, cur, t, h1, h2, El.ownIn_mono h3 (fun b hb h => ⟨h, hb⟩)⟩
theorem MvL.lt {F : Nat → Prop} {W : World} {b j : Nat} {L : List Ln} (h : MvL F W b L j) : b < W.heap.size := by
  obtain ⟨vals, cur, t, h1, h2, h3⟩ := h
  exact (Array.getElem?_eq_some_iff.1 h1).1
theorem HiF.last_own {w1 W : World} {F : Nat → Prop} {b : Nat} {most first : Int} {ls : List Ln} (h : HiF w1 F W b most first ls) (k : Nat) :
    Calls Tryd.prog 20 #[.pointer (some ⟨b, 0, none⟩), .int .i64 k] W fun e w' => ∃ v, e = .returned v ∧ lnEl.Own (fun c => W.heap.size ≤ c) w' v (ls.drop (ls.length - k)) ∧ Sees W w' := by
  by_cases hn : k = 0
  · subst hn
    refine (h.last_none 0 (by omega)).mono ?_
    rintro e w' ⟨rfl, hs⟩
    refine ⟨_, rfl, ?_, hs⟩
    rw [List.drop_of_length_le (by omega)]
    exact El.Own.nil _ _
  · exact h.last (k : Int) (by omega)
theorem clampV_le {x : Int} {n k : Nat} (h : clampV x n = k) : k ≤ n := by unfold clampV at h; omega
set_option maxRecDepth 100000 in
set_option maxHeartbeats 4000000 in
theorem vlines_ok {w1 W : World} {F G : Nat → Prop} {g : Nat} {most first : Int} {ls ss : List Ln} (hh : HiF w1 F W g most first ls) (b : Nat) (back : Int) (v : Value) (rows k : Nat) (hb : VwAt W b rows back) (h1 : 1 ≤ rows) (h2 : rows ≤ 1000) (hk : clampV back ls.length = k) (hn : ss.length = rows) (hv : lnEl.Rd G W v ss) (hnc : ∀ l ∈ ss, l.cells.length ≤ 1000000) :
    Calls Tryd.prog 34 #[.pointer (some ⟨b, 0, none⟩), .pointer (some ⟨g, 0, none⟩), v] W fun e w' => ∃ vl, e = .returned (.tuple #[vl, .int .i64 (first + ls.length - k), .int .i64 0]) ∧ lnEl.Own (fun c => W.heap.size ≤ c) w' vl ((ls.drop (ls.length - k) ++ ss).take rows) ∧ Sees W w' := by
  have H := Lib.hid hh
  have fa := hh.facts
  obtain ⟨a, c, rfl, _⟩ := hv.slice'
  have Hv := Lib.hid hv
  have h0 : (rows : Int) ≠ 0 := by omega
  have Hk := Lib.hid hk
  have Hnc := Lib.hid hnc
  have HB0 := Lib.hid hb
  clear hh hv hk hnc
  rw [hn] at *
  clear hn
  go_enter Tryd.func34, Tryd.ntmps34
  go_wp2_with fail
  refine (vzero_at W b rows back hb h0).mono ?_
  rintro e w2 ⟨rfl, s2⟩
  go_wp2_with fail
  refine (vnothing_at (H.out.sees s2)).mono ?_
  rintro e w3 ⟨rfl, s3⟩
  have S3 := Lib.hid (s2.trans s3)
  have D3 := Lib.hid (hb.sees (s2.trans s3))
  obtain ⟨q0, q1⟩ := D3.out.c
  clear s2 s3
  go_wp2_with fail
  refine wpFrom_go (by kernel_rfl) (by kernel_rfl) (fun hB w4 hs4 => ?_)
  have S4 := Lib.hid (S3.out.trans hs4)
  have D4 := Lib.hid (D3.out.sees hs4)
  clear hs4 S3 D3 q0 q1 hb
  have hval : ∀ x v, (Spec.is x).val v = x := fun _ _ => rfl
  have hval2 : ∀ V v, (Spec.so V).val v = v := fun _ _ => rfl
  have hst : segStay (Sees w4) [.is (.pointer (some ⟨b, 0, none⟩)), .is (.pointer (some ⟨b, 0, none⟩)), .is (.pointer (some ⟨b, 1, none⟩)), .is (.int .i64 back), .is (.pointer (some ⟨g, 0, none⟩)), .is (.int .i64 ls.length), .is (.agg #[.int .i64 back, .int .i64 ls.length]), .is (.int .i64 k)] := trivial
  refine wpFrom_any 8 _ hB (by kernel_rfl) rfl hst (by simp only [List.cons_append, List.nil_append, List.drop_succ_cons, List.drop_zero, List.take_succ_cons, List.take_zero, Nat.reduceSub]; rfl) ?_
  refine ⟨fun vs W hI hV => .inl ⟨by clear hI hV hst; go_simp, .inl (by clear hI hV hst; (try simp only [Act.put, hval, hval2, List.setIfInBounds_toArray, List.set_cons_zero, List.set_cons_succ]); go_simp)⟩, ?_⟩
  refine ⟨fun vs W hI hV => .inl ⟨by clear hI hV hst; go_simp, .inl (by clear hI hV hst; (try simp only [Act.put, hval, hval2, List.setIfInBounds_toArray, List.set_cons_zero, List.set_cons_succ]); go_simp)⟩, ?_⟩
  refine ⟨fun vs W hI hV => .inl ⟨by clear hI hV hst; go_simp, .inl (by clear hI hV hst; (try simp only [Act.put, hval, hval2, List.setIfInBounds_toArray, List.set_cons_zero, List.set_cons_succ]); go_simp)⟩, ?_⟩
  refine ⟨fun vs W hI hV => .inl ⟨by clear hI hV hst; go_simp, .inl (by have q := (D4.out.sees hI).c; obtain ⟨q0, q1⟩ := q; clear hI hV hst; (try simp only [Act.put, hval, hval2, List.setIfInBounds_toArray, List.set_cons_zero, List.set_cons_succ]); go_simp)⟩, ?_⟩
  refine ⟨fun vs W hI hV => .inl ⟨by clear hI hV hst; go_simp, .inl (by clear hI hV hst; (try simp only [Act.put, hval, hval2, List.setIfInBounds_toArray, List.set_cons_zero, List.set_cons_succ]); go_simp)⟩, ?_⟩
  refine ⟨fun vs W hI hV => .inl ⟨by clear hI hV hst; (try simp only [Act.put, hval, hval2, List.setIfInBounds_toArray, List.set_cons_zero, List.set_cons_succ]); go_simp, .inr (.inr ⟨24, #[.pointer (some ⟨g, 0, none⟩)], by clear hI hV hst; (try simp only [Act.put, hval, hval2, List.setIfInBounds_toArray, List.set_cons_zero, List.set_cons_succ]); go_simp, (H.out.sees (S4.out.trans hI)).hiLen _ rfl⟩)⟩, ?_⟩
  refine ⟨fun vs W hI hV => .inl ⟨by clear hI hV hst; go_simp, .inl (by clear hI hV hst; (try simp only [Act.put, hval, hval2, List.setIfInBounds_toArray, List.set_cons_zero, List.set_cons_succ]); go_simp)⟩, ?_⟩
  refine ⟨fun vs W hI hV => .inl ⟨by clear hI hV hst; (try simp only [Act.put, hval, hval2, List.setIfInBounds_toArray, List.set_cons_zero, List.set_cons_succ]); go_simp, .inr (.inr ⟨69, #[.agg #[.int .i64 back, .int .i64 ls.length]], by clear hI hV hst; (try simp only [Act.put, hval, hval2, List.setIfInBounds_toArray, List.set_cons_zero, List.set_cons_succ]); go_simp, vclamped _ _ _ W (by omega) Hk.out⟩)⟩, ?_⟩
  intro vs w5 hI hV
  have S5 := Lib.hid (S4.out.trans hI)
  have D5 := Lib.hid (D4.out.sees hI)
  clear hI hV hst D4 S4
  (try simp only [Act.put, hval, hval2, List.setIfInBounds_toArray, List.set_cons_zero, List.set_cons_succ])
  go_simp
  refine wpFrom_to 9 hB (fun _ _ _ _ _ h => h) (by kernel_rfl) (by simp only [List.cons_append, List.nil_append, List.drop_succ_cons, List.drop_zero, List.take_succ_cons, List.take_zero, Nat.reduceSub]; rfl) ?_
  go_wp2_with fail
  refine wpFrom_end rfl ?_
  clear hB
  go_wp2_with fail
  refine ((H.out.sees S5.out).last_own k).mono ?_
  rintro e w6 ⟨v1, rfl, ho, hs6⟩
  obtain ⟨L, hL⟩ : ∃ L, L = ls.drop (ls.length - k) := ⟨_, rfl⟩
  rw [← hL] at ho
  have HL := Lib.hid hL
  obtain ⟨a1, c1, rfl, _⟩ := ho.slice
  have O6 := Lib.hid ho
  have S6 := Lib.hid (S5.out.trans hs6)
  have Hz5 := Lib.hid S5.out.size
  clear ho hs6 hL D5 S5
  go_wp2_with fail
  have HM := Lib.hid (fun h0 : L ≠ [] => MvL.of O6.out h0)
  have hz6 := S6.out.size
  obtain ⟨m, hm⟩ : ∃ m, m = L.length := ⟨_, rfl⟩
  rw [← hm]
  have Hm := Lib.hid hm
  have hz5 := Hz5.out
  have hmb : m ≤ 1000000000 := by rw [hm, HL.out, List.length_drop]; omega
  clear hm
  go_loopw [10, 42] (fun o i W2 => ∃ j : Nat, j ≤ m ∧ i = .int .i64 j ∧ ∃ F1 F2 : Nat → Prop, (∀ x, F1 x → ¬ F2 x) ∧ (∀ x, F1 x ∨ F2 x → W.heap.size ≤ x) ∧ lnEl.Own F1 W2 o (L.take (min j rows)) ∧ (L ≠ [] → ∃ q, a1 = some ⟨q, 0, none⟩ ∧ ¬ F1 q ∧ ¬ F2 q ∧ W.heap.size ≤ q ∧ MvL F2 W2 q L j) ∧ Sees W W2) (fun _ i _ => m - (intOf i).toNat)
  case atStart =>
    refine ⟨0, by omega, rfl, fun _ => False, fun x => w5.heap.size ≤ x ∧ ∀ q, a1 = some ⟨q, 0, none⟩ → x ≠ q, fun _ h => h.elim, fun x h => by
      rcases h with h | h
      · exact h.elim
      · have := h.1; omega, ?_, fun h0 => ?_, S6.out⟩
    · rw [show min 0 rows = 0 by omega, List.take_zero]; exact El.Own.nil _ _
    · obtain ⟨q, e, hq, hM⟩ := HM.out h0
      exact ⟨q, e, fun h => h, fun h => h.2 q e rfl, by omega, hM.mono (fun x h => ⟨h.1, fun q' e' => by rw [e] at e'; cases e'; exact h.2⟩)⟩
  case round =>
    obtain ⟨j, hj, rfl, F1, F2, hd, hlo, ho, hmv, hS⟩ := hrel
    have HD := Lib.hid hd
    have HLO := Lib.hid hlo
    have HMV := Lib.hid hmv
    have HS := Lib.hid hS
    have HO := Lib.hid ho
    have DV := Lib.hid (HB0.out.sees hS)
    clear HM O6 S6 hd hlo hmv hS hz6
    by_cases hlt : j < m
    · obtain ⟨l, hl⟩ : ∃ l, L[j]? = some l := ⟨L[j]'(by have := Hm.out; omega), List.getElem?_eq_getElem _⟩
      have hne : L ≠ [] := fun e => by rw [e] at hl; cases hl
      obtain ⟨q, rfl, hq1, hq0, hq2, hq3⟩ := HMV.out hne
      obtain ⟨a4, c4, G1, G2, x1, x2, x3, x4, x5, x6, x7⟩ := hq3.step hl
      have Hl := Lib.hid hl
      have X34 := Lib.hid (And.intro x3 (And.intro x4 x5))
      have X6 := Lib.hid x6
      have X7 := Lib.hid x7
      have HQ := Lib.hid (And.intro hq1 (And.intro hq0 hq2))
      obtain ⟨n4, hn4⟩ : ∃ n4, n4 = l.cells.length := ⟨_, rfl⟩
      rw [← hn4] at x1 X6
      have Hn4 := Lib.hid hn4
      clear hl x3 x4 x5 x6 x7 hq1 hq0 hq2 hq3 hne hn4
      obtain ⟨a3, c3, e3, _⟩ := ho.slice
      obtain ⟨M, hM⟩ : ∃ M, M = (L.take (min j rows)).length := ⟨_, rfl⟩
      rw [← hM] at e3
      subst e3
      have hM2 : M = min j rows := by rw [hM, List.length_take, ← Hm.out]; omega
      have HMl := Lib.hid hM
      clear hM ho
      obtain ⟨q0, q1⟩ := DV.out.c
      have g0 := fun o => ((Sees.refl wr).alloc o).cell q0
      have HzW := Lib.hid HS.out.size
      by_cases hjr : j < rows
      · obtain rfl : j = M := by omega
        have HX1 : Sees wr ((wr.alloc (.cells #[.slice a4 n4 c4, .bool l.soft] 40)).alloc (.cells #[.slice a4 n4 c4, .bool l.soft] 40)) := ((Sees.refl wr).alloc _).alloc _
        have HX := Lib.hid HX1
        have HOX := Lib.hid (HO.out.cut.sees HX1)
        have HzX := Lib.hid (show ((wr.alloc (.cells #[.slice a4 n4 c4, .bool l.soft] 40)).alloc (.cells #[.slice a4 n4 c4, .bool l.soft] 40)).heap.size = wr.heap.size + 2 from by simp)
        have Hrow := Lib.hid (show ((wr.alloc (.cells #[.slice a4 n4 c4, .bool l.soft] 40)).alloc (.cells #[.slice a4 n4 c4, .bool l.soft] 40)).heap[wr.heap.size + 1]? = some (.cells #[.slice a4 n4 c4, .bool l.soft] 40 (0, 0)) from by
          have := heap_alloc_new (wr.alloc (.cells #[.slice a4 n4 c4, .bool l.soft] 40)) (.cells #[.slice a4 n4 c4, .bool l.soft] 40)
          simpa using this)
        have HcL : Hid ((L.take (min j rows)).length + [l].length ≤ 100000000) := Lib.hid (by rw [← HMl.out]; simp; omega)
        have HoC := Lib.hid (El.ownIn_one (E := lnEl) (F := fun b => G1 b ∧ b < wr.heap.size) (x := l) (vs := [.slice a4 n4 c4, .bool l.soft]) ⟨_, rfl, X6.out.cut.sees HX1⟩)
        have HcF : Hid (∀ b, (F1 b ∧ b < wr.heap.size) → b < ((wr.alloc (.cells #[.slice a4 n4 c4, .bool l.soft] 40)).alloc (.cells #[.slice a4 n4 c4, .bool l.soft] 40)).heap.size) := Lib.hid (fun b hb => by rw [HzX.out]; have := hb.2; omega)
        have HcN : Hid (∀ b, (G1 b ∧ b < wr.heap.size) → b < ((wr.alloc (.cells #[.slice a4 n4 c4, .bool l.soft] 40)).alloc (.cells #[.slice a4 n4 c4, .bool l.soft] 40)).heap.size ∧ ¬ (F1 b ∧ b < wr.heap.size)) := Lib.hid (fun b hb => by rw [HzX.out]; exact ⟨by have := hb.2; omega, fun h => HD.out b h.1 (X34.out.1 b hb.1)⟩)
        clear HX1 hM2
        go_wp2_with (at_builtin; refine El.wpList_append_own (v := .slice a3 j c3) typedLn rfl (.tmp 53) (.tmp 55) rfl (by go_simp) HOX.out ⟨wr.heap.size + 1, 0, none⟩ 1 1 (by go_simp) [.slice a4 n4 c4, .bool l.soft] [l] (fun b => G1 b ∧ b < wr.heap.size) HoC.out rfl (fun j u hu => El.row_cells Hrow.out j u hu) HcF.out HcN.out HcL.out ?_; intro v7 w7 ho7 hk7)
        have hS7 : Sees W w7 := El.keep_new (HS.out.trans HX.out) hk7 (fun g' hg' => HLO.out g' (.inl (HOX.out.base hg').1.1))
        have hk7' : Keeps (fun c => F1 c ∧ c < wr.heap.size) wr w7 := (Keeps.of_sees HX.out).trans' hk7 (fun c hc h => (HOX.out.base h).1)
        go_roundw
        case rel =>
          refine ⟨j + 1, by omega, by go_num, fun b => (F1 b ∧ b < wr.heap.size) ∨ (G1 b ∧ b < wr.heap.size) ∨ wr.heap.size + 2 ≤ b, fun b => G2 b ∧ b < wr.heap.size, fun x h g => ?_, fun x h => ?_, ?_, fun _ => ⟨q, rfl, fun h => ?_, fun h => HQ.out.2.1 (X34.out.2.1 q h.1), HQ.out.2.2, ?_⟩, hS7⟩
          · rcases h with h | h | h
            · exact HD.out x h.1 (X34.out.2.1 x g.1)
            · exact X34.out.2.2 x h.1 g.1
            · have := g.2; omega
          · have hz := HzW.out
            rcases h with h | h
            · rcases h with h | h | h
              · exact HLO.out x (.inl h.1)
              · exact HLO.out x (.inr (X34.out.1 x h.1))
              · omega
            · exact HLO.out x (.inr (X34.out.2.1 x h.1))
          · rw [show min (j + 1) rows = j + 1 by omega, List.take_add_one, Hl.out]
            rw [show min j rows = j by omega] at ho7
            refine ho7.mono (fun b _ h => ?_)
            rw [HzX.out] at h
            exact h
          · have hq := X7.out.lt
            rcases h with h | h | h
            · exact HQ.out.1 h.1
            · exact HQ.out.2.1 (X34.out.1 q h.1)
            · omega
          · exact X7.out.cut.keeps hk7' (fun c hc h => HD.out c h.1 (X34.out.2.1 c hc.1)) (fun h => HQ.out.1 h.1)
        case measure => simp [intOf] <;> omega
      · obtain rfl : rows = M := by omega
        clear hM2
        go_wp2_with fail
        go_roundw
        case rel =>
          refine ⟨j + 1, by omega, by go_num, F1, G2, fun x h g => HD.out x h (X34.out.2.1 x g), fun x h => ?_, ?_, fun _ => ⟨q, rfl, HQ.out.1, fun h => HQ.out.2.1 (X34.out.2.1 q h), HQ.out.2.2, ?_⟩, HS.out.alloc _⟩
          · rcases h with h | h
            · exact HLO.out x (.inl h)
            · exact HLO.out x (.inr (X34.out.2.1 x h))
          · rw [show min (j + 1) rows = min j rows by omega]
            exact HO.out.sees ((Sees.refl wr).alloc _)
          · exact X7.out.keeps (Keeps.of_sees (F := fun _ => False) ((Sees.refl wr).alloc _)) (fun _ _ h => h) (fun h => h)
        case measure => simp [intOf] <;> omega
    · obtain rfl : j = m := by omega
      obtain ⟨a3, c3, e3, _⟩ := ho.slice
      obtain ⟨M, hM⟩ : ∃ M, M = (L.take (min j rows)).length := ⟨_, rfl⟩
      rw [← hM] at e3
      subst e3
      have hM2 : M = min j rows := by rw [hM, List.length_take, ← Hm.out]; omega
      have HML := Lib.hid (show M = (L.take rows).length by rw [List.length_take, ← Hm.out]; omega)
      have HMm := Lib.hid hM2
      have hMr : M ≤ rows := by omega
      have HO2 : Hid (lnEl.Own (fun c => W.heap.size ≤ c) wr (.slice a3 M c3) (L.take rows ++ ss.take 0)) := Lib.hid (by
        rw [List.take_zero, List.append_nil]
        have := HO.out.mono (G := fun c => W.heap.size ≤ c) (fun b _ h => HLO.out b (.inl h))
        rwa [show L.take (min j rows) = L.take rows from List.take_eq_take_iff.2 (by rw [← Hm.out]; omega)] at this)
      obtain ⟨hs1, hr1⟩ := cut_to Hv.out (rows - M) (Nat.sub_le _ _)
      have HR := Lib.hid (hr1 G W Hv.out)
      have g1 : IntKind.i64.wrap ((rows : Int) - (M : Int)) = ((rows - M : Nat) : Int) := by rw [IntWalk.i64_in _ (by omega)]; omega
      obtain ⟨q0, q1⟩ := DV.out.c
      clear hM hM2 hr1 HO HMV HLO HD ho
      go_wp2_with fail
      clear q0 q1 hs1 g1
      obtain ⟨p, hp⟩ : ∃ p, p = rows - M := ⟨_, rfl⟩
      rw [← hp] at HR ⊢
      have Hp := Lib.hid hp
      have hpr : p ≤ rows := by omega
      clear hp
      have hval : ∀ x v, (Spec.is x).val v = x := fun _ _ => rfl
      have hval2 : ∀ V v, (Spec.so V).val v = v := fun _ _ => rfl
      obtain ⟨ws, rfl⟩ : ∃ ws : World, ws = wr := ⟨_, rfl⟩
      have HS0 := HS
      clear HS
      go_loopw [10, 68] (fun o i W2 => ∃ k : Nat, k ≤ p ∧ i = .int .i64 k ∧ lnEl.Own (fun c => W.heap.size ≤ c) W2 o (L.take rows ++ ss.take k) ∧ Sees W W2) (fun _ i _ => p - (intOf i).toNat)
      case atStart => exact ⟨0, by omega, rfl, HO2.out, HS0.out⟩
      case round =>
        obtain ⟨k1, hk1, rfl, ho, hS⟩ := hrel
        obtain ⟨a5, c5, hv5, _⟩ := ho.slice
        obtain ⟨N, hN⟩ : ∃ N, N = (L.take rows ++ ss.take k1).length := ⟨_, rfl⟩
        rw [← hN] at hv5
        subst hv5
        have hN2 : N ≤ 2000 := by rw [hN, List.length_append, List.length_take, List.length_take]; omega
        have HNl := Lib.hid hN
        have Ho := Lib.hid ho
        have HS := Lib.hid hS
        clear ho hS HO2 hN
        by_cases hlt2 : k1 < p
        · obtain ⟨b1, o1, x, a1, m1, rfl, _, hx, _, x1, x2, x3⟩ := (HR.out.sees HS.out).line hlt2
          have hx' : ss[k1]? = some x := by
            rw [List.getElem?_take, if_pos hlt2] at hx
            exact hx
          have Hx := Lib.hid hx'
          have X3 := Lib.hid x3
          have Hxl := Lib.hid (Hnc.out x (List.mem_iff_getElem?.2 ⟨_, hx'⟩))
          clear hx hx' x3
          generalize hl1 : x.cells.length = n1 at *
          have Hn1 := Lib.hid hl1
          clear hl1
          go_wp2
          refine wpFrom_go (by kernel_rfl) (by kernel_rfl) (fun hB w7 hw7 => ?_)
          have hA7 := Sees.trans ((Sees.refl wr).alloc (.cells #[.slice a1 n1 m1, .bool x.soft] 40)) hw7
          have L7 := Lib.hid ((LnAt.new (W := wr) (v := .slice a1 n1 m1) (soft := x.soft) rfl).sees hw7)
          have Ho7 := Lib.hid (Ho.out.sees hA7).cut
          have HS7 := Lib.hid (HS.out.trans hA7)
          have X7 := Lib.hid (X3.out.sees hA7)
          clear hw7 hA7 HS Ho X3 x1 x2
          have hst : segStay (Sees w7) [.is (.slice a5 N c5), .is (.pointer (some ⟨wr.heap.size, 0, none⟩)), .is (.slice a1 n1 m1),
              .so (fun v W => OwnCells W w7.heap.size v x.cells), .is (.pointer (some ⟨wr.heap.size, 1, none⟩)), .is (.bool x.soft),
              .so (fun x' W => ∃ v', x' = .agg #[v', .bool x.soft] ∧ OwnCells W w7.heap.size v' x.cells),
              .so (fun x' W => ∃ b v', x' = .slice (some ⟨b, 0, none⟩) 1 1 ∧ W.heap[b]? = some (.cells #[v', .bool x.soft] 40 (0, 0)) ∧ OwnCells W w7.heap.size v' x.cells)] :=
            ⟨fun u W W' _ h hs => h.sees hs, fun u W W' _ ⟨v', h1, h2⟩ hs => ⟨v', h1, h2.sees hs⟩, fun u W W' _ ⟨b, v', h1, h2, h3⟩ hs => ⟨b, v', h1, by rw [hs.block _ (Array.getElem?_eq_some_iff.1 h2).1]; exact h2, h3.sees hs⟩, trivial⟩
          refine wpFrom_any 8 _ hB (by kernel_rfl) rfl hst (by simp only [List.cons_append, List.nil_append, List.drop_succ_cons, List.drop_zero, List.take_succ_cons, List.take_zero, Nat.reduceSub]; rfl) ?_
          refine ⟨fun vs W hI hV => .inl ⟨by clear hI hV hst; go_simp, .inl (by clear hI hV hst; (try simp only [Act.put, hval, hval2, List.setIfInBounds_toArray, List.set_cons_zero, List.set_cons_succ]); go_simp)⟩, ?_⟩
          refine ⟨fun vs W hI hV => .inl ⟨by clear hI hV hst; go_simp, .inl (by clear hI hV hst; (try simp only [Act.put, hval, hval2, List.setIfInBounds_toArray, List.set_cons_zero, List.set_cons_succ]); go_simp)⟩, ?_⟩
          refine ⟨fun vs W hI hV => .inl ⟨by clear hI hV hst; go_simp, .inl (by have q := (L7.out.sees hI).c; obtain ⟨q0, q1⟩ := q; clear hI hV hst; (try simp only [Act.put, hval, hval2, List.setIfInBounds_toArray, List.set_cons_zero, List.set_cons_succ]); go_simp)⟩, ?_⟩
          refine ⟨fun vs W hI hV => .inl ⟨by clear hI hV hst; (try simp only [Act.put, hval, hval2, List.setIfInBounds_toArray, List.set_cons_zero, List.set_cons_succ]); go_simp, .inr (.inr ⟨70, #[.slice a1 n1 m1], by clear hI hV hst; (try simp only [Act.put, hval, hval2, List.setIfInBounds_toArray, List.set_cons_zero, List.set_cons_succ]); go_simp, ?_⟩)⟩, ?_⟩
          · refine (clone_any _ x.cells W (X7.out.sees hI).rdCells (by rw [Hn1.out]; exact Hxl.out)).mono ?_
            rintro e w' ⟨v', rfl, hv', hs⟩
            exact ⟨_, rfl, rgGood_mk hst hI (hv'.mono hI.size) hs⟩
          refine ⟨fun vs W hI hV => .inl ⟨by clear hI hV hst; go_simp, .inl (by clear hI hV hst; (try simp only [Act.put, hval, hval2, List.setIfInBounds_toArray, List.set_cons_zero, List.set_cons_succ]); go_simp)⟩, ?_⟩
          refine ⟨fun vs W hI hV => .inl ⟨by clear hI hV hst; go_simp, .inl (by have q := (L7.out.sees hI).c; obtain ⟨q0, q1⟩ := q; clear hI hV hst; (try simp only [Act.put, hval, hval2, List.setIfInBounds_toArray, List.set_cons_zero, List.set_cons_succ]); go_simp)⟩, ?_⟩
          refine ⟨fun vs W hI hV => ?_, ?_⟩
          · have h2 : OwnCells W w7.heap.size (vs 3) x.cells := hV 3 _ (by kernel_rfl) rfl
            obtain ⟨a', c', e⟩ := h2.slice
            exact .inl ⟨by clear hI hV hst h2; go_simp, .inl ⟨.agg #[.slice a' x.cells.length c', .bool x.soft], W, by clear hI hV hst h2; (try simp only [Act.put, hval, hval2, List.setIfInBounds_toArray, List.set_cons_zero, List.set_cons_succ]); go_simp, rgGood_mk hst hI ⟨_, rfl, e ▸ h2⟩ (Sees.refl W)⟩⟩
          refine ⟨fun vs W hI hV => ?_, ?_⟩
          · obtain ⟨v', e, h2⟩ : ∃ v', vs 6 = .agg #[v', .bool x.soft] ∧ OwnCells W w7.heap.size v' x.cells := hV 6 _ (by kernel_rfl) rfl
            obtain ⟨a', c', rfl⟩ := h2.slice
            have hs : Sees W (W.alloc (.cells #[.slice a' x.cells.length c', .bool x.soft] 40)) := (Sees.refl W).alloc _
            exact .inl ⟨by clear hI hV hst h2 hs; go_simp, .inl ⟨.slice (some ⟨W.heap.size, 0, none⟩) 1 1, W.alloc (.cells #[.slice a' x.cells.length c', .bool x.soft] 40), by clear hI hV hst h2 hs; (try simp only [Act.put, hval, hval2, List.setIfInBounds_toArray, List.set_cons_zero, List.set_cons_succ]); go_simp, rgGood_mk hst hI ⟨_, _, rfl, heap_alloc_new _ _, h2.sees hs⟩ hs⟩⟩
          intro vs w8 hI hV
          obtain ⟨b6, v6, hv6, hr6, ho6⟩ : ∃ b v', vs 7 = .slice (some ⟨b, 0, none⟩) 1 1 ∧ w8.heap[b]? = some (.cells #[v', .bool x.soft] 40 (0, 0)) ∧ OwnCells w8 w7.heap.size v' x.cells := hV 7 _ rfl
          have Hr6 := Lib.hid hr6
          have Hown6 := Lib.hid ho6.el
          have Ho6b := Lib.hid (fun g' (hg' : v6.ownBlock = some g') => El.rowLt ho6 hg')
          have Ho8 := Lib.hid (Ho7.out.sees hI)
          have HS8 := Lib.hid (HS7.out.trans hI)
          have Hz8 := Lib.hid hI.size
          have Hz7 := Lib.hid HS7.out.size
          clear hI hV hst hr6 ho6 Ho7 HS7 L7 X7
          have HcF : Hid (∀ b, (W.heap.size ≤ b ∧ b < w7.heap.size) → b < w8.heap.size) := fun b hb => by have := Hz8.out; omega
          have HcN : Hid (∀ b, (v6.ownBlock = some b ∧ w7.heap.size ≤ b) → b < w8.heap.size ∧ ¬ (W.heap.size ≤ b ∧ b < w7.heap.size)) := fun b hb => ⟨(Ho6b.out b hb.1).2, fun h => by have := h.2; omega⟩
          have HcL : Hid ((L.take rows ++ ss.take k1).length + [x].length ≤ 100000000) := by unfold Hid; rw [← HNl.out, List.length_cons, List.length_nil]; omega
          (try simp only [Act.put, hval, hval2, List.setIfInBounds_toArray, List.set_cons_zero, List.set_cons_succ])
          go_simp
          clear hv6
          refine wpFrom_to 10 hB (fun _ _ _ _ _ h => h) (by kernel_rfl) (by simp only [List.cons_append, List.nil_append, List.drop_succ_cons, List.drop_zero, List.take_succ_cons, List.take_zero, Nat.reduceSub]; rfl) ?_
          go_wp2_with (at_builtin; refine El.wpList_append_own (v := .slice a5 N c5) typedLn rfl (.tmp 72) (.tmp 79) rfl (by go_simp) Ho8.out ⟨b6, 0, none⟩ 1 1 (by go_simp) [v6, .bool x.soft] [x] _ (El.ownIn_one (E := lnEl) ⟨_, rfl, Hown6.out⟩) rfl (fun j u hu => El.row_cells Hr6.out j u hu) HcF.out HcN.out HcL.out ?_; intro v9 w9 ho9 hk9)
          refine wpFrom_end rfl ?_; go_wp2
          have HS9 : Sees W w9 := El.keep_new HS8.out hk9 (fun g' hg' => (Ho8.out.base hg').1.1)
          refine ⟨⟨k1 + 1, by omega, by go_num, ?_, HS9⟩, by simp [intOf] <;> omega⟩
          rw [List.take_add_one, Hx.out, ← List.append_assoc]
          exact ho9.mono (fun b _ h => by
            have := HS8.out.size
            have := Hz7.out
            rcases h with h | h | h
            · exact h.1
            · have := h.2; omega
            · omega)
        · obtain rfl : k1 = p := by omega
          have hkn := clampV_le Hk.out
          obtain ⟨nx, hnx⟩ : ∃ nx : Int, first + (ls.length : Int) = nx := ⟨_, rfl⟩
          have g2 : IntKind.i64.wrap (nx - (k : Int)) = nx - (k : Int) := IntWalk.i64_in _ (by omega)
          have Hnx := Lib.hid hnx
          clear hnx hkn
          go_wp2_with fail
          refine ((H.out.sees HS.out).hiNext nx Hnx.out).mono ?_
          rintro e w8 ⟨rfl, hs8⟩
          go_wp2
          go_ret3
          refine ⟨.slice a5 N c5, by rw [← Hnx.out]; rfl, ?_, HS.out.trans hs8⟩
          rw [← HL.out, List.take_append, ← Hm.out]
          have he : rows - j = k1 := by rw [Hp.out, HMm.out]; omega
          rw [he]
          exact Ho.out.sees hs8
end Go.Proofs.YtpicffaghoggdaaDoor

namespace Go.Proofs.YtpicffaghoggdaaDoor
set_option linter.unusedVariables false
set_option linter.unusedSimpArgs false
open Go.RowKit

/-- A view, a history and a screen side by side, all made since 'w1'. -/
def ViSt (w1 W : World) (vb hb rows back : Nat) (most first : Int) (ls : List Ln) (sv : Value) (ss : List Ln) : Prop :=
  ∃ F S : Nat → Prop, HiF w1 F W hb most first ls ∧ VwAt W vb rows back ∧ lnEl.Rd S W sv ss ∧ (∀ c, F c → c ≠ vb ∧ c < W.heap.size ∧ ¬ S c) ∧ (∀ c, S c → c ≠ vb ∧ c < W.heap.size) ∧ w1.heap.size ≤ vb ∧ 1 ≤ rows ∧ rows ≤ 1000 ∧ back ≤ 1048576
theorem clampV_nat (x : Int) (n : Nat) : ∃ k : Nat, clampV x n = k ∧ k ≤ n := ⟨(clampV x n).toNat, by unfold clampV; omega, by unfold clampV; omega⟩
section
variable {w1 W W' : World} {vb hb rows back : Nat} {most first : Int} {ls ss : List Ln} {sv : Value}
namespace ViSt
theorem see (h : ViSt w1 W vb hb rows back most first ls sv ss) : Sees w1 W := by
  obtain ⟨F, S, h1, _⟩ := h
  exact h1.see
theorem facts (h : ViSt w1 W vb hb rows back most first ls sv ss) : 0 ≤ most ∧ most ≤ 1048576 ∧ 0 ≤ first ∧ first + ls.length ≤ 1000000000 ∧ (ls.length : Int) ≤ most := by
  obtain ⟨F, S, h1, _⟩ := h
  exact h1.facts
theorem sees (h : ViSt w1 W vb hb rows back most first ls sv ss) (hs : Sees W W') : ViSt w1 W' vb hb rows back most first ls sv ss := by
  obtain ⟨F, S, h1, h2, h3, h4, h5, h6⟩ := h
  exact ⟨F, S, h1.sees hs, h2.sees hs, h3.sees hs, fun c hc => ⟨(h4 c hc).1, Nat.lt_of_lt_of_le (h4 c hc).2.1 hs.size, (h4 c hc).2.2⟩, fun c hc => ⟨(h5 c hc).1, Nat.lt_of_lt_of_le (h5 c hc).2 hs.size⟩, h6⟩
/-- The view alone is turned. -/
theorem turn (h : ViSt w1 W vb hb rows back most first ls sv ss) {rows' back' : Nat} (hv : VwAt W' vb rows' back') (hk : Keeps (fun c => c = vb) W W') (h1 : 1 ≤ rows') (h2 : rows' ≤ 1000) (h3 : back' ≤ 1048576) : ViSt w1 W' vb hb rows' back' most first ls sv ss := by
  obtain ⟨F, S, g1, g2, g3, g4, g5, g6, _⟩ := h
  exact ⟨F, S, g1.keeps hk (fun c hc => (g4 c hc).1) (fun c e => by have e : c = vb := e; rw [e]; exact g6), hv, g3.keeps hk (fun c hc => (g5 c hc).1), fun c hc => ⟨(g4 c hc).1, Nat.lt_of_lt_of_le (g4 c hc).2.1 hk.size, (g4 c hc).2.2⟩, fun c hc => ⟨(g5 c hc).1, Nat.lt_of_lt_of_le (g5 c hc).2 hk.size⟩, g6, h1, h2, h3⟩
/-- Another screen. -/
theorem screen (h : ViSt w1 W vb hb rows back most first ls sv ss) (hs : Sees W W') {u : Value} {ys : List Ln} (hu : lnEl.Rd (fun c => W.heap.size ≤ c) W' u ys) : ViSt w1 W' vb hb rows back most first ls u ys := by
  obtain ⟨F, S, h1, h2, h3, h4, h5, h6⟩ := h
  exact ⟨F, fun c => W.heap.size ≤ c ∧ c < W'.heap.size, h1.sees hs, h2.sees hs, hu.mono (fun c hc h => ⟨h, hc⟩), fun c hc => ⟨(h4 c hc).1, Nat.lt_of_lt_of_le (h4 c hc).2.1 hs.size, fun e => by have := (h4 c hc).2.1; have := e.1; omega⟩, fun c hc => ⟨fun e => by have := h2.lt; have := hc.1; omega, hc.2⟩, h6⟩
theorem scroll (h : ViSt w1 W vb hb rows back most first ls sv ss) (n : Int) (k : Nat) (hk : clampV (back + max (min n 1048576) (-1048576)) ls.length = k) :
    Calls Tryd.prog 33 #[.pointer (some ⟨vb, 0, none⟩), .int .i64 n, .pointer (some ⟨hb, 0, none⟩)] W fun e w' => e = .returned (.int .i64 0) ∧ ViSt w1 w' vb hb rows k most first ls sv ss := by
  have h' := h
  have fa := h.facts
  obtain ⟨F, S, g1, g2, g3, g4, g5, g6, g7, g8, g9⟩ := h
  refine (vscroll_at g1 vb rows back n k g2 (by omega) (by omega) (by omega) hk).mono ?_
  rintro e w' ⟨rfl, hv, hk'⟩
  exact ⟨rfl, h'.turn hv hk' g7 g8 (by unfold clampV at hk; omega)⟩
theorem bottom (h : ViSt w1 W vb hb rows back most first ls sv ss) :
    Calls Tryd.prog 46 #[.pointer (some ⟨vb, 0, none⟩)] W fun e w' => e = .returned (.int .i64 0) ∧ ViSt w1 w' vb hb rows 0 most first ls sv ss := by
  have h' := h
  obtain ⟨F, S, g1, g2, g3, g4, g5, g6, g7, g8, g9⟩ := h
  refine (vbottom_at W vb rows back g2 (by omega)).mono ?_
  rintro e w' ⟨rfl, hv, hk'⟩
  exact ⟨rfl, h'.turn (back' := 0) hv hk' g7 g8 (by omega)⟩
theorem pushed (h : ViSt w1 W vb hb rows back most first ls sv ss) (n : Int) (hn : 0 ≤ n) (k : Nat) (hk : clampV (if 0 < back then back + min n 1048576 else 0) ls.length = k) :
    Calls Tryd.prog 44 #[.pointer (some ⟨vb, 0, none⟩), .int .i64 n, .pointer (some ⟨hb, 0, none⟩)] W fun e w' => e = .returned (.int .i64 0) ∧ ViSt w1 w' vb hb rows k most first ls sv ss := by
  have h' := h
  have fa := h.facts
  obtain ⟨F, S, g1, g2, g3, g4, g5, g6, g7, g8, g9⟩ := h
  have hk9 : k ≤ 1048576 := by unfold clampV at hk; omega
  by_cases hb0 : 0 < back
  · rw [if_pos hb0] at hk
    refine (vpushed_pos g1 vb rows back n k g2 (by omega) (fun c hc => (g4 c hc).1) g6 hn (by omega) (by omega) _ rfl hk).mono ?_
    rintro e w' ⟨rfl, hv, hk'⟩
    exact ⟨rfl, h'.turn hv hk' g7 g8 hk9⟩
  · rw [if_neg hb0] at hk
    refine (vpushed_zero g1 vb rows back n k g2 (by omega) (fun c hc => (g4 c hc).1) g6 hn (by omega) (by omega) (by rw [show (back : Int) = 0 by omega]; exact hk)).mono ?_
    rintro e w' ⟨rfl, hv, hk'⟩
    exact ⟨rfl, h'.turn hv hk' g7 g8 hk9⟩
theorem pushed_arg (h : ViSt w1 W vb hb rows back most first ls sv ss) (n : Int) (hn : n < 0) :
    Calls Tryd.prog 44 #[.pointer (some ⟨vb, 0, none⟩), .int .i64 n, .pointer (some ⟨hb, 0, none⟩)] W fun e w' => e = .returned (.int .i64 2) ∧ ViSt w1 w' vb hb rows back most first ls sv ss := by
  have h' := h
  obtain ⟨F, S, g1, g2, g3, g4, g5, g6, g7, g8, g9⟩ := h
  refine (vpushed_arg g1 vb rows back n g2 (by omega) hn).mono ?_
  rintro e w' ⟨rfl, hs⟩
  exact ⟨rfl, h'.sees hs⟩
theorem resize (h : ViSt w1 W vb hb rows back most first ls sv ss) (n : Nat) (h1 : 1 ≤ n) (h2 : n ≤ 1000) (k : Nat) (hk : clampV back ls.length = k) :
    Calls Tryd.prog 47 #[.pointer (some ⟨vb, 0, none⟩), .int .i64 n, .pointer (some ⟨hb, 0, none⟩)] W fun e w' => e = .returned (.int .i64 0) ∧ ViSt w1 w' vb hb n k most first ls sv ss := by
  have h' := h
  have fa := h.facts
  obtain ⟨F, S, g1, g2, g3, g4, g5, g6, g7, g8, g9⟩ := h
  refine (vresize_at g1 vb rows back n k g2 (by omega) (by omega) (by omega) hk).mono ?_
  rintro e w' ⟨rfl, hv, hk'⟩
  exact ⟨rfl, h'.turn hv hk' h1 h2 (by unfold clampV at hk; omega)⟩
theorem resize_arg (h : ViSt w1 W vb hb rows back most first ls sv ss) (n : Int) (hn : n < 1 ∨ 1000 < n) :
    Calls Tryd.prog 47 #[.pointer (some ⟨vb, 0, none⟩), .int .i64 n, .pointer (some ⟨hb, 0, none⟩)] W fun e w' => e = .returned (.int .i64 2) ∧ ViSt w1 w' vb hb rows back most first ls sv ss := by
  have h' := h
  obtain ⟨F, S, g1, g2, g3, g4, g5, g6, g7, g8, g9⟩ := h
  refine (vresize_arg g1 vb rows back n g2 (by omega) hn).mono ?_
  rintro e w' ⟨rfl, hs⟩
  exact ⟨rfl, h'.sees hs⟩
theorem back_is (h : ViSt w1 W vb hb rows back most first ls sv ss) :
    Calls Tryd.prog 42 #[.pointer (some ⟨vb, 0, none⟩)] W fun e w' => e = .returned (.int .i64 back) ∧ Sees W w' := by
  obtain ⟨F, S, g1, g2, g3, g4, g5, g6, g7, g8, g9⟩ := h
  exact vback_at W vb rows back g2 (by omega)
theorem rows_is (h : ViSt w1 W vb hb rows back most first ls sv ss) :
    Calls Tryd.prog 41 #[.pointer (some ⟨vb, 0, none⟩)] W fun e w' => e = .returned (.int .i64 rows) ∧ Sees W w' := by
  obtain ⟨F, S, g1, g2, g3, g4, g5, g6, g7, g8, g9⟩ := h
  exact vrows_at W vb rows back g2 (by omega)
theorem next_is (h : ViSt w1 W vb hb rows back most first ls sv ss) (n : Int) (hn : first + ls.length = n) :
    Calls Tryd.prog 25 #[.pointer (some ⟨hb, 0, none⟩)] W fun e w' => e = .returned (.int .i64 n) ∧ Sees W w' := by
  obtain ⟨F, S, g1, _⟩ := h
  exact g1.hiNext n hn
theorem first_is (h : ViSt w1 W vb hb rows back most first ls sv ss) :
    Calls Tryd.prog 26 #[.pointer (some ⟨hb, 0, none⟩)] W fun e w' => e = .returned (.int .i64 first) ∧ Sees W w' := by
  obtain ⟨F, S, g1, _⟩ := h
  exact g1.hiFirst
theorem all_is (h : ViSt w1 W vb hb rows back most first ls sv ss) :
    Calls Tryd.prog 19 #[.pointer (some ⟨hb, 0, none⟩)] W fun e w' => ∃ v, e = .returned v ∧ lnEl.Own (fun c => W.heap.size ≤ c) w' v ls ∧ Sees W w' := by
  obtain ⟨F, S, g1, _⟩ := h
  exact g1.all
theorem push (h : ViSt w1 W vb hb rows back most first ls sv ss) (hs : Sees W W') (ht : Tabs w1) (u : Value) (xs : List Ln) (hu : lnEl.Rd (fun c => W.heap.size ≤ c) W' u xs) (hok : ∀ l ∈ xs, lnOk l.cells = true) (hn : first + ls.length + xs.length ≤ 1000000000) (k : Nat) (hk : k = ls.length + xs.length - most.toNat) :
    Calls Tryd.prog 18 #[.pointer (some ⟨hb, 0, none⟩), u] W' fun e w' => e = .returned (.int .i64 0) ∧ ViSt w1 w' vb hb rows back most (first + k) ((ls ++ xs).drop k) sv ss := by
  obtain ⟨F, S, g1, g2, g3, g4, g5, g6⟩ := h
  refine ((g1.sees hs).push ht u xs hu (fun c hc e => by have := (g4 c e).2.1; omega) hok hn k hk).mono ?_
  rintro e w' ⟨rfl, hp, hkk⟩
  refine ⟨rfl, _, S, hp.cut, (g2.sees hs).keeps hkk (fun e => (g4 _ e).1 rfl), (g3.sees hs).keeps hkk (fun c hc e => (g4 c e).2.2 hc), fun c hc => ?_, fun c hc => ⟨(g5 c hc).1, Nat.lt_of_lt_of_le (g5 c hc).2 (Nat.le_trans hs.size hkk.size)⟩, g6⟩
  have hz := hs.size
  rcases hc.1 with e | e
  · exact ⟨(g4 c e).1, hc.2, (g4 c e).2.2⟩
  · exact ⟨fun q => by have := g2.lt; omega, hc.2, fun q => by have := (g5 c q).2; omega⟩
theorem pull (h : ViSt w1 W vb hb rows back most first ls sv ss) (n : Nat) (hn : n ≤ ls.length) (hn2 : n ≤ 1000000) :
    Calls Tryd.prog 66 #[.pointer (some ⟨hb, 0, none⟩), .int .i64 n] W fun e w' => ∃ a m c, e = .returned (.tuple #[.slice a m c, .int .i64 0]) ∧ ViSt w1 w' vb hb rows back most first (ls.take (ls.length - n)) sv ss := by
  obtain ⟨F, S, g1, g2, g3, g4, g5, g6⟩ := h
  refine (g1.pull n hn hn2).mono ?_
  rintro e w' ⟨v, F', rfl, ⟨a, c, ev, _⟩, hp, hkk, hF⟩
  refine ⟨a, _, c, by rw [ev], F', S, hp, g2.keeps hkk (fun e => (g4 _ e).1 rfl), g3.keeps hkk (fun c hc e => (g4 c e).2.2 hc), fun c hc => ⟨(g4 c (hF c hc)).1, Nat.lt_of_lt_of_le (g4 c (hF c hc)).2.1 hkk.size, (g4 c (hF c hc)).2.2⟩, fun c hc => ⟨(g5 c hc).1, Nat.lt_of_lt_of_le (g5 c hc).2 hkk.size⟩, g6⟩
theorem lines (h : ViSt w1 W vb hb rows back most first ls sv ss) (k : Nat) (hk : clampV back ls.length = k) (hn : ss.length = rows) (hnc : ∀ l ∈ ss, l.cells.length ≤ 1000000) (n : Int) (hf : first + ls.length - k = n) :
    Calls Tryd.prog 34 #[.pointer (some ⟨vb, 0, none⟩), .pointer (some ⟨hb, 0, none⟩), sv] W fun e w' => ∃ vl, e = .returned (.tuple #[vl, .int .i64 n, .int .i64 0]) ∧ lnEl.Own (fun c => W.heap.size ≤ c) w' vl ((ls.drop (ls.length - k) ++ ss).take rows) ∧ Sees W w' := by
  obtain ⟨F, S, g1, g2, g3, g4, g5, g6, g7, g8, g9⟩ := h
  rw [← hf]
  exact vlines_ok g1 vb back sv rows k g2 g7 g8 hk hn g3 hnc
theorem scr (h : ViSt w1 W vb hb rows back most first ls sv ss) : RdL (fun _ => True) W sv ss := by
  obtain ⟨F, S, g1, g2, g3, _⟩ := h
  exact (g3.mono (fun _ _ _ => trivial)).rdl
theorem start {W0 W1 : World} {F : Nat → Prop} (h : HiF w1 F W0 hb most first ls) (hv : VwAt W1 W0.heap.size rows 0) (h0 : Sees W0 W1) (h1 : 1 ≤ rows) (h2 : rows ≤ 1000) : ViSt w1 W1 W0.heap.size hb rows 0 most first ls (.slice none 0 0) [] :=
  ⟨fun c => F c ∧ c < W0.heap.size, fun _ => False, h.cut.sees h0, hv, El.Rd.nil _ _, fun c hc => ⟨by have := hc.2; omega, by have := hc.2; have := h0.size; omega, fun h => h⟩, fun _ h => h.elim, h.see.size, h1, h2, by omega⟩
/-- What is seen is what is wanted. -/
theorem seen (h : ViSt w1 W vb hb rows back most first ls sv ss) (k : Nat) (hk : clampV back ls.length = k) (hn : ss.length = rows) (hnc : ∀ l ∈ ss, l.cells.length ≤ 1000000) (n : Int) (hf : first + ls.length - k = n) (G : Nat → Prop) (u : Value) (want : List Ln) (hu : RdL G W u want) (hw : (ls.drop (ls.length - k) ++ ss).take rows = want) :
    Calls Tryd.prog 43 #[.pointer (some ⟨vb, 0, none⟩), .pointer (some ⟨hb, 0, none⟩), sv, u, .int .i64 n, .int .i64 0] W fun e w' => e = .returned (.bool true) ∧ Sees W w' := by
  have hlen := h.lines k hk hn hnc n hf
  have hc : ∀ l ∈ want, l.cells.length ≤ 1000000 := by
    rw [← hw]
    intro l hl
    rcases List.mem_append.1 (List.mem_of_mem_take hl) with hl | hl
    · obtain ⟨F, S, g1, _⟩ := h
      exact g1.lenc l (List.mem_of_mem_drop hl)
    · exact hnc l hl
  have hwl : want.length ≤ 1000000 := by
    obtain ⟨F, S, g1, g2, g3, g4, g5, g6, g7, g8, g9⟩ := h
    rw [← hw, List.length_take]; omega
  refine vsees_true _ _ _ u n 0 want G W hwl hc hu (hlen.mono ?_)
  rintro e w' ⟨vl, rfl, ho, hs⟩
  rw [hw] at ho
  exact ⟨vl, rfl, (ho.rd.mono (fun _ _ _ => trivial)).rdl, hs⟩
/-- A screen of another size is refused. -/
theorem seen_arg (h : ViSt w1 W vb hb rows back most first ls sv ss) (a : Option Addr) (n c : Nat) (hn : n ≠ rows) :
    Calls Tryd.prog 43 #[.pointer (some ⟨vb, 0, none⟩), .pointer (some ⟨hb, 0, none⟩), .slice a n c, .slice none 0 0, .int .i64 0, .int .i64 2] W fun e w' => e = .returned (.bool true) ∧ Sees W w' := by
  obtain ⟨F, S, g1, g2, g3, g4, g5, g6, g7, g8, g9⟩ := h
  exact vsees_err _ _ _ 2 W (vlines_arg g1 vb rows back a n c g2 (by omega) (by omega))
end ViSt
end
end Go.Proofs.YtpicffaghoggdaaDoor
