/- Cells, lines and patches that a text writes out. No condition. -/
import Derived.Test.YtonlmlmjglaoiaaDoorDlJ
namespace Go.Proofs.YtonlmlmjglaoiaaDoor
set_option linter.unusedVariables false
set_option linter.unusedSimpArgs false
open Go.RowKit

def one45 (r : Int) : Cell := ⟨r, 0, 0, 0, 1, 0, 0, 0, 0, 0, 0, 0, 0, 0, 0, 0⟩
theorem one45_any (r : Int) (w : World) : Calls Tryd.prog 20 #[.int .i32 r] w fun e w' => e = .returned (.agg #[.int .i32 r, .int .i32 0, .int .i32 0, .int .i32 0, .int .i64 1, .int .i64 0, .int .u8 0, .int .u8 0, .int .u8 0, .int .u8 0, .int .i64 0, .int .u8 0, .int .u8 0, .int .u8 0, .int .u8 0, .int .u8 0]) ∧ Sees w w' := by
  have hw := Sees.refl w
  go_enter Tryd.func20, Tryd.ntmps20
  go_wp2
  exact bodyPost_ret (v := .agg #[.int .i32 r, .int .i32 0, .int .i32 0, .int .i32 0, .int .i64 1, .int .i64 0, .int .u8 0, .int .u8 0, .int .u8 0, .int .u8 0, .int .i64 0, .int .u8 0, .int .u8 0, .int .u8 0, .int .u8 0, .int .u8 0]) (by simp [results, Tryd.results20, go_sem]) rfl ⟨rfl, hw.alloc _⟩
section
variable {W : World} {b : Nat}
theorem rd_row_cells (cs : List Cell) (cap : Nat) (h : W.heap[b]? = some (.cells (flat cs).toArray 46 (0, 0))) (hc : cs.length ≤ cap) (hm : cap * 16 = (flat cs).length ∧ cap ≤ maxLen) : cellEl.Rd (fun _ => True) W (.slice (some ⟨b, 0, none⟩) cs.length cap) cs := by
  refine El.rowRd (base := 0) (vals := flat cs) ⟨flat_length cs, .inr ⟨b, cap, _, rfl, Nat.zero_le _, h, hc, hm.2, by show (flat cs).toArray.size = cap * 16; rw [List.size_toArray]; exact hm.1.symm, ?_⟩⟩ (fun _ _ => trivial) ?_
  · show ((flat cs).toArray.toList).take (cs.length * 16) = flat cs
    rw [← flat_length]; simp
  · have : ∀ cs : List Cell, cellEl.relIn (fun _ => True) W (flat cs) cs := by
      intro cs
      refine ⟨flat_length cs, fun i c hc => ?_⟩
      show ((flat cs).drop (i * 16)).take 16 = c.vals
      apply List.ext_getElem?
      intro j
      rw [List.getElem?_take]
      by_cases hj : j < 16
      · rw [if_pos hj, List.getElem?_drop]; exact flat_get cs i j c hc hj
      · rw [if_neg hj, List.getElem?_eq_none (by simp [Cell.vals]; omega)]
    exact this cs
theorem rd_row_line {v : Value} {soft : Bool} {cs : List Cell} (h : W.heap[b]? = some (.cells #[v, .bool soft] 27 (0, 0))) (hv : cellEl.Rd (fun _ => True) W v cs) : lnEl.Rd (fun _ => True) W (.slice (some ⟨b, 0, none⟩) 1 1) [⟨cs, soft⟩] := by
  refine ⟨some ⟨b, 0, none⟩, 1, rfl, Nat.le_refl _, fun _ => ⟨b, 0, rfl, trivial, fun i x hx => ?_⟩⟩
  rcases i with _ | i
  · cases hx
    refine ⟨_, ⟨v, rfl, hv⟩, fun j u hu => ?_⟩
    rw [cell_of_row _ _ _ _ _ _ h, Nat.zero_mul, Nat.zero_add]; simpa using hu
  · cases hx
theorem rd_row_patch {v : Value} {p : Pt} (h : W.heap[b]? = some (.cells #[.int .i64 p.row, .int .i64 p.col, v, .bool p.soft] 37 (0, 0))) (hv : cellEl.Rd (fun _ => True) W v p.cells) : ptEl.Rd (fun _ => True) W (.slice (some ⟨b, 0, none⟩) 1 1) [p] := by
  refine ⟨some ⟨b, 0, none⟩, 1, rfl, Nat.le_refl _, fun _ => ⟨b, 0, rfl, trivial, fun i x hx => ?_⟩⟩
  rcases i with _ | i
  · cases hx
    refine ⟨_, ⟨v, rfl, hv⟩, fun j u hu => ?_⟩
    rw [cell_of_row _ _ _ _ _ _ h, Nat.zero_mul, Nat.zero_add]; simpa using hu
  · cases hx
end
theorem row45_any (soft : Bool) (v : Value) (cs : List Cell) (w : World) (h : cellEl.Rd (fun _ => True) w v cs) :
    Calls Tryd.prog 23 #[.bool soft, v] w fun e w' => ∃ v', e = .returned v' ∧ lnEl.Rd (fun _ => True) w' v' [⟨cs, soft⟩] ∧ Sees w w' := by
  have H := Lib.hid h
  obtain ⟨a, c, rfl, _⟩ := h.slice'
  clear h
  have hw := Sees.refl w
  have H2 := Lib.hid (rd_row_line (heap_alloc_new w (.cells #[.slice a cs.length c, .bool soft] 27)) (H.out.sees (hw.alloc _)))
  go_enter Tryd.func23, Tryd.ntmps23
  go_wp2
  go_ret
  exact ⟨_, rfl, H2.out, hw.alloc _⟩
section
variable (F G H : Nat → Prop) (v u z : Value) (xs ys : List Ln) (w : World)
/-- The statements' questions, with their answers known. -/
theorem ofs_is (ps : List Pt) (no : Int) (t : Bool) (ht : Tabs w) (ha : lnEl.Rd F w v xs) (hb : lnEl.Rd G w u ys) (hc : ptEl.Rd H w z ps) (hn : xs.length ≤ 1000 ∧ (∀ l ∈ xs, l.cells.length ≤ 1000) ∧ ys.length ≤ 1000 ∧ ∀ l ∈ ys, l.cells.length ≤ 1000) (h : (decide (ofR xs ys = ps) && (chk xs ys == no)) = t) :
    Calls Tryd.prog 11 #[v, u, z, .int .i64 no] w fun e w' => e = .returned (.bool t) ∧ Sees w w' := by
  rw [← h]
  exact ofs_any F G H v u z xs ys w ps no ht ha hb hc (by omega) (fun l hl => by have := hn.2.1 l hl; omega) (by omega) (fun l hl => by have := hn.2.2.2 l hl; omega)
theorem applies_is (ps : List Pt) (ls : List Ln) (no : Int) (t : Bool) (ht : Tabs w) (ha : lnEl.Rd F w v xs) (hb : ptEl.Rd G w u ps) (hc : lnEl.Rd H w z ls) (hn : xs.length ≤ 1000 ∧ (∀ l ∈ xs, l.cells.length ≤ 1000) ∧ ps.length ≤ 1000 ∧ ∀ l ∈ ps, l.cells.length ≤ 1000 ∧ -9223372036854775808 ≤ l.col ∧ l.col ≤ 9223372036854775807) (h : (decide ((apR xs ps).2 = ls) && ((apR xs ps).1 == no)) = t) :
    Calls Tryd.prog 17 #[v, u, z, .int .i64 no] w fun e w' => e = .returned (.bool t) ∧ Sees w w' := by
  rw [← h]
  exact applies_any F G H v u z xs w ps ls no ht ha hb hc (by omega) (fun l hl => by have := hn.2.1 l hl; omega) (by omega) (fun l hl => by have := (hn.2.2.2 l hl).1; omega) (fun l hl => (hn.2.2.2 l hl).2)
theorem same_is (want : Bool) (no : Int) (t : Bool) (ht : Tabs w) (ha : lnEl.Rd F w v xs) (hb : lnEl.Rd G w u ys) (hn : xs.length ≤ 1000 ∧ (∀ l ∈ xs, l.cells.length ≤ 1000) ∧ ys.length ≤ 1000 ∧ ∀ l ∈ ys, l.cells.length ≤ 1000) (h : (((chk xs ys == 0) && ((ofR xs ys).length == 0)) == want && (chk xs ys == no)) = t) :
    Calls Tryd.prog 12 #[v, u, .bool want, .int .i64 no] w fun e w' => e = .returned (.bool t) ∧ Sees w w' := by
  rw [← h]
  exact sames_any F G v u xs ys w want no ht ha hb (by omega) (fun l hl => by have := hn.2.1 l hl; omega) (by omega) (fun l hl => by have := hn.2.2.2 l hl; omega)
end
end Go.Proofs.YtonlmlmjglaoiaaDoor
