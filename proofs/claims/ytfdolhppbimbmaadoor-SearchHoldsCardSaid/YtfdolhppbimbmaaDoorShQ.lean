/- SearchHolds (42): what its loops make; rows that are wrapped elsewhere, step by step. No condition. -/
import Derived.Test.YtfdolhppbimbmaaDoorShP
import Derived.Test.YtfdolhppbimbmaaDoorSsB
namespace Go.Proofs.YtfdolhppbimbmaaDoor
set_option linter.unusedVariables false
set_option linter.unusedSimpArgs false
open Go Go.RowKit

theorem wrap_fuel {c : Nat} (hc : 1 ≤ c) : ∀ {f g : Nat} {cs : List Cell}, cs.length < f → cs.length < g → wrapRows c f cs = wrapRows c g cs
  | 0, _, _, h, _ => by omega
  | _ + 1, 0, _, _, h => by omega
  | f + 1, g + 1, cs, hf, hg => by
    unfold wrapRows
    split
    · rfl
    · rename_i hl
      rw [wrap_fuel hc (f := f) (g := g) (by rw [List.length_drop]; omega) (by rw [List.length_drop]; omega)]
/-- The cells from a place on, with blanks behind them; the row that begins there. -/
def fillAt (c : Nat) (cs : List Cell) (n : Nat) : List Cell := cs.drop n ++ List.replicate c blankC
def rowAt (c : Nat) (cs : List Cell) (n : Nat) : Ln := ⟨(fillAt c cs n).take c, decide (n + c < cs.length)⟩
theorem wrap_here {c : Nat} (hc : 1 ≤ c) {cs : List Cell} {n : Nat} (hn : n ≤ cs.length) : wrapRows c (cs.length + 1) (cs.drop n) = rowAt c cs n :: (if n + c < cs.length then wrapRows c (cs.length + 1) (cs.drop (n + c)) else []) := by
  rw [wrapRows]
  by_cases h : n + c < cs.length
  · rw [if_neg (by rw [List.length_drop]; omega), if_pos h, List.drop_drop, wrap_fuel hc (g := cs.length + 1) (by rw [List.length_drop]; omega) (by rw [List.length_drop]; omega)]
    unfold rowAt fillAt
    rw [decide_eq_true h, List.take_append_of_le_length (by rw [List.length_drop]; omega)]
  · rw [if_pos (by rw [List.length_drop]; omega), if_neg h]
    unfold rowAt fillAt
    rw [decide_eq_false h, List.take_append, List.take_of_length_le (by rw [List.length_drop]; omega), List.take_replicate, List.length_drop, Nat.min_eq_left (by omega)]
/-- The rows that are still to come. -/
def restW (c : Nat) (cs : List Cell) (n : Nat) : List Ln := if n = 0 ∨ n < cs.length then wrapRows c (cs.length + 1) (cs.drop n) else []
theorem restW_start (c : Nat) (cs : List Cell) : restW c cs 0 = wrapRows c (cs.length + 1) cs := by unfold restW; rw [if_pos (.inl rfl), List.drop_zero]
theorem restW_step {c : Nat} (hc : 1 ≤ c) {cs : List Cell} {n : Nat} (h : n = 0 ∨ n < cs.length) : restW c cs n = rowAt c cs n :: restW c cs (n + c) := by
  unfold restW
  rw [if_pos h, wrap_here hc (by omega)]
  by_cases h2 : n + c < cs.length
  · rw [if_pos h2, if_pos (.inr h2)]
  · rw [if_neg h2, if_neg (by omega)]
theorem restW_end {c : Nat} {cs : List Cell} {n : Nat} (h : ¬ (n = 0 ∨ n < cs.length)) : restW c cs n = [] := by unfold restW; rw [if_neg h]
theorem fillAt_one {c : Nat} {cs : List Cell} {n k : Nat} {x : Cell} (h : cs[n + k]? = some x) : (fillAt c cs n).take (k + 1) = (fillAt c cs n).take k ++ [x] := by
  have hl := (List.getElem?_eq_some_iff.1 h).1
  have e : (fillAt c cs n)[k]? = some x := by
    unfold fillAt
    rw [List.getElem?_append_left (by rw [List.length_drop]; omega), List.getElem?_drop]
    exact h
  rw [List.take_add_one, e]; rfl
theorem fillAt_blank {c : Nat} {cs : List Cell} {n k : Nat} (h : ¬ (n + k < cs.length)) (hk : k < c) : (fillAt c cs n).take (k + 1) = (fillAt c cs n).take k ++ [blankC] := by
  have e : (fillAt c cs n)[k]? = some blankC := by
    unfold fillAt
    rw [List.getElem?_append_right (by rw [List.length_drop]; omega), List.getElem?_replicate, if_pos (by omega)]
  rw [List.take_add_one, e]; rfl
theorem segsC_here {acc : List Cell} {ls : List Ln} {i : Nat} {x : Ln} (hx : ls[i]? = some x) : segsC acc (ls.drop i) = if (!x.soft || decide (i + 1 = ls.length)) then (acc ++ x.part true) :: segsC [] (ls.drop (i + 1)) else segsC (acc ++ x.cells) (ls.drop (i + 1)) := by
  have hi := (List.getElem?_eq_some_iff.1 hx).1
  have hd : ls.drop i = x :: ls.drop (i + 1) := by
    rw [List.drop_eq_getElem_cons hi, (List.getElem?_eq_some_iff.1 hx).2]
  rw [hd, segsC]
  have he : (ls.drop (i + 1)).isEmpty = decide (i + 1 = ls.length) := by
    rw [Bool.eq_iff_iff, List.isEmpty_iff, decide_eq_true_eq, List.drop_eq_nil_iff]
    omega
  rw [he]
  cases x.soft <;> by_cases h : i + 1 = ls.length <;> simp [h]
theorem part_step {x : Ln} {L : Bool} {k : Nat} {c : Cell} (hc : x.cells[k]? = some c) : (x.part L).take (k + 1) = if L = true ∧ usedN x.cells ≤ k then (x.part L).take k else (x.part L).take k ++ [c] := by
  have hk := (List.getElem?_eq_some_iff.1 hc).1
  unfold Ln.part
  cases L
  · rw [if_neg (by simp), if_neg (by simp), List.take_add_one, hc]; rfl
  · rw [if_pos rfl]
    by_cases h : usedN x.cells ≤ k
    · rw [if_pos ⟨rfl, h⟩, List.take_take, List.take_take, Nat.min_eq_right (by omega), Nat.min_eq_right h]
    · rw [if_neg (by simp [h]), List.take_take, List.take_take, Nat.min_eq_left (by omega), Nat.min_eq_left (by omega), List.take_add_one, hc]; rfl

theorem cell_ownIn {F G : Nat → Prop} {w : World} : ∀ {xs : List Cell} {vs : List Value} {F : Nat → Prop}, cellEl.ownIn F w vs xs → cellEl.ownIn G w vs xs
  | [], _, _, h => h
  | x :: xs, vs, F, ⟨F1, F2, _, _, _, h4, h5⟩ => ⟨fun _ => False, fun _ => False, fun _ h => h.elim, fun _ h => h.elim, fun _ h => h.elim, h4, cell_ownIn (F := F) h5⟩
theorem cell_self {F : Nat → Prop} {w : World} {v : Value} {xs : List Cell} (h : cellEl.Own F w v xs) : cellEl.Own (fun b => v.ownBlock = some b) w v xs := by
  obtain ⟨vals, h1, h2, h3⟩ := h
  exact ⟨vals, h1, fun g hg => hg, cell_ownIn (F := F) h3⟩
/-- Cells that are gathered, and rows that are made. -/
structure ShI (w : World) (cs : List Cell) (os : List Ln) (vc vo : Value) (W : World) : Prop where
  c : cellEl.Own (fun b => vc.ownBlock = some b) W vc cs
  o : lnEl.Own (fun b => w.heap.size ≤ b ∧ vc.ownBlock ≠ some b) W vo os
  b : ∀ g, vc.ownBlock = some g → w.heap.size ≤ g
  s : Sees w W
namespace ShI
variable {w W W1 W2 : World} {cs : List Cell} {os : List Ln} {vc vo v : Value}
theorem start (h : Sees w W) : ShI w [] [] (.slice none 0 0) (.slice none 0 0) W := ⟨El.Own.nil _ _, El.Own.nil _ _, fun _ e => (by cases e), h⟩
theorem sees (h : ShI w cs os vc vo W) (hs : Sees W W1) : ShI w cs os vc vo W1 := ⟨h.c.sees hs, h.o.sees hs, h.b, h.s.trans hs⟩
theorem clear (h : ShI w cs os vc vo W) : ShI w [] os (.slice none 0 0) vo W := ⟨El.Own.nil _ _, h.o.mono (fun b _ hb => ⟨hb.1, fun e => (by cases e)⟩), fun _ e => (by cases e), h.s⟩
theorem addC (h : ShI w cs os vc vo W) (hs : Sees W W1) {x : Cell} (ho : cellEl.Own (fun b => vc.ownBlock = some b ∨ False ∨ W1.heap.size ≤ b) W2 v (cs ++ [x])) (hk : Keeps (fun b => vc.ownBlock = some b) W1 W2) : ShI w (cs ++ [x]) os v vo W2 := by
  have h1 := h.sees hs
  refine ⟨cell_self ho, ?_, fun g hg => ?_, El.keep_new h1.s hk h.b⟩
  · have q := h1.o.cut.keeps hk (fun b hb e => hb.1.2 e)
    refine q.mono fun b _ hb => ⟨hb.1.1, fun e => ?_⟩
    rcases (ho.base e).1 with e2 | e2 | e2
    · exact hb.1.2 e2
    · exact e2
    · have := hb.2; omega
  · rcases (ho.base hg).1 with e | e | e
    · exact h.b g e
    · exact e.elim
    · exact Nat.le_trans h1.s.size e
theorem clt (h : ShI w cs os vc vo W) {g : Nat} (hg : vc.ownBlock = some g) : g < W.heap.size := (h.c.base hg).2
theorem addO (h : ShI w cs os vc vo W) {B : Nat} (hB : w.heap.size ≤ B) (hc : ∀ g, vc.ownBlock = some g → g < B) {x : Ln} (ho : lnEl.Own (fun b => ((w.heap.size ≤ b ∧ vc.ownBlock ≠ some b) ∧ b < B) ∨ (B < b ∧ b < W.heap.size) ∨ W.heap.size ≤ b) W2 v (os ++ [x])) (hk : Keeps (fun b => vo.ownBlock = some b) W W2) : ShI w cs (os ++ [x]) vc v W2 := by
  refine ⟨h.c.keeps hk (fun b hb e => ?_), ho.mono fun b _ hb => ?_, h.b, El.keep_new h.s hk (fun g hg => (h.o.base hg).1.1)⟩
  · exact (h.o.base e).1.2 hb
  · have hsz := h.s.size
    rcases hb with hb | hb | hb
    · exact hb.1
    · exact ⟨by omega, fun e => by have := hc b e; omega⟩
    · exact ⟨by omega, fun e => by have := h.clt e; omega⟩
end ShI
end Go.Proofs.YtfdolhppbimbmaaDoor
