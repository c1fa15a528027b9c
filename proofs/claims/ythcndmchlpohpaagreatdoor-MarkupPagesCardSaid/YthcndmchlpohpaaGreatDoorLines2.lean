/- Lists of lines: reading them, with the blocks that they lie in; comparing them. Lists of lines: comparing them; the reference's copy of a line. No condition. -/
import Derived.Test.YthcndmchlpohpaaGreatDoorLine
namespace Go.Proofs.YthcndmchlpohpaaGreatDoor
set_option linter.unusedVariables false
set_option linter.unusedSimpArgs false
open Go.RowKit

/-- All blocks that were there but those of F are as they were. -/
structure Keeps (F : Nat → Prop) (w w' : World) : Prop where
  os : w'.os = w.os
  tape : w'.tape = w.tape
  output : w'.output = w.output
  size : w.heap.size ≤ w'.heap.size
  block : ∀ b, b < w.heap.size → ¬ F b → w'.heap[b]? = w.heap[b]?
namespace Keeps
variable {F G : Nat → Prop} {w W X : World}
theorem refl (F : Nat → Prop) (w : World) : Keeps F w w := ⟨rfl, rfl, rfl, Nat.le_refl _, fun _ _ _ => rfl⟩
theorem of_sees (h : Sees w W) : Keeps F w W := ⟨h.os, h.tape, h.output, h.size, fun b hb _ => h.block b hb⟩
theorem trans (h : Keeps F w W) (k : Keeps F W X) : Keeps F w X :=
  ⟨k.os.trans h.os, k.tape.trans h.tape, k.output.trans h.output, Nat.le_trans h.size k.size, fun b hb hF => (k.block b (Nat.lt_of_lt_of_le hb h.size) hF).trans (h.block b hb hF)⟩
/-- What the second step may turn: what the first may, and what is new. -/
theorem trans' (h : Keeps F w W) (k : Keeps G W X) (hG : ∀ b, b < w.heap.size → G b → F b) : Keeps F w X :=
  ⟨k.os.trans h.os, k.tape.trans h.tape, k.output.trans h.output, Nat.le_trans h.size k.size, fun b hb hF => (k.block b (Nat.lt_of_lt_of_le hb h.size) (fun hg => hF (hG b hb hg))).trans (h.block b hb hF)⟩
theorem mono (h : Keeps F w W) (hFG : ∀ b, b < w.heap.size → F b → G b) : Keeps G w W := ⟨h.os, h.tape, h.output, h.size, fun b hb hG => h.block b hb (fun hF => hG (hFG b hb hF))⟩
theorem setCell (h : Keeps F w W) {p : Addr} (hp : p.block < w.heap.size → F p.block) (u : Value) : Keeps F w (W.setCell p u) :=
  ⟨h.os, h.tape, h.output, by simpa [World.setCell] using h.size, fun b hb hF => by rw [heap_setCell_other _ _ _ _ (fun e => hF (by subst e; exact hp hb))]; exact h.block b hb hF⟩
theorem sees_end (h : Keeps F w W) (hF : ∀ b, b < w.heap.size → ¬ F b) : Sees w W := ⟨h.os, h.tape, h.output, h.size, fun b hb => h.block b hb (hF b hb)⟩
theorem cell (h : Keeps F w W) {a : Addr} {v : Value} (hF : ¬ F a.block) (hc : w.cell? a = some v) : W.cell? a = some v := by
  rw [World.cell?_of_block (w := w) (h.block a.block (block_lt_of_cell hc) hF)]; exact hc
end Keeps

/-- A slice reads as cells that lie in blocks of F. -/
def RdC (F : Nat → Prop) (w : World) (v : Value) (cs : List Cell) : Prop :=
  ∃ ao cap, v = .slice ao cs.length cap ∧ (cs ≠ [] → ∃ b o, ao = some ⟨b, o, none⟩ ∧ F b ∧ ∀ i c, cs[i]? = some c → CellAt w b (o + i * 16) c)
namespace RdC
variable {F G : Nat → Prop} {w W : World} {v : Value} {cs : List Cell}
theorem rd (h : RdC F w v cs) : RdCells w v cs := by
  obtain ⟨ao, cap, h1, h2⟩ := h
  exact ⟨ao, cap, h1, fun hne => by obtain ⟨b, o, h3, _, h4⟩ := h2 hne; exact ⟨b, o, h3, h4⟩⟩
theorem keeps (h : RdC F w v cs) (hk : Keeps G w W) (hd : ∀ b, F b → ¬ G b) : RdC F W v cs := by
  obtain ⟨ao, cap, h1, h2⟩ := h
  refine ⟨ao, cap, h1, fun hne => ?_⟩
  obtain ⟨b, o, h3, hb, h4⟩ := h2 hne
  exact ⟨b, o, h3, hb, fun i c hc j x hx => hk.cell (hd b hb) (h4 i c hc j x hx)⟩
theorem sees (h : RdC F w v cs) (hs : Sees w W) : RdC F W v cs := h.keeps (Keeps.of_sees (F := fun _ => False) hs) (fun _ _ h => h)
theorem mono (h : RdC F w v cs) (hFG : ∀ b, b < w.heap.size → F b → G b) : RdC G w v cs := by
  obtain ⟨ao, cap, h1, h2⟩ := h
  refine ⟨ao, cap, h1, fun hne => ?_⟩
  obtain ⟨b, o, h3, hb, h4⟩ := h2 hne
  obtain ⟨c, r, rfl⟩ := List.exists_cons_of_ne_nil hne
  have : b < w.heap.size := block_lt_of_cell ((h4 0 c rfl) 0 _ rfl)
  exact ⟨b, o, h3, hFG b this hb, h4⟩
end RdC
theorem OwnCells.rdc {w : World} {base : Nat} {v : Value} {cs : List Cell} (h : OwnCells w base v cs) : RdC (fun b => base ≤ b) w v cs := by
  obtain ⟨ao, cap, h1, h2⟩ := h.rd
  refine ⟨ao, cap, h1, fun hne => ?_⟩
  obtain ⟨b, o, h3, h4⟩ := h2 hne
  refine ⟨b, o, h3, ?_, h4⟩
  subst h1; subst h3
  rcases h.2 with ⟨h, _⟩ | ⟨g, cap', cur, h, hb, _⟩
  · cases h
  · cases h; exact hb

/-- A slice reads as lines; it and their cells lie in blocks of F. -/
def RdL (F : Nat → Prop) (w : World) (v : Value) (ls : List Ln) : Prop :=
  ∃ ao cap, v = .slice ao ls.length cap ∧ (ls ≠ [] → ∃ b o, ao = some ⟨b, o, none⟩ ∧ F b ∧ ∀ (i : Nat) l, ls[i]? = some l → ∃ sv, w.cell? ⟨b, o + i * 2, none⟩ = some sv ∧ w.cell? ⟨b, o + i * 2 + 1, none⟩ = some (.bool l.soft) ∧ RdC F w sv l.cells)
namespace RdL
variable {F G : Nat → Prop} {w W : World} {v : Value} {ls : List Ln}
theorem keeps (h : RdL F w v ls) (hk : Keeps G w W) (hd : ∀ b, F b → ¬ G b) : RdL F W v ls := by
  obtain ⟨ao, cap, h1, h2⟩ := h
  refine ⟨ao, cap, h1, fun hne => ?_⟩
  obtain ⟨b, o, h3, hb, h4⟩ := h2 hne
  refine ⟨b, o, h3, hb, fun i l hl => ?_⟩
  obtain ⟨sv, h5, h6, h7⟩ := h4 i l hl
  exact ⟨sv, hk.cell (hd b hb) h5, hk.cell (hd b hb) h6, h7.keeps hk hd⟩
theorem sees (h : RdL F w v ls) (hs : Sees w W) : RdL F W v ls := h.keeps (Keeps.of_sees (F := fun _ => False) hs) (fun _ _ h => h)
theorem mono (h : RdL F w v ls) (hFG : ∀ b, b < w.heap.size → F b → G b) : RdL G w v ls := by
  obtain ⟨ao, cap, h1, h2⟩ := h
  refine ⟨ao, cap, h1, fun hne => ?_⟩
  obtain ⟨b, o, h3, hb, h4⟩ := h2 hne
  obtain ⟨c, r, rfl⟩ := List.exists_cons_of_ne_nil hne
  obtain ⟨sv, h5, _, _⟩ := h4 0 c rfl
  refine ⟨b, o, h3, hFG b (block_lt_of_cell h5) hb, fun i l hl => ?_⟩
  obtain ⟨sv, h5, h6, h7⟩ := h4 i l hl
  exact ⟨sv, h5, h6, h7.mono hFG⟩
theorem nil (F : Nat → Prop) (w : World) : RdL F w (.slice none 0 0) [] := ⟨none, 0, rfl, fun h => absurd rfl h⟩
/-- The line at a place. -/
theorem line_at {ao : Option Addr} {n : Nat} {k : Nat} (h : ls ≠ [] → ∃ b o, ao = some ⟨b, o, none⟩ ∧ F b ∧ ∀ (i : Nat) l, ls[i]? = some l → ∃ sv, w.cell? ⟨b, o + i * 2, none⟩ = some sv ∧ w.cell? ⟨b, o + i * 2 + 1, none⟩ = some (.bool l.soft) ∧ RdC F w sv l.cells)
    (hn : n = ls.length) (hk : k < n) : ∃ b o l sv, ao = some ⟨b, o, none⟩ ∧ F b ∧ ls[k]? = some l ∧ w.cell? ⟨b, o + k * 2, none⟩ = some sv ∧ w.cell? ⟨b, o + k * 2 + 1, none⟩ = some (.bool l.soft) ∧ RdC F w sv l.cells := by
  obtain ⟨b, o, h1, hb, h2⟩ := h (by intro e; subst e; simp at hn; omega)
  have hl : ls[k]? = some (ls[k]'(by omega)) := List.getElem?_eq_getElem (by omega)
  obtain ⟨sv, h3, h4, h5⟩ := h2 k _ hl
  exact ⟨b, o, _, sv, h1, hb, hl, h3, h4, h5⟩
end RdL
end Go.Proofs.YthcndmchlpohpaaGreatDoor

namespace Go.Proofs.YthcndmchlpohpaaGreatDoor
set_option linter.unusedVariables false
set_option linter.unusedSimpArgs false
open Go.RowKit

end Go.Proofs.YthcndmchlpohpaaGreatDoor
