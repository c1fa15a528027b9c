/- What a world keeps while a call only makes memory ('Sees'), and one walk of a region that draws its order, over that class of worlds. No condition. -/
import Derived.Test.YthcndmchlpohpaaGreatDoorRows
import Derived.WalkKit
import Derived.WalkSpells
import Derived.WalkLawsBesides
import Derived.Lib.Hide
import Derived.Deep.Quiet
namespace Go.Proofs.YthcndmchlpohpaaGreatDoor
set_option linter.unusedVariables false
set_option linter.unusedSimpArgs false
open Go.RowKit

/-- All blocks that were there in 'w' are as they were: 'W' has draws and new blocks besides. -/
def Sees (w W : World) : Prop := Below w.heap.size w W

namespace Sees
variable {w W X : World}
theorem refl (w : World) : Sees w w := Below.refl _ _
theorem below (h : Sees w W) : Below w.heap.size w W := h
theorem size (h : Sees w W) : w.heap.size ≤ W.heap.size := Below.size h
theorem trans (h : Sees w W) (k : Sees W X) : Sees w X := Below.trans h (Below.mono k h.size)
theorem alloc (h : Sees w W) (o : Obj) : Sees w (W.alloc o) := Below.alloc h h.size o
theorem drew (h : Sees w W) : Sees w W.drew := Below.drew h
theorem setCell (h : Sees w W) {p : Addr} (hp : w.heap.size ≤ p.block) (u : Value) : Sees w (W.setCell p u) := Below.setCell h hp u
theorem cells (h : Sees w W) : ∀ b o, b < w.heap.size → W.cell? ⟨b, o, none⟩ = w.cell? ⟨b, o, none⟩ := fun b o hb => Below.cell h (p := ⟨b, o, none⟩) hb
theorem frozens (h : Sees w W) : ∀ b o, b < w.heap.size → W.frozen? ⟨b, o, none⟩ = w.frozen? ⟨b, o, none⟩ := fun b o hb => Below.frozen h (p := ⟨b, o, none⟩) hb
theorem block (h : Sees w W) : ∀ b, b < w.heap.size → W.heap[b]? = w.heap[b]? := fun b hb => Below.block h b hb
theorem cell (h : Sees w W) {a : Addr} {v : Value} (hc : w.cell? a = some v) : W.cell? a = some v := by
  rw [Below.cell h (p := a) (block_lt_of_cell hc)]; exact hc
end Sees

section
variable {P : Program} {ops : Array Oper} {C : World → Prop} {Q : Act → Prop} {a : Act} {o : Oper} {rest : List Oper}
theorem wpQuiet_val (h : ∀ K : Act → Prop, (∀ a, wpQuiet P ops C Q rest a → K a) → Region.wanted o (yielded ops a.tmps) = true ∧ ∃ v, (∀ W, C W → (execOp a.eval o).run P W = .ok (.value v) W) ∧ K (a.put o.dst v)) : wpQuiet P ops C Q (o :: rest) a :=
  wpQuiet_step fun K hK => by
    obtain ⟨h1, v, h2, h3⟩ := h K hK
    rw [if_pos h1]
    exact ⟨v, fun W hW => by unfold Oper.quietAt; rw [h2 W hW]; exact ⟨rfl, rfl⟩, h3⟩
theorem wpQuiet_enter (f : FuncId) (args : Array Value) (h : ∀ K : Act → Prop, (∀ a, wpQuiet P ops C Q rest a → K a) → Region.wanted o (yielded ops a.tmps) = true ∧ (∀ W, C W → (execOp a.eval o).run P W = .ok (.enter f args) W) ∧
    ∃ v, (∀ W, C W → Calls P f args W (fun e w'' => e = .returned v ∧ C w'')) ∧ K (a.put o.dst v)) : wpQuiet P ops C Q (o :: rest) a :=
  wpQuiet_step fun K hK => by
    obtain ⟨h1, h2, v, h4, h3⟩ := h K hK
    rw [if_pos h1]
    exact ⟨v, fun W hW => by unfold Oper.quietAt; rw [h2 W hW]; exact ⟨rfl, h4 W hW⟩, h3⟩
theorem wpQuiet_off (h : ∀ K : Act → Prop, (∀ a, wpQuiet P ops C Q rest a → K a) → Region.wanted o (yielded ops a.tmps) = false ∧ K (a.put o.dst undef)) : wpQuiet P ops C Q (o :: rest) a :=
  wpQuiet_step fun K hK => by
    obtain ⟨h1, h3⟩ := h K hK
    rw [if_neg (by simp [h1])]
    exact h3
theorem wp_region_sees {id : Nat} {Q : Exit → Act → World → Prop} {w : World} {l : List Oper} (hm : P.follows .mixedOrders = true) (hB : Region.lexB .any l.toArray = true)
    (h : wpQuiet P l.toArray (Sees w) (fun a' => ∀ w', Sees w w' → Q .normal a' w') l a) : (Code.region id l.toArray true).wp P Q a w :=
  wp_region_quiet hm hB (Sees.refl _).drew h
/-- The world as it stands, under one name. -/
theorem wp_world {c : Code} {Q : Exit → Act → World → Prop} {W0 : World} (h : ∀ w1, w1 = W0 → c.wp P Q a w1) : c.wp P Q a W0 := h _ rfl
theorem calls_world {f : FuncId} {args : Array Value} {R : Ending → World → Prop} {W0 : World} (h : ∀ w1, w1 = W0 → Calls P f args w1 R) : Calls P f args W0 R := h _ rfl
end

theorem ret_bool {a b : Bool} (h : a = b) : Ending.returned (.bool a) = .returned (.bool b) := by rw [h]
theorem ret_int {k : IntKind} {a b : Int} (h : a = b) : Ending.returned (.int k a) = .returned (.int k b) := by rw [h]
end Go.Proofs.YthcndmchlpohpaaGreatDoor
