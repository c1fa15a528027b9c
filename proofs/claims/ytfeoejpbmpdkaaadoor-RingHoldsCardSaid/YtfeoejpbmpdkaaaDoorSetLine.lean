/- One line of a row of lines is given anew. No condition. -/
import Derived.Test.YtfeoejpbmpdkaaaDoorRefuse
namespace Go.Proofs.YtfeoejpbmpdkaaaDoor
set_option linter.unusedVariables false
set_option linter.unusedSimpArgs false
open Go.RowKit

theorem mem_set2 {xs : List Value} {i : Nat} {a b x : Value} (h : x ∈ (xs.set i a).set (i + 1) b) : x ∈ xs ∨ x = a ∨ x = b := by
  rcases List.mem_or_eq_of_mem_set h with h | h
  · rcases List.mem_or_eq_of_mem_set h with h | h
    · exact .inl h
    · exact .inr (.inl h)
  · exact .inr (.inr h)
theorem linesIn.set {F : Nat → Prop} {w : World} {a : Value} {l : Ln} (ha : OwnCells w 0 a l.cells) (hF : ∀ g, a.ownBlock = some g → F g) : ∀ {xs : List Value} {ls : List Ln} (k : Nat), linesIn F w xs ls → (∀ g, a.ownBlock = some g → ∀ x ∈ xs, x.ownBlock ≠ some g) → k < ls.length →
    linesIn F w ((xs.set (k * 2) a).set (k * 2 + 1) (.bool l.soft)) (ls.set k l)
  | c :: b :: xs, m :: ls, 0, ⟨h1, h2, h3, h4⟩, hn, _ => ⟨ha, rfl, fun g hg => ⟨hF g hg, fun x hx => hn g hg x (List.mem_cons_of_mem _ (List.mem_cons_of_mem _ hx))⟩, h4⟩
  | c :: b :: xs, m :: ls, k + 1, ⟨h1, h2, h3, h4⟩, hn, hk => by
    rw [show (k + 1) * 2 = k * 2 + 1 + 1 by omega]
    simp only [List.set_cons_succ]
    refine ⟨h1, h2, fun g hg => ⟨(h3 g hg).1, fun x hx => ?_⟩, linesIn.set ha hF k h4 (fun g hg x hx => hn g hg x (List.mem_cons_of_mem _ (List.mem_cons_of_mem _ hx))) (by simpa using hk)⟩
    rcases mem_set2 hx with hx | rfl | rfl
    · exact (h3 g hg).2 x hx
    · intro he; exact hn g he c (List.mem_cons_self ..) hg
    · intro he; cases he
  | [], [], _, _, _, hk => absurd hk (by simp)
  | [], _ :: _, _, h, _, _ => h.elim
  | [_], [], _, h, _, _ => h.elim
  | [_], _ :: _, _, h, _, _ => h.elim
  | _ :: _ :: _, [], _, h, _, _ => h.elim

theorem OwnL.setLine {F : Nat → Prop} {W : World} {N : Nat} {g n c : Nat} {ls : List Ln} (h : OwnL (fun b => F b ∧ b < N) W (.slice (some ⟨g, 0, none⟩) n c) ls) (k : Nat) (hk : k < ls.length) (a : Value) (l : Ln) (ha : OwnCells W N a l.cells) (hN : ∀ b, N ≤ b → F b) :
    OwnL F ((W.setCell ⟨g, k * 2, none⟩ a).setCell ⟨g, k * 2 + 1, none⟩ (.bool l.soft)) (.slice (some ⟨g, 0, none⟩) n c) (ls.set k l) := by
  obtain ⟨xs, ⟨h1, h2⟩, hF, hin⟩ := h
  have hg := hF g rfl
  have hk2 : Keeps (fun b => b = g) W ((W.setCell ⟨g, k * 2, none⟩ a).setCell ⟨g, k * 2 + 1, none⟩ (.bool l.soft)) :=
    Keeps.setCell (F := fun b => b = g) (Keeps.setCell (F := fun b => b = g) (Keeps.refl _ W) (p := ⟨g, k * 2, none⟩) (fun _ => rfl) _) (p := ⟨g, k * 2 + 1, none⟩) (fun _ => rfl) _
  rcases h2 with ⟨h, _⟩ | ⟨g', cap, cur, hv, _, hr, q1, q2, q3, q4⟩
  · cases h
  cases hv
  refine ⟨(xs.set (k * 2) a).set (k * 2 + 1) (.bool l.soft), ⟨by simpa using h1, .inr ⟨g, c, (cur.setIfInBounds (k * 2) a).setIfInBounds (k * 2 + 1) (.bool l.soft), by simp, Nat.zero_le _, ?_, by simpa using q1, q2, by simpa using q3, ?_⟩⟩, fun b e => (hF b e).1, ?_⟩
  · rw [heap_setCell_same _ _ _ _ _ _ (heap_setCell_same _ _ _ _ _ _ hr)]
  · simp only [Array.toList_setIfInBounds, List.take_set, List.length_set, q4]
  · have hm := (hin.keeps hk2 (fun b hb e => hb.2 (by rw [e]; rfl)))
    refine linesIn.set ((ha.keeps hk2 (fun b hb e => ?_)).mono (Nat.zero_le _)) (fun b hb => ⟨hN b (ha.base hb).1, fun e => ?_⟩) k (hm.mono (fun b _ h => ⟨h.1.1, h.2⟩)) (fun b hb x hx e => ?_) hk
    · have := (ha.base hb).1; have := hg.2; subst e; omega
    · have := (hin.blocks x hx b e).1.1.2; have := (ha.base hb).1; omega
    · have e2 : g = b := by cases e; rfl
      have := (ha.base hb).1; have := hg.2; omega
end Go.Proofs.YtfeoejpbmpdkaaaDoor
