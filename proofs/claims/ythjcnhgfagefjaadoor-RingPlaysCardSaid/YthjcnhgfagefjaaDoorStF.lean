/- Lines of one's own that are changed one by one, in any footprint. No condition. -/
import Derived.Test.YthjcnhgfagefjaaDoorElO
import Derived.Test.YthjcnhgfagefjaaDoorStL
namespace Go.Proofs.YthjcnhgfagefjaaDoor
set_option linter.unusedVariables false
set_option linter.unusedSimpArgs false
open Go.RowKit

theorem ownIn_cells {w : World} : ∀ {cs : List Cell} {F : Nat → Prop} {vs : List Value}, cellEl.ownIn F w vs cs → vs = flat cs
  | [], _, vs, h => h
  | c :: cs, F, vs, ⟨F1, F2, _, _, _, h4, h5⟩ => by
    have h4 : vs.take 16 = c.vals := h4
    have h5 : vs.drop 16 = flat cs := ownIn_cells h5
    rw [← List.take_append_drop 16 vs, h4, h5]
    rfl
theorem own_cells {F : Nat → Prop} {w : World} {v : Value} {cs : List Cell} (h : cellEl.Own F w v cs) : OwnCells w 0 v cs ∧ ∀ g, v.ownBlock = some g → F g := by
  obtain ⟨vals, hr, hF, hin⟩ := h
  have := ownIn_cells hin
  subst this
  exact ⟨hr, hF⟩
theorem linesIn_of {w : World} : ∀ {ls : List Ln} {F : Nat → Prop} {vs : List Value}, lnEl.ownIn F w vs ls → linesIn F w vs ls
  | [], _, vs, h => by rw [show vs = [] from h]; trivial
  | l :: ls, F, vs, ⟨F1, F2, h1, h2, h3, ⟨v, hv, ho⟩, h5⟩ => by
    have h5 : lnEl.ownIn F2 w (vs.drop 2) ls := h5
    have hv : vs.take 2 = [v, .bool l.soft] := hv
    have ih := linesIn_of h5
    have e : vs = v :: .bool l.soft :: vs.drop 2 := by
      have := List.take_append_drop 2 vs
      rw [hv] at this
      exact this.symm
    obtain ⟨k1, k2⟩ := own_cells ho
    rw [e]
    exact ⟨k1, rfl, fun g hg => ⟨h1 g (k2 g hg), fun x hx e2 => h3 g (k2 g hg) (ih.blocks x hx g e2).1⟩, ih.mono (fun b _ h => h2 b h)⟩
theorem own_ownl {F : Nat → Prop} {w : World} {v : Value} {ls : List Ln} (h : lnEl.Own F w v ls) : OwnL F w v ls := by
  obtain ⟨vals, hr, hF, hin⟩ := h
  exact ⟨vals, hr, hF, linesIn_of hin⟩
/-- A row of lines of one's own, from the line 'k' on; what is reached is of F. -/
def StF (F : Nat → Prop) (W : World) (b : Nat) (ls : List Ln) (k : Nat) : Prop :=
  ∃ xs cur t, W.heap[b]? = some (.cells cur t (0, 0)) ∧ cur.toList.take (ls.length * 2) = xs ∧ linesIn (fun x => F x ∧ x ≠ b) W (xs.drop (k * 2)) (ls.drop k)
theorem StF.sees {F : Nat → Prop} {W W' : World} {b k : Nat} {ls : List Ln} (h : StF F W b ls k) (hs : Sees W W') : StF F W' b ls k := by
  obtain ⟨xs, cur, t, h1, h2, h4⟩ := h
  exact ⟨xs, cur, t, by rw [hs.block _ (Array.getElem?_eq_some_iff.1 h1).1]; exact h1, h2, h4.keeps (Keeps.of_sees (F := fun _ => False) hs) (fun _ _ h => h)⟩
theorem StF.of {F : Nat → Prop} {W : World} {a : Option Addr} {n c : Nat} {ls : List Ln} (h : OwnL F W (.slice a n c) ls) (h0 : ls ≠ []) : ∃ b, a = some ⟨b, 0, none⟩ ∧ StF F W b ls 0 := by
  obtain ⟨xs, ⟨h1, h2⟩, hF, h3⟩ := h
  rcases h2 with ⟨_, h2⟩ | ⟨g, cap, cur, e, _, hg, hn, _, hsz, htk⟩
  · exact absurd (List.eq_nil_of_length_eq_zero h2) h0
  · cases e
    refine ⟨g, rfl, xs, cur, _, hg, htk, ?_⟩
    simp only [Nat.zero_mul, List.drop_zero]
    exact h3.mono (fun b _ h => ⟨h.1, fun e => h.2 (by rw [e]; rfl)⟩)
theorem StF.step {F : Nat → Prop} {W : World} {b k : Nat} {ls : List Ln} (h : StF F W b ls k) {l : Ln} (hl : ls[k]? = some l) : ∃ a c, W.cell? ⟨b, k * 2, none⟩ = some (.slice a l.cells.length c) ∧ W.cell? ⟨b, k * 2 + 1, none⟩ = some (.bool l.soft) ∧ OwnCells W 0 (.slice a l.cells.length c) l.cells ∧
    (∀ g, Value.ownBlock (.slice a l.cells.length c) = some g → F g) ∧ ∀ W', Keeps (fun x => Value.ownBlock (.slice a l.cells.length c) = some x) W W' → StF F W' b ls (k + 1) := by
  obtain ⟨xs, cur, t, h1, h2, h4⟩ := h
  have hk := (List.getElem?_eq_some_iff.1 hl).1
  have hd : ls.drop k = l :: ls.drop (k + 1) := by
    rw [List.drop_eq_getElem_cons hk, (List.getElem?_eq_some_iff.1 hl).2]
  rw [hd] at h4
  have htail : xs.drop ((k + 1) * 2) = (xs.drop (k * 2)).drop 2 := by rw [List.drop_drop]; congr 1; omega
  generalize hys : xs.drop (k * 2) = ys at h4 htail
  rcases ys with _ | ⟨u, _ | ⟨v, ys⟩⟩
  · exact h4.elim
  · exact h4.elim
  obtain ⟨q1, q2, q3, q4⟩ := h4
  obtain ⟨a, c, rfl⟩ := q1.slice
  have e0 : xs[k * 2]? = some (.slice a l.cells.length c) := by
    have := congrArg (fun z => z[0]?) hys; simpa using this
  have e1 : xs[k * 2 + 1]? = some v := by
    have := congrArg (fun z => z[1]?) hys; simpa using this
  have at_ : ∀ j u, xs[j]? = some u → W.cell? ⟨b, j, none⟩ = some u := by
    intro j u hu
    rw [cell_of_row _ _ _ _ _ _ h1]
    rw [← h2, List.getElem?_take] at hu
    split at hu
    · rw [← hu]; simp
    · cases hu
  refine ⟨a, c, at_ _ _ e0, by rw [at_ _ _ e1, q2], q1, fun g hg => (q3 g hg).1.1, fun W' hk' => ⟨xs, cur, t, ?_, h2, ?_⟩⟩
  · rw [hk'.block _ (Array.getElem?_eq_some_iff.1 h1).1 (fun e => (q3 b e).1.2 rfl)]; exact h1
  · rw [htail]
    simp only [List.drop_succ_cons, List.drop_zero]
    exact ((q4.cutF (P := fun g => Value.ownBlock (.slice a l.cells.length c) ≠ some g) (fun x hx g hg e => (q3 g e).2 x hx hg)).keeps hk' (fun b hb e => hb.2 e)).mono (fun b _ h => h.1)
end Go.Proofs.YthjcnhgfagefjaaDoor
