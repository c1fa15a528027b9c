/- One datum of a slice of the call's own is turned inside: a cell of a line, a line's soft mark, a cell's rune. No condition. -/
import Derived.Test.YtonlmlmjglaoiaaDoorElM
namespace Go.Proofs.YtonlmlmjglaoiaaDoor
set_option linter.unusedVariables false
set_option linter.unusedSimpArgs false
open Go.RowKit

namespace El
variable {α : Type} {E : El α} {F G : Nat → Prop} {w W : World} {v : Value} {xs : List α}
/-- The datum's own words stay; what they reach is turned. -/
theorem Own.inner (h : E.Own F w v xs) {i : Nat} {x : α} (hx : xs[i]? = some x) : ∃ (b cap : Nat) (Fx : Nat → Prop) (vs : List Value), v = .slice (some ⟨b, 0, none⟩) xs.length cap ∧ xs.length ≤ cap ∧ F b ∧ (∀ c, Fx c → F c ∧ c ≠ b) ∧ E.own Fx w vs x ∧ vs.length = E.n ∧
    (∀ (j : Nat) u, vs[j]? = some u → w.cell? ⟨b, i * E.n + j, none⟩ = some u) ∧ (∀ j, w.frozen? ⟨b, j, none⟩ = false) ∧
    ∀ (Z : Nat → Prop) (W' : World) (x' : α), Keeps Z w W' → (∀ c, Z c → Fx c) → E.own Fx W' vs x' → E.Own F W' v (xs.set i x') := by
  obtain ⟨b, cap, cur, Fx, Fr, vs, hv, hc, hFb, hFx, hFr, hg, hown, hvl, hvc, hback⟩ := h.focus hx
  refine ⟨b, cap, Fx, vs, hv, hc, hFb, hFx, hown, hvl, fun j u hu => by rw [cell_of_row _ _ _ _ _ _ hg]; exact hvc j u hu, fun j => frozen_of_row _ _ _ _ _ hg, fun Z W' x' hk hZ ho => ?_⟩
  refine (hback Z W' cur Fx vs x' ?_ (turned_same hvc) hk (fun c hc hz => (hFr c hc).2.2 (hZ c hz)) ho (fun c hc => ⟨(hFx c hc).2, fun h => (hFr c h).2.2 hc⟩)).mono ?_
  · rw [hk.block _ (Array.getElem?_eq_some_iff.1 hg).1 (fun hz => (hFx b (hZ b hz)).2 rfl)]; exact hg
  · rintro c _ (h | h | h)
    · subst h; exact hFb
    · exact (hFr c h).1
    · exact (hFx c h).1
/-- One of the datum's own words is turned. -/
theorem Own.word (h : E.Own F w v xs) {i : Nat} {x : α} (hx : xs[i]? = some x) : ∃ (b cap : Nat) (Fx : Nat → Prop) (vs : List Value), v = .slice (some ⟨b, 0, none⟩) xs.length cap ∧ F b ∧ E.own Fx w vs x ∧ (∀ c, Fx c → F c ∧ c ≠ b) ∧
    (∀ (j : Nat) u, vs[j]? = some u → w.cell? ⟨b, i * E.n + j, none⟩ = some u) ∧ (∀ j, w.frozen? ⟨b, j, none⟩ = false) ∧
    ∀ (k : Nat) (u : Value) (x' : α), k < vs.length → E.own Fx (w.setCell ⟨b, i * E.n + k, none⟩ u) (vs.set k u) x' → E.Own F (w.setCell ⟨b, i * E.n + k, none⟩ u) v (xs.set i x') := by
  obtain ⟨b, cap, cur, Fx, Fr, vs, hv, hc, hFb, hFx, hFr, hg, hown, hvl, hvc, hback⟩ := h.focus hx
  refine ⟨b, cap, Fx, vs, hv, hFb, hown, hFx, fun j u hu => by rw [cell_of_row _ _ _ _ _ _ hg]; exact hvc j u hu, fun j => frozen_of_row _ _ _ _ _ hg, fun k u x' hk ho => ?_⟩
  refine (hback (fun c => c = b) _ _ Fx _ x' (heap_setCell_same w b (i * E.n + k) cur _ u hg) (turned_within hvc hk rfl) (Keeps.setCell (F := fun c => c = b) (Keeps.refl _ w) (p := ⟨b, i * E.n + k, none⟩) (fun _ => rfl) _) (fun c hc => (hFr c hc).2.1) ho (fun c hc => ⟨(hFx c hc).2, fun h => (hFr c h).2.2 hc⟩)).mono ?_
  rintro c _ (h | h | h)
  · subst h; exact hFb
  · exact (hFr c h).1
  · exact (hFx c h).1
end El
section
variable {F G : Nat → Prop} {w W : World} {v : Value}
/-- A cell's rune is stored. -/
theorem own_rune {a : Option Addr} {n c : Nat} {cs : List Cell} (h : cellEl.Own F W (.slice a n c) cs) {k : Nat} (hk : k < n) (r : Int) : ∃ g x, a = some ⟨g, 0, none⟩ ∧ F g ∧ n = cs.length ∧ n ≤ c ∧ cs[k]? = some x ∧ W.cell? ⟨g, k * 16, none⟩ = some (.int .i32 x.rune) ∧ W.frozen? ⟨g, k * 16, none⟩ = false ∧
    cellEl.Own F (W.setCell ⟨g, k * 16, none⟩ (.int .i32 r)) (.slice a n c) (cs.set k { x with rune := r }) := by
  obtain ⟨_, _, e, e2⟩ := h.slice
  cases e
  obtain ⟨x, hx⟩ : ∃ x, cs[k]? = some x := ⟨_, List.getElem?_eq_getElem hk⟩
  obtain ⟨b, cap, Fx, vs, hv, hFb, hown, hFx, hat, hfr, hback⟩ := h.word hx
  cases hv
  have e1 : vs = x.vals := hown
  subst e1
  exact ⟨b, x, rfl, hFb, rfl, e2, hx, hat 0 _ rfl, hfr _, hback 0 (.int .i32 r) { x with rune := r } (by simp [Cell.vals]) rfl⟩
section
variable {α β : Type} {E : El α} {ty : TypeId} {n : Nat} {items : β → List α} {pre post : β → List Value} {h0 : 0 < n} {h1 : ∀ x, (pre x).length + 1 + (post x).length = n} {h2 : ∀ x, ∀ v ∈ pre x ++ post x, v.oneCell' = true}
/-- A struct that holds a slice of its own: what the slice holds is turned. -/
theorem and_inner {xs : List β} (h : (sliceAnd E ty n items pre post h0 h1 h2).Own F w v xs) {i : Nat} {x : β} (hx : xs[i]? = some x) : ∃ (b cap : Nat) (Fx : Nat → Prop) (sv : Value), v = .slice (some ⟨b, 0, none⟩) xs.length cap ∧ xs.length ≤ cap ∧ F b ∧ (∀ c, Fx c → F c ∧ c ≠ b) ∧ E.Own Fx w sv (items x) ∧
    (∀ (j : Nat) u, (pre x ++ sv :: post x)[j]? = some u → w.cell? ⟨b, i * n + j, none⟩ = some u) ∧
    ∀ (Z : Nat → Prop) (W' : World) (x' : β), Keeps Z w W' → (∀ c, Z c → Fx c) → E.Own Fx W' sv (items x') → pre x' = pre x → post x' = post x → (sliceAnd E ty n items pre post h0 h1 h2).Own F W' v (xs.set i x') := by
  obtain ⟨b, cap, Fx, vs, hv, hc, hFb, hFx, ⟨sv, rfl, hown⟩, hvl, hat, _, hback⟩ := h.inner hx
  exact ⟨b, cap, Fx, sv, hv, hc, hFb, hFx, hown, hat, fun Z W' x' hk hZ ho e1 e2 => hback Z W' x' hk hZ ⟨sv, by rw [e1, e2], ho⟩⟩
end
/-- A line of one's own, at a place. -/
theorem own_line {a : Option Addr} {n c : Nat} {ls : List Ln} (h : lnEl.Own F W (.slice a n c) ls) {i : Nat} {l : Ln} (hl : ls[i]? = some l) : ∃ b a2 c2, a = some ⟨b, 0, none⟩ ∧ F b ∧ n = ls.length ∧ n ≤ c ∧ l.cells.length ≤ c2 ∧ W.cell? ⟨b, i * 2, none⟩ = some (.slice a2 l.cells.length c2) ∧ W.cell? ⟨b, i * 2 + 1, none⟩ = some (.bool l.soft) ∧
    cellEl.Own F W (.slice a2 l.cells.length c2) l.cells ∧
    (∀ s, W.frozen? ⟨b, i * 2 + 1, none⟩ = false ∧ lnEl.Own F (W.setCell ⟨b, i * 2 + 1, none⟩ (.bool s)) (.slice a n c) (ls.set i ⟨l.cells, s⟩)) ∧
    (∀ k, k < l.cells.length → ∃ g, a2 = some ⟨g, 0, none⟩ ∧ F g ∧ g ≠ b ∧
      (∀ d : Cell, ∃ W', (Instr.storeAt 46 (.pointer (some ⟨g, k * 16, none⟩)) d.val).run Tryd.prog W = .ok () W' ∧ lnEl.Own F W' (.slice a n c) (ls.set i ⟨l.cells.set k d, l.soft⟩) ∧ Keeps (fun c => c = g) W W') ∧
      (∀ r : Int, ∃ x, l.cells[k]? = some x ∧ W.cell? ⟨g, k * 16, none⟩ = some (.int .i32 x.rune) ∧ W.frozen? ⟨g, k * 16, none⟩ = false ∧ lnEl.Own F (W.setCell ⟨g, k * 16, none⟩ (.int .i32 r)) (.slice a n c) (ls.set i ⟨l.cells.set k { x with rune := r }, l.soft⟩))) := by
  have hw := h
  obtain ⟨b, cap, Fx, sv, hv, hcap, hFb, hFx, hown, hat, hback⟩ := and_inner (E := cellEl) h hl
  cases hv
  have hat : ∀ (j : Nat) u, ([] ++ sv :: [.bool l.soft])[j]? = some u → W.cell? ⟨b, i * 2 + j, none⟩ = some u := hat
  have hown : cellEl.Own Fx W sv l.cells := hown
  obtain ⟨a2, c2, rfl, hc2⟩ := hown.slice
  refine ⟨b, a2, c2, rfl, hFb, rfl, hcap, hc2, hat 0 _ rfl, hat 1 _ rfl, hown.mono (fun c _ h => (hFx c h).1), fun s => ?_, fun k hk => ?_⟩
  · obtain ⟨b', cap', Fx', vs, hv, _, ⟨sv', rfl, ho⟩, hFx', _, hfr, hbk⟩ := hw.word hl
    cases hv
    refine ⟨hfr _, hbk 1 (.bool s) ⟨l.cells, s⟩ (by simp) ⟨sv', rfl, ?_⟩⟩
    exact El.Own.keeps ho (Keeps.setCell (F := fun c => c = b) (Keeps.refl _ W) (p := ⟨b, i * 2 + 1, none⟩) (fun _ => rfl) _) (fun c hc => (hFx' c hc).2)
  · obtain ⟨g, x, rfl, hFg, _, _, hx, hcx, hfx, _⟩ := own_rune hown hk 0
    refine ⟨g, rfl, (hFx g hFg).1, (hFx g hFg).2, fun d => ?_, fun r => ?_⟩
    · obtain ⟨g', W', e, _, _, hrun, ho, hkp⟩ := own_store_cell hown hk d
      cases e
      exact ⟨W', hrun, hback (fun c => c = g) W' ⟨l.cells.set k d, l.soft⟩ hkp (fun c e => by subst e; exact hFg) ho rfl rfl, hkp⟩
    · obtain ⟨g', x', e, _, _, _, hx', hc', hf', ho⟩ := own_rune hown hk r
      cases e
      exact ⟨x', hx', hc', hf', hback (fun c => c = g) _ ⟨l.cells.set k { x' with rune := r }, l.soft⟩ (Keeps.setCell (F := fun c => c = g) (Keeps.refl _ W) (p := ⟨g, k * 16, none⟩) (fun _ => rfl) _) (fun c e => by subst e; exact hFg) ho rfl rfl⟩
end
end Go.Proofs.YtonlmlmjglaoiaaDoor
