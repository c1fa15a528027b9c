/- Lists of lines that share their cells. No condition. -/
import Derived.Test.YthjcnhgfagefjaaDoorPgF
import Derived.Test.YthjcnhgfagefjaaDoorOpenL
namespace Go.Proofs.YthjcnhgfagefjaaDoor
set_option linter.unusedVariables false
set_option linter.unusedSimpArgs false
open Go.RowKit

/-- What the values of a row of lines say. -/
def LnVals (F : Nat → Prop) (W : World) (xs : List Value) (ls : List Ln) : Prop :=
  xs.length = ls.length * 2 ∧ ∀ (i : Nat) l, ls[i]? = some l → ∃ sv, xs[i * 2]? = some sv ∧ xs[i * 2 + 1]? = some (.bool l.soft) ∧ RdC F W sv l.cells
namespace LnVals
variable {F G : Nat → Prop} {w W : World} {xs : List Value} {ls : List Ln}
theorem keeps (h : LnVals F w xs ls) (hk : Keeps G w W) (hd : ∀ b, F b → ¬ G b) : LnVals F W xs ls :=
  ⟨h.1, fun i l hl => by obtain ⟨sv, e1, e2, e3⟩ := h.2 i l hl; exact ⟨sv, e1, e2, e3.keeps hk hd⟩⟩
theorem sees (h : LnVals F w xs ls) (hs : Sees w W) : LnVals F W xs ls := h.keeps (Keeps.of_sees (F := fun _ => False) hs) (fun _ _ h => h)
theorem mono (h : LnVals F w xs ls) (hFG : ∀ b, b < w.heap.size → F b → G b) : LnVals G w xs ls :=
  ⟨h.1, fun i l hl => by obtain ⟨sv, e1, e2, e3⟩ := h.2 i l hl; exact ⟨sv, e1, e2, e3.mono hFG⟩⟩
theorem nil (F : Nat → Prop) (w : World) : LnVals F w [] [] := ⟨rfl, fun i l h => by cases h⟩
theorem snoc {v : Value} {soft : Bool} {cs : List Cell} (h : LnVals F w xs ls) (hv : RdC F w v cs) : LnVals F w (xs ++ [v, .bool soft]) (ls ++ [⟨cs, soft⟩]) := by
  refine ⟨by simp [h.1, Nat.add_mul], fun i l hl => ?_⟩
  by_cases h1 : i < ls.length
  · rw [List.getElem?_append_left h1] at hl
    obtain ⟨sv, e1, e2, e3⟩ := h.2 i l hl
    exact ⟨sv, by rw [List.getElem?_append_left (by have := h.1; omega)]; exact e1, by rw [List.getElem?_append_left (by have := h.1; omega)]; exact e2, e3⟩
  · have h2 : i = ls.length := by
      have := (List.getElem?_eq_some_iff.1 hl).1
      simp at this; omega
    subst h2
    rw [List.getElem?_append_right (Nat.le_refl _), Nat.sub_self] at hl
    cases hl
    exact ⟨v, by rw [List.getElem?_append_right (by rw [h.1]; exact Nat.le_refl _), h.1, Nat.sub_self]; rfl, by rw [List.getElem?_append_right (by rw [h.1]; omega), h.1, show ls.length * 2 + 1 - ls.length * 2 = 1 by omega]; rfl, hv⟩
theorem one (h : LnVals F w xs ls) : ∀ u ∈ xs, u.oneCell' = true := by
  intro u hu
  obtain ⟨j, hj⟩ := List.mem_iff_getElem?.1 hu
  have hjl : j < ls.length * 2 := by rw [← h.1]; exact (List.getElem?_eq_some_iff.1 hj).1
  obtain ⟨sv, e1, e2, e3⟩ := h.2 (j / 2) _ (List.getElem?_eq_getElem (show j / 2 < ls.length by omega))
  rcases Nat.mod_two_eq_zero_or_one j with hm | hm
  · rw [show j / 2 * 2 = j by omega, hj] at e1
    cases e1
    obtain ⟨_, _, rfl, _⟩ := e3
    rfl
  · rw [show j / 2 * 2 + 1 = j by omega, hj] at e2
    cases e2
    rfl
end LnVals
/-- The values that a row of lines holds. -/
theorem RdL.vals {F : Nat → Prop} {w : World} {a : Addr} {n c : Nat} {ls : List Ln} (h : RdL F w (.slice (some a) n c) ls) : ∃ xs, LnVals F w xs ls ∧ ∀ j u, xs[j]? = some u → w.cell? (a.add j) = some u := by
  obtain ⟨ao, cp, e, hh⟩ := h
  cases e
  rcases ls.eq_nil_or_concat with rfl | hne
  · exact ⟨[], LnVals.nil _ _, fun j u h => by cases h⟩
  have hne : ls ≠ [] := by obtain ⟨l, x, e⟩ := hne; rw [e]; simp
  obtain ⟨b, o, e2, hF, hl⟩ := hh hne
  cases e2
  have hin : Inhabited Value := ⟨undef⟩
  obtain ⟨f, hf⟩ := Deep.choose_lt (n := ls.length) (p := fun i sv => ∀ l, ls[i]? = some l → w.cell? ⟨b, o + i * 2, none⟩ = some sv ∧ w.cell? ⟨b, o + i * 2 + 1, none⟩ = some (.bool l.soft) ∧ RdC F w sv l.cells) (fun i hi => by
    obtain ⟨sv, h1⟩ := hl i _ (List.getElem?_eq_getElem hi)
    exact ⟨sv, fun l hl2 => by rw [List.getElem?_eq_getElem hi] at hl2; cases hl2; exact h1⟩)
  have key : ∀ (k : Nat), k ≤ ls.length → ∃ xs : List Value, xs.length = k * 2 ∧ ∀ (i : Nat) l, i < k → ls[i]? = some l → xs[i * 2]? = some (f i) ∧ xs[i * 2 + 1]? = some (.bool l.soft) := by
    intro k
    induction k with
    | zero => intro _; exact ⟨[], rfl, fun i l h => by omega⟩
    | succ k ih =>
      intro hk
      obtain ⟨xs, h1, h2⟩ := ih (by omega)
      refine ⟨xs ++ [f k, .bool (ls[k]'(by omega)).soft], by simp [h1]; omega, fun i l hi hl2 => ?_⟩
      by_cases hik : i < k
      · obtain ⟨g1, g2⟩ := h2 i l hik hl2
        exact ⟨by rw [List.getElem?_append_left (by omega)]; exact g1, by rw [List.getElem?_append_left (by omega)]; exact g2⟩
      · have : i = k := by omega
        subst this
        rw [List.getElem?_eq_getElem (by omega)] at hl2
        cases hl2
        exact ⟨by rw [List.getElem?_append_right (by omega), h1, Nat.sub_self]; rfl, by rw [List.getElem?_append_right (by omega), h1, show i * 2 + 1 - i * 2 = 1 by omega]; rfl⟩
  obtain ⟨xs, h1, h2⟩ := key ls.length (Nat.le_refl _)
  refine ⟨xs, ⟨h1, fun i l hil => ?_⟩, fun j u hj => ?_⟩
  · have hi := (List.getElem?_eq_some_iff.1 hil).1
    obtain ⟨g1, g2⟩ := h2 i l hi hil
    exact ⟨f i, g1, g2, (hf i hi l hil).2.2⟩
  · have hjl : j < ls.length * 2 := by rw [← h1]; exact (List.getElem?_eq_some_iff.1 hj).1
    have hi : j / 2 < ls.length := by omega
    obtain ⟨g1, g2⟩ := h2 (j / 2) _ hi (List.getElem?_eq_getElem hi)
    obtain ⟨k1, k2, _⟩ := hf (j / 2) hi _ (List.getElem?_eq_getElem hi)
    have hadd : (⟨b, o, none⟩ : Addr).add j = ⟨b, o + j, none⟩ := by
      unfold Addr.add; split
      · subst_vars; rfl
      · rfl
    rw [hadd]
    rcases Nat.mod_two_eq_zero_or_one j with hm | hm
    · rw [show j / 2 * 2 = j by omega] at g1 k1
      rw [g1] at hj; cases hj; exact k1
    · rw [show j / 2 * 2 + 1 = j by omega] at g2
      rw [show o + j / 2 * 2 + 1 = o + j by omega] at k2
      rw [g2] at hj; cases hj; exact k2
theorem row_sees {w W : World} {base : Nat} {e : TypeId} {size : Nat} {v : Value} {n : Nat} {xs : List Value} (h : w.ownsRow base e size v n xs) (hs : Sees w W) : W.ownsRow base e size v n xs := by
  obtain ⟨h1, h2⟩ := h
  refine ⟨h1, ?_⟩
  rcases h2 with h2 | ⟨g, cap, cur, hv, hb', hg, hr⟩
  · exact .inl h2
  · exact .inr ⟨g, cap, cur, hv, hb', by rw [hs.block g (Array.getElem?_eq_some_iff.1 hg).1]; exact hg, hr⟩
theorem row_base {w : World} {base base' : Nat} {e : TypeId} {size : Nat} {v : Value} {n : Nat} {xs : List Value} (h : w.ownsRow base e size v n xs) (hb : base' ≤ base) : w.ownsRow base' e size v n xs := by
  obtain ⟨h1, h2⟩ := h
  refine ⟨h1, ?_⟩
  rcases h2 with h2 | ⟨g, cap, cur, hv, hb', hr⟩
  · exact .inl h2
  · exact .inr ⟨g, cap, cur, hv, Nat.le_trans hb hb', hr⟩
theorem row_lo {w : World} {base : Nat} {e : TypeId} {size : Nat} {v : Value} {n : Nat} {xs : List Value} (h : w.ownsRow base e size v n xs) {g : Nat} (hg : v.ownBlock = some g) : base ≤ g := by
  rcases h.2 with ⟨rfl, _⟩ | ⟨g', cap, cur, rfl, hb', hr⟩
  · cases hg
  · cases hg; exact hb'
theorem row_cap {w : World} {base : Nat} {e : TypeId} {size : Nat} {v : Value} {n : Nat} {xs : List Value} (h : w.ownsRow base e size v n xs) : ∃ a c, v = .slice a n c ∧ n ≤ c := by
  rcases h.2 with ⟨rfl, hz⟩ | ⟨g', cap, cur, rfl, hb', _, hr, _⟩
  · exact ⟨none, 0, by rw [hz], by omega⟩
  · exact ⟨_, _, rfl, hr⟩
/-- Lines in a row of the call's own. -/
theorem rdl_own {F : Nat → Prop} {W : World} {base : Nat} {v : Value} {xs : List Value} {ls : List Ln} (h : W.ownsRow base 36 2 v ls.length xs) (hF : ∀ b, base ≤ b → F b) (hx : LnVals F W xs ls) : RdL F W v ls := by
  obtain ⟨_, h2⟩ := h
  rcases h2 with ⟨rfl, h2⟩ | ⟨g, cap, cur, rfl, hb, hg, hn, _, hsz, htk⟩
  · have : ls = [] := List.eq_nil_of_length_eq_zero h2
    subst this
    exact RdL.nil _ _
  · refine ⟨some ⟨g, 0, none⟩, cap, rfl, fun _ => ⟨g, 0, rfl, hF g hb, fun i l hl => ?_⟩⟩
    obtain ⟨sv, e1, e2, e3⟩ := hx.2 i l hl
    have at_ : ∀ j u, xs[j]? = some u → W.cell? ⟨g, 0 + j, none⟩ = some u := by
      intro j u hu
      rw [cell_of_row _ _ _ _ _ _ hg, Nat.zero_add]
      have hj := (List.getElem?_eq_some_iff.1 hu).1
      rw [← htk, List.getElem?_take, if_pos (by have := hx.1; omega)] at hu
      rw [← hu]; simp
    exact ⟨sv, at_ _ _ e1, by rw [Nat.add_assoc]; exact at_ _ _ e2, e3⟩
theorem run_append_lns {W : World} (ty : TypeId) (base : Nat) (v : Value) (n : Nat) (xs : List Value) (hown : W.ownsRow base 36 2 v n xs) (a : Addr) (m c : Nat) (news : List Value) (hl : news.length = m * 2) (hnews : ∀ j u, news[j]? = some u → W.cell? (a.add j) = some u)
    (h1 : ∀ u ∈ news, u.oneCell' = true) (hn : n + m ≤ 2000000) (hb : base ≤ W.heap.size) :
    ∃ v' W', (Builtin.append_ #[30, 30] ty #[v, .slice (some a) m c]).run Tryd.prog W = .ok v' W' ∧ W'.ownsRow base 36 2 v' (n + m) (xs ++ news) ∧ Keeps (fun b => v.ownBlock = some b) W W' := by
  obtain ⟨i0, hi, hz0, hz1, hz2⟩ := info_parts infoLine
  obtain ⟨v', W', h1, h2, h3, h4, h5⟩ := run_append_own_at (P := Tryd.prog) (w := W) base 30 ty 36 i0 _ 2 32 Tryd.underlying30 hi hz0 hz1 hz2 rfl (by decide) v n xs hown a m c news hl hnews h1 (by unfold maxLen; omega) (by omega) hb
  exact ⟨v', W', h1, h2, ⟨h3.os, h3.tape, h3.output, h3.size, fun b hb hne => h3.block b hb (fun e => hne e.symm)⟩⟩
/-- All lines appended to nil: a new row with the same lines. -/
theorem run_append_copy {F : Nat → Prop} {W : World} (ty : TypeId) (v : Value) (ls : List Ln) (h : RdL F W v ls) (hn : ls.length ≤ 1000000) :
    ∃ v' W' xs, (Builtin.append_ #[30, 30] ty #[.slice none 0 0, v]).run Tryd.prog W = .ok v' W' ∧ W'.ownsRow W.heap.size 36 2 v' ls.length xs ∧ LnVals F W' xs ls ∧ Sees W W' := by
  have hnil : W.ownsRow W.heap.size 36 2 (.slice none 0 0) 0 [] := ⟨rfl, .inl ⟨rfl, rfl⟩⟩
  obtain ⟨ao, c, rfl, hh⟩ := id h
  cases ao with
  | none =>
    have hz : ls = [] := by
      rcases ls with _ | ⟨l, ls⟩
      · rfl
      · obtain ⟨b, o, e, _⟩ := hh (by simp); cases e
    subst hz
    obtain ⟨i0, hi, hz0, hz1, hz2⟩ := info_parts infoLine
    exact ⟨.slice none 0 0, W, [], run_append_empty W.heap.size 30 ty 36 i0 2 c Tryd.underlying30 hi _ _ _ hnil, hnil, LnVals.nil _ _, Sees.refl _⟩
  | some a =>
    obtain ⟨xs, hx, hat⟩ := h.vals
    obtain ⟨v', W', h1, h2, h3⟩ := run_append_lns ty W.heap.size (.slice none 0 0) 0 [] hnil a ls.length c xs hx.1 hat hx.one (by omega) (Nat.le_refl _)
    have hs : Sees W W' := h3.sees_end (fun b hb e => by cases e)
    exact ⟨v', W', xs, h1, by simpa using h2, hx.sees hs, hs⟩

end Go.Proofs.YthjcnhgfagefjaaDoor
