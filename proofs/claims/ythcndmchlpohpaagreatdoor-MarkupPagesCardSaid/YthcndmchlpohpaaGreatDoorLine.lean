/- Lines: reading them, testing, copying and comparing them. The tables hold what the program's text lays. -/
import Derived.Test.YthcndmchlpohpaaGreatDoorRow4
namespace Go.Proofs.YthcndmchlpohpaaGreatDoor
set_option linter.unusedVariables false
set_option linter.unusedSimpArgs false
open Go.RowKit

/-- The cells of a row, one behind the other. -/
def flat : List Cell → List Value
  | [] => []
  | c :: r => c.vals ++ flat r
theorem flat_length : ∀ cs : List Cell, (flat cs).length = cs.length * 16
  | [] => rfl
  | c :: r => by simp [flat, flat_length r, Cell.vals]; omega
theorem flat_append : ∀ xs ys : List Cell, flat (xs ++ ys) = flat xs ++ flat ys
  | [], _ => rfl
  | c :: r, ys => by simp [flat, flat_append r ys]
theorem flat_get : ∀ (cs : List Cell) (i r : Nat) (c : Cell), cs[i]? = some c → r < 16 → (flat cs)[i * 16 + r]? = c.vals[r]?
  | [], _, _, _, h, _ => by cases h
  | d :: cs, 0, r, c, h, hr => by
    have : d = c := by simpa using h
    subst this
    rw [flat, Nat.zero_mul, Nat.zero_add, List.getElem?_append_left (by simpa [Cell.vals] using hr)]
  | d :: cs, i + 1, r, c, h, hr => by
    have ih := flat_get cs i r c (by simpa using h) hr
    rw [flat, List.getElem?_append_right (by simp [Cell.vals]; omega), ← ih]
    congr 1
    simp [Cell.vals]; omega
theorem flat_find {cs : List Cell} {j : Nat} {u : Value} (h : (flat cs)[j]? = some u) : ∃ c, cs[j / 16]? = some c ∧ c.vals[j % 16]? = some u := by
  have hj : j < cs.length * 16 := by rw [← flat_length]; exact (List.getElem?_eq_some_iff.1 h).1
  have hi : j / 16 < cs.length := by omega
  refine ⟨cs[j / 16], List.getElem?_eq_getElem hi, ?_⟩
  have := flat_get cs (j / 16) (j % 16) _ (List.getElem?_eq_getElem hi) (by omega)
  rw [← this, show j / 16 * 16 + j % 16 = j by omega]
  exact h
theorem flat_one {cs : List Cell} : ∀ u ∈ flat cs, u.oneCell' = true := by
  intro u hu
  obtain ⟨j, hj⟩ := List.mem_iff_getElem?.1 hu
  obtain ⟨c, _, h⟩ := flat_find hj
  exact vals_one c u (List.mem_iff_getElem?.2 ⟨_, h⟩)

/-- A slice of cells in memory that is new from block 'base' on. -/
def OwnCells (w : World) (base : Nat) (v : Value) (cs : List Cell) : Prop := w.ownsRow base 42 16 v cs.length (flat cs)
theorem OwnCells.rd {w : World} {base : Nat} {v : Value} {cs : List Cell} (h : OwnCells w base v cs) : RdCells w v cs := by
  obtain ⟨h1, h2⟩ := h
  rcases h2 with ⟨rfl, h2⟩ | ⟨g, cap, cur, rfl, _, hg, hn, _, hsz, htk⟩
  · have : cs = [] := List.eq_nil_of_length_eq_zero h2
    subst this
    exact ⟨none, 0, rfl, fun h => absurd rfl h⟩
  · refine ⟨some ⟨g, 0, none⟩, cap, rfl, fun _ => ⟨g, 0, rfl, fun i c hc j x hx => ?_⟩⟩
    have hi := (List.getElem?_eq_some_iff.1 hc).1
    have hj : j < 16 := by have := (List.getElem?_eq_some_iff.1 hx).1; simpa [Cell.vals] using this
    rw [cell_of_row _ _ _ _ _ _ hg, Nat.zero_add]
    have h3 := flat_get cs i j c hc hj
    rw [← htk, List.getElem?_take] at h3
    rw [if_pos (by omega)] at h3
    rw [← hx, ← h3]; simp
theorem OwnCells.sees {w W : World} {base : Nat} {v : Value} {cs : List Cell} (h : OwnCells w base v cs) (hs : Sees w W) : OwnCells W base v cs := by
  obtain ⟨h1, h2⟩ := h
  refine ⟨h1, ?_⟩
  rcases h2 with h2 | ⟨g, cap, cur, hv, hb, hg, hr⟩
  · exact .inl h2
  · exact .inr ⟨g, cap, cur, hv, hb, by rw [hs.block g (Array.getElem?_eq_some_iff.1 hg).1]; exact hg, hr⟩

theorem infoCell : (Tryz.prog.info? 42).map (fun i => (i.zero, i.size, i.bytes)) = some (some (Cell.val ⟨0, 0, 0, 0, 0, 0, 0, 0, 0, 0, 0, 0, 0, 0, 0, 0⟩), 16, 64) := by kernel_rfl
set_option maxRecDepth 100000 in
/-- What is appended to cells of the call's own. -/
theorem run_append_cells {W : World} (ty : TypeId) (base : Nat) (v : Value) (xs : List Cell) (hown : OwnCells W base v xs) (ao : Option Addr) (c : Nat) (ys : List Cell) (hrd : RdCells W (.slice ao ys.length c) ys) (hao : ao ≠ none) (hn : xs.length + ys.length ≤ 1000000000) (hb : base ≤ W.heap.size) :
    ∃ v' W', (Builtin.append_ #[25, 25] ty #[v, .slice ao ys.length c]).run Tryz.prog W = .ok v' W' ∧ OwnCells W' base v' (xs ++ ys) ∧ W.grownBy W' v.ownBlock ∧ (v' = .slice none 0 0 ↔ v = .slice none 0 0 ∧ ys.length = 0) := by
  obtain ⟨i0, hi, hz0, hz1, hz2⟩ := info_parts infoCell
  obtain ⟨ad, rfl⟩ := Option.ne_none_iff_exists'.1 hao
  obtain ⟨ao', cap', he, hcells⟩ := hrd
  cases he
  have hnews : ∀ j u, (flat ys)[j]? = some u → W.cell? (ad.add j) = some u := by
    intro j u hu
    obtain ⟨c, hc, hv⟩ := flat_find hu
    obtain ⟨b, o, he, hat⟩ := hcells (by intro e; subst e; cases hc)
    cases he
    have := hat _ c hc _ _ hv
    rw [show (⟨b, o, none⟩ : Addr).add j = ⟨b, o + j, none⟩ by unfold Addr.add; split <;> simp_all]
    rw [← this]; congr 2; omega
  have := run_append_own (P := Tryz.prog) (w := W) base 25 ty 42 i0 _ 16 64 Tryz.underlying25 hi hz0 hz1 hz2 rfl (by decide) v xs.length (flat xs) hown ad ys.length c (flat ys) (flat_length ys) hnews flat_one (by unfold maxLen; omega) (by omega) hb
  obtain ⟨v', W', h1, h2, h3, h4⟩ := this
  exact ⟨v', W', h1, by unfold OwnCells; rw [flat_append, List.length_append]; exact h2, h3, h4⟩

set_option maxRecDepth 100000 in
theorem wpList_append_cells {ops : Array Oper} {rest : List Oper} {o : Oper} {a : Act} {Q : Exit → Act → World → Prop} {w : World} (hgd : o.guard = none) (s x : Operand)
    (ho : o.op = .call { callee := .builtin .append, args := #[s, x], argTypes := #[25, 25] }) (base : Nat) (v : Value) (xs : List Cell) (hs : a.eval s = v) (hown : OwnCells w base v xs)
    (ao : Option Addr) (n c : Nat) (ys : List Cell) (hx : a.eval x = .slice ao n c) (hny : n = ys.length) (hrd : RdCells w (.slice ao n c) ys) (hao : ao ≠ none) (hn : xs.length + n ≤ 1000000000) (hb : base ≤ w.heap.size)
    (h : ∀ v' w', OwnCells w' base v' (xs ++ ys) → w.grownBy w' v.ownBlock → (v' = .slice none 0 0 ↔ v = .slice none 0 0 ∧ n = 0) → wpList Tryz.prog ops Q rest (a.put o.dst v') w') : wpList Tryz.prog ops Q (o :: rest) a w := by
  subst hny
  obtain ⟨i0, hi, hz0, hz1, hz2⟩ := info_parts infoCell
  obtain ⟨ad, rfl⟩ := Option.ne_none_iff_exists'.1 hao
  obtain ⟨ao', cap', he, hcells⟩ := hrd
  cases he
  have hnews : ∀ j u, (flat ys)[j]? = some u → w.cell? (ad.add j) = some u := by
    intro j u hu
    obtain ⟨c, hc, hv⟩ := flat_find hu
    obtain ⟨b, o, he, hat⟩ := hcells (by intro e; subst e; cases hc)
    cases he
    have := hat _ c hc _ _ hv
    rw [show (⟨b, o, none⟩ : Addr).add j = ⟨b, o + j, none⟩ by unfold Addr.add; split <;> simp_all]
    rw [← this]; congr 2; omega
  refine wpList_append_own _ hgd s x 25 ho base 42 i0 _ 16 64 Tryz.underlying25 hi hz0 hz1 hz2 rfl (by decide) v xs.length (flat xs) hs hown ad ys.length c (flat ys) hx (flat_length ys) hnews flat_one (by unfold maxLen; omega) (by omega) hb
    fun v' w' h2 h3 h4 => h v' w' ?_ h3 h4
  unfold OwnCells; rw [flat_append, List.length_append]; exact h2

/-- Behind an append to what was made since 'w'. -/
theorem sees_grown {w W W' : World} {row : Option Nat} (h : Sees w W) (hg : W.grownBy W' row) (hr : ∀ k, row = some k → w.heap.size ≤ k) : Sees w W' := Below.grown h hg h.size hr
theorem RdCells.slice {w : World} {ao : Option Addr} {n c : Nat} {cs : List Cell} (h : RdCells w (.slice ao n c) cs) : n = cs.length := by
  obtain ⟨_, _, e, _⟩ := h; cases e; rfl

theorem own_empty (w : World) : OwnCells (w.alloc (.cells #[] 42)) w.heap.size (.slice (some ⟨w.heap.size, 0, none⟩) 0 0) [] :=
  ⟨rfl, .inr ⟨w.heap.size, 0, #[], rfl, Nat.le_refl _, heap_alloc_new w _, Nat.le_refl _, by unfold maxLen; omega, rfl, rfl⟩⟩

theorem OwnCells.slice {w : World} {base : Nat} {v : Value} {cs : List Cell} (h : OwnCells w base v cs) : ∃ a c, v = .slice a cs.length c := by
  rcases h.2 with ⟨rfl, h2⟩ | ⟨g, cap, cur, rfl, _⟩
  · exact ⟨none, 0, by rw [h2]⟩
  · exact ⟨_, _, rfl⟩
theorem OwnCells.mono {w : World} {base base' : Nat} {v : Value} {cs : List Cell} (h : OwnCells w base v cs) (hb : base' ≤ base) : OwnCells w base' v cs := by
  obtain ⟨h1, h2⟩ := h
  refine ⟨h1, ?_⟩
  rcases h2 with h2 | ⟨g, cap, cur, hv, hb', hr⟩
  · exact .inl h2
  · exact .inr ⟨g, cap, cur, hv, Nat.le_trans hb hb', hr⟩
theorem OwnCells.setCell {w : World} {base : Nat} {v : Value} {cs : List Cell} (h : OwnCells w base v cs) {p : Addr} (hp : p.block < base) (u : Value) : OwnCells (w.setCell p u) base v cs := by
  obtain ⟨h1, h2⟩ := h
  refine ⟨h1, ?_⟩
  rcases h2 with h2 | ⟨g, cap, cur, hv, hb', hg, hr⟩
  · exact .inl h2
  · exact .inr ⟨g, cap, cur, hv, hb', by rw [heap_setCell_other _ _ _ _ (by omega)]; exact hg, hr⟩

/-- What 'line.Valid' answers. -/
def lnOk (cs : List Cell) : Bool := decide (cs.length ≤ 1000) && rowOk cs

set_option maxHeartbeats 1000000 in
theorem lineValid_any (v : Value) (cs : List Cell) (soft : Bool) (w : World) (ht : Tabs w) (ha : RdCells w v cs) (hn : cs.length ≤ 1000000) :
    Calls Tryz.prog 11 #[.agg #[v, .bool soft]] w fun e w' => e = .returned (.bool (lnOk cs)) ∧ Sees w w' := by
  obtain ⟨ao, ca, hv, hh⟩ := ha
  subst hv
  have Ha := Lib.hid (show RdCells w (.slice ao cs.length ca) cs from ⟨ao, ca, rfl, hh⟩)
  have Hn := Lib.hid hn
  have Ht := Lib.hid ht
  clear hh hn ht
  rcases (show cs.length ≤ 1000 ∨ 1000 < cs.length by omega) with hl | hl
  · have Hf : Hid (lnOk cs = rowOk cs) := by unfold Hid lnOk; simp [hl]
    generalize hnc : cs.length = n at *
    have Hnc := Lib.hid hnc; clear hnc
    go_enter Tryz.func11, Tryz.ntmps11
    go_wp2_with fail
    refine (row_any _ cs _ (Ht.out.sees ((Sees.refl w).alloc _)) (Ha.out.sees ((Sees.refl w).alloc _)) (by rw [Hnc.out]; exact Hn.out)).mono ?_
    rintro e w1 ⟨rfl, hs⟩
    go_wp2
    go_ret
    exact ⟨by rw [Hf.out]; rfl, ((Sees.refl w).alloc _).trans hs⟩
  · have Hf : Hid (lnOk cs = false) := by unfold Hid lnOk; rw [decide_eq_false (by omega)]; rfl
    generalize hnc : cs.length = n at *
    have Hnc := Lib.hid hnc; clear hnc
    go_enter Tryz.func11, Tryz.ntmps11
    go_wp2
    go_ret
    exact ⟨by rw [Hf.out]; rfl, (Sees.refl w).alloc _⟩

/-- Lines: their cells, and whether they are soft. -/
structure Ln where
  cells : List Cell
  soft : Bool
  deriving DecidableEq

end Go.Proofs.YthcndmchlpohpaaGreatDoor
