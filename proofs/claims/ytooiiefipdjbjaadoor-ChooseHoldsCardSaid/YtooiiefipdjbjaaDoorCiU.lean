/- Rows of one's own whose last one is no longer soft; rows before others: the plain law (41). No condition. -/
import Derived.Test.YtooiiefipdjbjaaDoorCiT
namespace Go.Proofs.YtooiiefipdjbjaaDoor
set_option linter.unusedVariables false
set_option linter.unusedSimpArgs false
open Go.RowKit Go.Shelf

theorem ln_rel_of {F : Nat → Prop} {W : World} {vs : List Value} {l : Ln} (h : lnEl.rel F W vs l) : ∃ v, vs = [v, .bool l.soft] ∧ cellEl.Rd F W v l.cells := h
theorem row_soft {base : Nat} {G : Nat → Prop} {W : World} {a : Option Addr} {m c : Nat} {bs : List Ln} (h : lnEl.Row base G W (.slice a m c) bs) (hm : 0 < m) (hGb : ∀ b, G b → b < base) :
    ∃ g x u, a = some ⟨g, 0, none⟩ ∧ base ≤ g ∧ g < W.heap.size ∧ bs[m - 1]? = some x ∧ W.cell? ⟨g, (m - 1) * 2 + 1, none⟩ = some u ∧ (∀ i, W.frozen? ⟨g, i, none⟩ = false) ∧ lnEl.Row base G (W.setCell ⟨g, (m - 1) * 2 + 1, none⟩ (.bool false)) (.slice a m c) (bs.set (m - 1) ⟨x.cells, false⟩) := by
  obtain ⟨vals, ⟨hl, hd⟩, hr⟩ := h
  have hlen : bs.length = m := by
    rcases hd with ⟨h1, h2⟩ | ⟨g, cap, cur, h1, _⟩
    · cases h1; omega
    · cases h1; rfl
  rcases hd with ⟨h1, h2⟩ | ⟨g, cap, cur, h1, hb, hg, hn, hcm, hsz, htk⟩
  · cases h1; omega
  cases h1
  have en : lnEl.n = 2 := rfl
  rw [en] at hsz htk
  obtain ⟨x, hx⟩ : ∃ x, bs[bs.length - 1]? = some x := ⟨_, List.getElem?_eq_getElem (by omega)⟩
  have hgl := (Array.getElem?_eq_some_iff.1 hg).1
  have hi : (bs.length - 1) * 2 + 1 < cur.size := by rw [hsz]; omega
  refine ⟨g, x, cur[(bs.length - 1) * 2 + 1], rfl, hb, hgl, hx, by rw [cell_of_row _ _ _ _ _ _ hg]; exact Array.getElem?_eq_getElem hi, fun i => frozen_of_row W g i _ _ hg, ?_⟩
  have hk : Keeps (fun b => b = g) W (W.setCell ⟨g, (bs.length - 1) * 2 + 1, none⟩ (.bool false)) := Keeps.setCell (F := fun b => b = g) (Keeps.refl _ W) (p := ⟨g, (bs.length - 1) * 2 + 1, none⟩) (fun _ => rfl) _
  have hls : (bs.set (bs.length - 1) ⟨x.cells, false⟩).length = bs.length := List.length_set
  refine ⟨vals.set ((bs.length - 1) * 2 + 1) (.bool false), ⟨by rw [List.length_set, hls]; exact hl, .inr ⟨g, c, _, by rw [hls], hb, heap_setCell_same W g _ _ _ (.bool false) hg, by rw [hls]; exact hn, hcm, by rw [en]; simpa using hsz, ?_⟩⟩, ?_⟩
  · rw [hls, en, ← htk, Array.toList_setIfInBounds, List.take_set]
  · refine ⟨by rw [List.length_set, hls]; exact hr.1, fun i y hy => ?_⟩
    rw [en]
    by_cases e : i = bs.length - 1
    · subst e
      rw [List.getElem?_set_self (by omega)] at hy
      cases hy
      obtain ⟨v, e1, e2⟩ := ln_rel_of (hr.2 _ x hx)
      rw [en] at e1
      have e3 : ((vals.set ((bs.length - 1) * 2 + 1) (.bool false)).drop ((bs.length - 1) * 2)).take 2 = [v, .bool false] := by
        rw [List.drop_set, if_neg (by omega), Nat.add_sub_cancel_left, List.take_set, e1]
        rfl
      rw [e3]
      exact ln_rel (e2.keeps hk (fun b hb' e => by have := hGb b hb'; omega)) false
    · rw [List.getElem?_set_ne (fun e' => e e'.symm)] at hy
      have hil := (List.getElem?_eq_some_iff.1 hy).1
      obtain ⟨v, e1, e2⟩ := ln_rel_of (hr.2 _ y hy)
      rw [en] at e1
      have e3 : ((vals.set ((bs.length - 1) * 2 + 1) (.bool false)).drop (i * 2)).take 2 = [v, .bool y.soft] := by
        rw [List.drop_set, if_neg (by omega), List.take_set, e1]
        rw [List.set_eq_of_length_le (by show 2 ≤ _; omega)]
      rw [e3]
      exact ln_rel (e2.keeps hk (fun b hb' e => by have := hGb b hb'; omega)) y.soft
/-- Rows that may stand before others. -/
structure PreOk (pre ls : List Ln) (n : Nat) : Prop where
  len : pre.length = n
  f : PreF pre ls
  ok : ∀ x ∈ pre, x.cells.length = cols ls ∧ lnOk x.cells = true
theorem preOk_nil (ls : List Ln) : PreOk [] ls 0 := ⟨rfl, ⟨fun x h => by simp at h, .inl rfl⟩, fun x h => by simp at h⟩
theorem preOk_set {bs ls : List Ln} {n : Nat} {x : Ln} (hn : bs.length = n) (h0 : 0 < n) (hx : bs[n - 1]? = some x) (h : ∀ i x, i < n → bs[i]? = some x → x.cells.length = cols ls ∧ lnOk x.cells = true) : PreOk (bs.set (n - 1) ⟨x.cells, false⟩) ls n := by
  have hall : ∀ y ∈ bs.set (n - 1) ⟨x.cells, false⟩, y.cells.length = cols ls ∧ lnOk y.cells = true := fun y hy => by
    obtain ⟨i, hi⟩ := List.mem_iff_getElem?.1 hy
    have hil := (List.getElem?_eq_some_iff.1 hi).1
    rw [List.length_set] at hil
    by_cases e : i = n - 1
    · subst e
      rw [List.getElem?_set_self (by omega)] at hi
      cases hi
      exact h (n - 1) x (by omega) hx
    · rw [List.getElem?_set_ne (fun e' => e e'.symm)] at hi
      exact h i y (by omega) hi
  refine ⟨by rw [List.length_set, hn], ⟨fun y hy => (hall y hy).1, .inr ?_⟩, hall⟩
  rw [List.length_set, hn]
  exact softAt_of (x := ⟨x.cells, false⟩) (by rw [List.getElem?_set_self (by omega)])
theorem pre_pl {pre ls : List Ln} {n : Nat} (h : PreOk pre ls n) (hM : 0 < cols ls) (first : Int) (i : Nat) : plI (pre ++ ls) (first - (n : Int)) (n * cols ls + i) = plI ls first i := by
  have e := PreF.dm h.f hM i
  rw [h.len] at e
  unfold plI
  rw [PreF.cols h.f, e.1, e.2]
  congr 1
  omega
theorem pre_sp {pre ls : List Ln} {n : Nat} (h : PreOk pre ls n) (hM : 0 < cols ls) (first kd : Int) (x y : Nat) : spansL (pre ++ ls) (first - (n : Int)) kd (n * cols ls + x) (n * cols ls + y) = spansL ls first kd x y := by
  have q := PreF.spans h.f hM first kd x y
  rw [h.len] at q
  exact q
theorem pre_ix {pre ls : List Ln} {n i : Nat} (h : PreOk pre ls n) (hi : i < ls.length * cols ls) : n * cols ls + i < (pre ++ ls).length * cols (pre ++ ls) := by
  rw [PreF.cols h.f, List.length_append, h.len, Nat.add_mul]
  omega
end Go.Proofs.YtooiiefipdjbjaaDoor
