/- Slices of data that came in, with a fact for each. No condition. -/
import Derived.Test.YthjcnhgfagefjaaDoorOpenL
namespace Go.Proofs.YthjcnhgfagefjaaDoor
set_option linter.unusedVariables false
set_option linter.unusedSimpArgs false
open Go.ChangeShapes Go.WideShapes Go.RowKit

section
variable {H : Type} {enc : TypeId × Value → H} {w : World} {base : Nat} {spare : Nat → Bool} {held : Bool}
/-- A slice that came in, of data that are known word by word, and of each a fact. -/
theorem open_el_all {α : Type} [Inhabited α] (E : El α) (Q : α → Prop) (st : TypeId) (hu : Tryd.prog.underlying st = some (.slice E.ty)) (hc : Tryd.prog.cellsOf E.ty = E.n)
    (hel : ∀ (fuel : Nat) (cs : List Value) (x : DataW H × List MemPlace), DataW.trod enc Tryd.prog w base spare held fuel E.ty cs = some x → ∃ d, E.rel (fun b => b < w.heap.size) w cs d ∧ Q d)
    {fuel : Nat} {v : Value} {x : DataW H × List MemPlace} (h : DataW.trod enc Tryd.prog w base spare held fuel st [v] = some x) : ∃ xs : List α, E.Rd (fun b => b < w.heap.size) w v xs ∧ ∀ d ∈ xs, Q d := by
  rcases Deep.open_slice hu h with ⟨h, _⟩ | ⟨a, len, cap, m, n, D, Pl, h, _, hlc, _, hm, _, hi⟩
  · cases h
    exact ⟨[], El.Rd.nil _ _, fun d hd => by cases hd⟩
  · cases h
    rw [hc] at hi
    have hlm : len ≤ m := by rw [hm]; split <;> omega
    have hn := E.n0
    have hex : ∀ i, i < len → ∃ d : α, (∃ vs, E.rel (fun b => b < w.heap.size) w vs d ∧ ∀ j u, vs[j]? = some u → w.cell? ((a.add (i * E.n)).add j) = some u) ∧ Q d := by
      intro i hil
      obtain ⟨cs', h1, h2⟩ := hi i (by omega)
      obtain ⟨d, hd, hq⟩ := hel _ _ _ h2
      obtain ⟨_, _, hat⟩ := World.cells?_some h1
      exact ⟨d, ⟨cs', hd, fun j u hj => by rw [hat j (by have := (List.getElem?_eq_some_iff.1 hj).1; rw [E.len hd] at this; exact this)]; exact hj⟩, hq⟩
    obtain ⟨f, hf⟩ := Deep.choose_lt hex
    refine ⟨(List.range len).map f, ⟨some a, cap, by simp, by simpa using hlc, fun hne => ?_⟩, fun d hd => ?_⟩
    · have h0 : 0 < len := by
        rcases Nat.eq_zero_or_pos len with h0 | h0
        · subst h0; exact absurd rfl hne
        · exact h0
      obtain ⟨⟨vs0, r0, k0⟩, _⟩ := hf 0 h0
      have hl0 := E.len r0
      have hc0 := k0 0 _ (List.getElem?_eq_getElem (by omega))
      have hsp : a.spot = none := by
        have := cell_spot hc0
        simpa [Addr.add] using this
      obtain ⟨b, o, s⟩ := a
      simp only at hsp
      subst hsp
      have hb : b < w.heap.size := by
        have := block_lt_of_cell hc0
        simpa [Addr.add] using this
      refine ⟨b, o, rfl, hb, fun i c hic => ?_⟩
      rw [List.getElem?_map] at hic
      obtain ⟨k, hk, rfl⟩ := Option.map_eq_some_iff.1 hic
      have hkl : i < len := by
        have := (List.getElem?_eq_some_iff.1 hk).1
        simpa using this
      rw [List.getElem?_range hkl] at hk
      cases hk
      obtain ⟨⟨vs, r, kk⟩, _⟩ := hf i hkl
      exact ⟨vs, r, fun j u hj => by have := kk j u hj; rw [addr_add, addr_add] at this; exact this⟩
    · obtain ⟨i, hi2, rfl⟩ := List.mem_map.1 hd
      exact (hf i (List.mem_range.1 hi2)).2
end
end Go.Proofs.YthjcnhgfagefjaaDoor
