/- The last of one's own patches gets a cell more; parts of a row, one column further. No condition. -/
import Derived.Test.YtonlmlmjglaoiaaDoorDlG
import Derived.Test.YtonlmlmjglaoiaaDoorElN
namespace Go.Proofs.YtonlmlmjglaoiaaDoor
set_option linter.unusedVariables false
set_option linter.unusedSimpArgs false
open Go.RowKit

section
variable {row : Int} {is : List Bool} {b : List Cell} {soft : Bool}
theorem parts_ne {m k : Nat} (hm : m < k) (hk : k ≤ b.length) (h : is[m]? = some true) : parts row is b soft k ≠ [] := by
  obtain ⟨p, hp, _⟩ := parts_cover (row := row) (soft := soft) k m hm hk h
  intro e; rw [e] at hp; cases hp
theorem parts_ext {k : Nat} {d : Cell} (h1 : is[k]? = some true) (hb : b[k]? = some d) (hk : k ≠ 0) (h0 : is[k - 1]? = some true) :
    ∃ l p, parts row is b soft k = l ++ [p] ∧ p.cells.length ≤ k ∧ parts row is b soft (k + 1) = l ++ [{ p with cells := p.cells ++ [d] }] := by
  have hkl := (List.getElem?_eq_some_iff.1 hb).1
  rcases List.eq_nil_or_concat (parts row is b soft k) with e | ⟨l, p, e⟩
  · exact absurd e (parts_ne (m := k - 1) (by omega) (by omega) h0)
  · rw [List.concat_eq_append] at e
    refine ⟨l, p, e, parts_cells _ _ _ _ k p (by rw [e]; simp), ?_⟩
    rw [parts, h1, hb]
    simp only
    rw [if_pos ⟨hk, h0⟩, e, extLast_snoc]
theorem parts_add {k : Nat} {d : Cell} (h1 : is[k]? = some true) (hb : b[k]? = some d) (h0 : k = 0 ∨ is[k - 1]? ≠ some true) : parts row is b soft (k + 1) = parts row is b soft k ++ [⟨row, k, [d], soft⟩] := by
  rw [parts, h1, hb]
  simp only
  rw [if_neg (by rintro ⟨h2, h3⟩; rcases h0 with h | h; exact h2 h; exact h h3)]
end
theorem ptEl_own {F : Nat → Prop} {w : World} {vs : List Value} {p : Pt} (h : ptEl.own F w vs p) : ∃ a c, vs = [.int .i64 p.row, .int .i64 p.col, .slice a p.cells.length c, .bool p.soft] ∧ p.cells.length ≤ c ∧ cellEl.Own F w (.slice a p.cells.length c) p.cells := by
  obtain ⟨v, rfl, ho⟩ := h
  have ho : cellEl.Own F w v p.cells := ho
  obtain ⟨a, c, rfl, hc⟩ := ho.slice
  exact ⟨a, c, rfl, hc, ho⟩
theorem cell_row_at {W : World} {g : Nat} {d : Cell} (hg : W.heap[g]? = some (.cells d.vals.toArray 46 (0, 0))) : ∀ (j : Nat) u, d.vals[j]? = some u → W.cell? ((⟨g, 0, none⟩ : Addr).add j) = some u := fun j u hu => El.row_cells hg j u (by simpa using hu)
theorem own_one_cell {W : World} {g : Nat} {d : Cell} (hg : W.heap[g]? = some (.cells d.vals.toArray 46 (0, 0))) : cellEl.Own (fun c => c = g) W (.slice (some ⟨g, 0, none⟩) 1 1) [d] := by
  have h1 : OwnCells W 0 (.slice (some ⟨g, 0, none⟩) 1 1) [d] := ⟨flat_length [d], .inr ⟨g, 1, _, rfl, Nat.zero_le _, hg, Nat.le_refl _, by unfold maxLen; omega, rfl, by simp [flat]; rfl⟩⟩
  exact h1.el.mono (fun c _ h => by have e := h.1; cases e; rfl)
theorem exec_buildS {P : Program} {ρ : Operand → Value} {o : Oper} {t : TypeId} {x : Operand} {a v : Value} {W W' : World} (ho : o.op = .buildSlice t 1 #[(0, x)]) (hx : ρ x = a) (h : (Instr.buildSlice t 1 #[(0, a)]).run P W = .ok v W') : (execOp ρ o).run P W = .ok (.value v) W' := by
  unfold execOp
  rw [ho]
  simp only [List.map_toArray, List.map_cons, List.map_nil, hx, Sem.run_bind, h, Result.andThen_ok]
  rfl
theorem run_buildOne (d : Cell) (W : World) : (Instr.buildSlice 25 1 #[(0, d.val)]).run Tryd.prog W = .ok (.slice (some ⟨W.heap.size, 0, none⟩) 1 1) (W.alloc (.cells d.vals.toArray 46)) := by
  unfold Cell.val; go_simp; rfl
/-- The last patch: where its cells' slice lies, and a cell appended to it. -/
theorem pt_extend {F : Nat → Prop} {W : World} {a : Option Addr} {n c : Nat} {ps : List Pt} {p : Pt} {d : Cell} (h : ptEl.Own F W (.slice a n c) (ps ++ [p])) (hF : ∀ b, F b → b < W.heap.size) (hlen : p.cells.length ≤ 1000000) :
    ∃ b a2 c2, a = some ⟨b, 0, none⟩ ∧ n = ps.length + 1 ∧ F b ∧ W.cell? ⟨b, ps.length * 4 + 2, none⟩ = some (.slice a2 p.cells.length c2) ∧ ∀ g, W.heap[g]? = some (.cells d.vals.toArray 46 (0, 0)) →
      ∃ a3 c3 W', (Builtin.append_ #[25, 25] 25 #[.slice a2 p.cells.length c2, .slice (some ⟨g, 0, none⟩) 1 1]).run Tryd.prog W = .ok (.slice a3 (p.cells ++ [d]).length c3) W' ∧ Keeps F W W' ∧ W'.cell? ⟨b, ps.length * 4 + 2, none⟩ = some (.slice a2 p.cells.length c2) ∧ W'.frozen? ⟨b, ps.length * 4 + 2, none⟩ = false ∧
        ptEl.Own (fun c => F c ∨ W.heap.size ≤ c) (W'.setCell ⟨b, ps.length * 4 + 2, none⟩ (.slice a3 (p.cells ++ [d]).length c3)) (.slice a n c) (ps ++ [{ p with cells := p.cells ++ [d] }]) := by
  have hx : (ps ++ [p])[ps.length]? = some p := by simp
  obtain ⟨b, cap, cur, Fx, Fr, vs, hv, _, hFb, hFx, hFr, hg0, hown, hvl, hvc, hback⟩ := h.focus hx
  cases hv
  obtain ⟨a2, c2, rfl, hc2, ho⟩ := ptEl_own hown
  refine ⟨b, a2, c2, rfl, by simp, hFb, by rw [cell_of_row _ _ _ _ _ _ hg0]; exact hvc 2 _ rfl, fun g hg => ?_⟩
  obtain ⟨v', W', hrun, hown', hk⟩ := El.run_append_own typedCell 25 ho ⟨g, 0, none⟩ 1 1 d.vals [d] (fun _ => False) (El.ownIn_one (E := cellEl) rfl) rfl (cell_row_at hg) (fun c hc => hF c (hFx c hc).1) (fun _ h => h.elim) (by simp; omega)
  have hob : ∀ c, (Value.slice a2 p.cells.length c2).ownBlock = some c → Fx c := fun c hc => (ho.base hc).1
  have hgb : W'.heap[b]? = some (.cells cur ptEl.ty (0, 0)) := by
    rw [hk.block _ (Array.getElem?_eq_some_iff.1 hg0).1 (fun e => (hFx b (hob b e)).2 rfl)]; exact hg0
  obtain ⟨a3, c3, rfl, _⟩ := hown'.slice
  refine ⟨a3, c3, W', hrun, hk.mono (fun c _ e => (hFx c (hob c e)).1), by rw [cell_of_row _ _ _ _ _ _ hgb]; exact hvc 2 _ rfl, frozen_of_row _ _ _ _ _ hgb, ?_⟩
  have hbl := (Array.getElem?_eq_some_iff.1 hg0).1
  have hfin := hback (fun c => c = b ∨ (Value.slice a2 p.cells.length c2).ownBlock = some c) _ _ (fun c => Fx c ∨ W.heap.size ≤ c) _ { p with cells := p.cells ++ [d] } (heap_setCell_same W' b (ps.length * 4 + 2) cur _ _ hgb) (El.turned_within (k := 2) hvc (by simp) rfl)
    (Keeps.setCell (F := fun c => c = b ∨ _) (hk.mono (fun c _ e => .inr e)) (p := ⟨b, ps.length * 4 + 2, none⟩) (fun _ => .inl rfl) _) (fun c hc h => by
      rcases h with h | h
      · exact (hFr c hc).2.1 h
      · exact (hFr c hc).2.2 (hob c h)) ⟨_, rfl, by
        refine (hown'.mono (fun c _ h => ?_)).keeps (Keeps.setCell (F := fun c => c = b) (Keeps.refl _ W') (p := ⟨b, ps.length * 4 + 2, none⟩) (fun _ => rfl) _) (fun c hc => ?_)
        · rcases h with h | h | h
          · exact .inl h
          · exact h.elim
          · exact .inr h
        · rcases hc with hc | hc
          · exact (hFx c hc).2
          · intro e; subst e; omega⟩ (fun c hc => by
      rcases hc with hc | hc
      · exact ⟨(hFx c hc).2, fun h => (hFr c h).2.2 hc⟩
      · exact ⟨fun e => by subst e; omega, fun h => by have := hF c (hFr c h).1; omega⟩)
  have hset : (ps ++ [p]).set ps.length { p with cells := p.cells ++ [d] } = ps ++ [{ p with cells := p.cells ++ [d] }] := by
    rw [List.set_append_right _ _ (Nat.le_refl _), Nat.sub_self]; rfl
  rw [hset] at hfin
  exact hfin.mono (fun c _ h => by
    rcases h with h | h | h | h
    · subst h; exact .inl hFb
    · exact .inl (hFr c h).1
    · exact .inl (hFx c h).1
    · exact .inr h)
end Go.Proofs.YtonlmlmjglaoiaaDoor
