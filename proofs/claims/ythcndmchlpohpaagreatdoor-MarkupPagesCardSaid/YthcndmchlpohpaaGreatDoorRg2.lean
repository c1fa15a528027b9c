/- The theorem on regions that draw their order, in a form to use; and append of cells, from whatever source. No condition. -/
import Derived.Test.YthcndmchlpohpaaGreatDoorLines2
namespace Go.Proofs.YthcndmchlpohpaaGreatDoor
set_option linter.unusedVariables false
set_option linter.unusedSimpArgs false
open Go.RowKit

section
variable {P : Program} {l : List Oper} {Inv : World → Prop} {specs : List Spec}
/-- What each loose operation says stays while memory is made. -/
def allStay (Inv : World → Prop) : List Spec → Prop
  | [] => True
  | .is _ :: r => allStay Inv r
  | .so V :: r => (∀ u W W', Inv W → V u W → Sees W W' → V u W') ∧ allStay Inv r
theorem allStay_get : ∀ (specs : List Spec), allStay Inv specs → ∀ (j : Nat) V', specs[j]? = some (.so V') → ∀ u W W', Inv W → V' u W → Sees W W' → V' u W'
  | [], _, _, _, h => by cases h
  | .is x :: r, h, 0, V', hj => by cases hj
  | .so V :: r, h, 0, V', hj => by cases hj; exact h.1
  | .is x :: r, h, j + 1, V', hj => allStay_get r h j V' (by simpa using hj)
  | .so V :: r, h, j + 1, V', hj => allStay_get r h.2 j V' (by simpa using hj)
/-- What the others say stays over one step. -/
def othersStay (k : Nat) (W W' : World) : Nat → List Spec → Prop
  | _, [] => True
  | i, .is _ :: r => othersStay k W W' (i + 1) r
  | i, .so V :: r => (i = k ∨ ∀ u, V u W → V u W') ∧ othersStay k W W' (i + 1) r
theorem othersStay_get {k : Nat} {W W' : World} : ∀ (specs : List Spec) (i : Nat), othersStay k W W' i specs → ∀ (j : Nat) V', i + j ≠ k → specs[j]? = some (.so V') → ∀ u, V' u W → V' u W'
  | [], _, _, _, _, _, h => by cases h
  | .is x :: r, i, h, 0, V', _, hj => by cases hj
  | .so V :: r, i, h, 0, V', hk, hj => by
    cases hj
    rcases h.1 with e | h1
    · exact absurd e hk
    · exact h1
  | .is x :: r, i, h, j + 1, V', hk, hj => othersStay_get r (i + 1) h j V' (by omega) (by simpa using hj)
  | .so V :: r, i, h, j + 1, V', hk, hj => othersStay_get r (i + 1) h.2 j V' (by omega) (by simpa using hj)
theorem rgGood_sees {k : Nat} {V : Value → World → Prop} {W W' : World} {v : Value} (hst : allStay Inv specs) (hI0 : Inv W) (hI : Inv W') (hV : V v W') (hs : Sees W W') : rgGood Inv specs k V W v W' :=
  ⟨hI, hV, fun j V' _ hj u hu => allStay_get specs hst j V' hj u W W' hI0 hu hs⟩
theorem rgGood_turn {k : Nat} {V : Value → World → Prop} {W W' : World} {v : Value} (hI : Inv W') (hV : V v W') (ho : othersStay k W W' 0 specs) : rgGood Inv specs k V W v W' :=
  ⟨hI, hV, fun j V' hjk hj u hu => othersStay_get specs 0 ho j V' (by omega) hj u hu⟩
theorem wp_rg {id : Nat} {Q' : Exit → Act → World → Prop} {a0 : Act} {w : World} (specs : List Spec) (Inv : World → Prop) (hm : P.follows .mixedOrders = true) (hB : rgB l = true) (h0 : Inv w.drew)
    (hI : ∀ W W', Inv W → Sees W W' → Inv W') (hV : allStay Inv specs)
    (h : rgSteps P l Inv specs (fun a W => Q' .normal a W) 0 (fun _ => a0) l specs) : (Code.region id l.toArray true).wp P Q' a0 w :=
  wp_region_rg specs Inv hm hB h0 hI (allStay_get specs hV) h
end

theorem exec_append {P : Program} {ρ : Operand → Value} {o : Oper} {s x : Operand} {t t' : TypeId} {v u v' : Value} {W W' : World} (ho : o.op = .call { callee := .builtin .append, args := #[s, x], argTypes := #[t, t'] }) (hs : ρ s = v) (hx : ρ x = u)
    (hr : (Builtin.append_ #[t, t'] o.type #[v, u]).run P W = .ok v' W') : (execOp ρ o).run P W = .ok (.value v') W' := by
  unfold execOp
  simp only [ho, resolve, invoke, builtin, Sem.run_bind, Sem.run_pure, Result.andThen_ok, List.map_toArray, List.map_cons, List.map_nil, hs, hx, hr]

theorem run_append_empty {P : Program} {w : World} (base : Nat) (t ty e : TypeId) (i : TypeInfo) (size c : Nat) (ht : P.underlying t = some (.slice e)) (hi : P.info? e = some i)
    (v : Value) (n : Nat) (xs : List Value) (hown : w.ownsRow base e size v n xs) : (Builtin.append_ #[t, t] ty #[v, .slice none 0 c]).run P w = .ok v w := by
  rcases hown.2 with ⟨rfl, rfl⟩ | ⟨g, cap, cur, rfl, _, _, hnc, _⟩
  · simp [Builtin.append_, run_underlying ht, sizeOf, typeInfo, hi, Builtin.lenOf, Builtin.firstCells]
  · simp [Builtin.append_, run_underlying ht, sizeOf, typeInfo, hi, Builtin.lenOf, Builtin.firstCells, hnc, storeCells]

/-- Cells appended to nil: new memory. -/
theorem run_append_new {W : World} (ty : TypeId) (base : Nat) (u : Value) (ys : List Cell) (hrd : RdCells W u ys) (hn : ys.length ≤ 1000000000) (hb : base ≤ W.heap.size) :
    ∃ v' W', (Builtin.append_ #[25, 25] ty #[.slice none 0 0, u]).run Tryz.prog W = .ok v' W' ∧ OwnCells W' base v' ys ∧ Sees W W' := by
  have hnil : OwnCells W base (.slice none 0 0) [] := ⟨rfl, .inl ⟨rfl, rfl⟩⟩
  obtain ⟨ao, c, rfl, hh⟩ := hrd
  rcases ao with _ | ad
  · have hc : ys = [] := by
      by_cases h : ys = []
      · exact h
      · obtain ⟨b, o, e, _⟩ := hh h; cases e
    subst hc
    obtain ⟨i0, hi, hz0, hz1, hz2⟩ := info_parts infoCell
    exact ⟨_, W, run_append_empty base _ ty 42 i0 16 c Tryz.underlying25 hi _ 0 [] hnil, hnil, Sees.refl W⟩
  · obtain ⟨v', W', h1, h2, h3, _⟩ := run_append_cells ty base (.slice none 0 0) [] hnil (some ad) c ys ⟨_, _, rfl, hh⟩ (by simp) (by simpa using hn) hb
    exact ⟨v', W', h1, by simpa using h2, sees_grown (Sees.refl W) h3 (fun k hk => by cases hk)⟩
end Go.Proofs.YthcndmchlpohpaaGreatDoor
