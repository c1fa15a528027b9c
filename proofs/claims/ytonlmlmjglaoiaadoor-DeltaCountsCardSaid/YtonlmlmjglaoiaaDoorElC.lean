/- Cells of the call's own: copied into. No condition. -/
import Derived.Test.YtonlmlmjglaoiaaDoorElF
import Derived.Test.YtonlmlmjglaoiaaDoorDlR
namespace Go.Proofs.YtonlmlmjglaoiaaDoor
set_option linter.unusedVariables false
set_option linter.unusedSimpArgs false
open Go.RowKit

section
variable {F G : Nat → Prop} {w W : World} {v : Value}
theorem ownIn_flat : ∀ {cs : List Cell} {F : Nat → Prop} {vals : List Value}, cellEl.ownIn F w vals cs → vals = flat cs
  | [], _, vals, h => h
  | c :: r, F, vals, ⟨F1, F2, _, _, _, h4, h5⟩ => by
    have h1 : vals.take 16 = c.vals := h4
    have h2 : vals.drop 16 = flat r := ownIn_flat h5
    rw [flat, ← h1, ← h2, List.take_append_drop]
theorem relIn_flat {cs : List Cell} : ∀ {vals : List Value}, cellEl.relIn F w vals cs → vals = flat cs := by
  induction cs with
  | nil => intro vals h; exact List.eq_nil_of_length_eq_zero (by have := h.1; simpa using this)
  | cons c r ih =>
    intro vals h
    have h1 : (vals.drop (0 * 16)).take 16 = c.vals := h.2 0 c rfl
    rw [Nat.zero_mul, List.drop_zero] at h1
    have h2 : vals.drop 16 = flat r := ih ⟨by have := h.1; simp [cellEl] at this ⊢; omega, fun i x hx => by
      have := h.2 (i + 1) x (by simpa using hx)
      have e : (i + 1) * cellEl.n = cellEl.n + i * cellEl.n := by rw [Nat.add_mul, Nat.one_mul, Nat.add_comm]
      rw [e, ← List.drop_drop] at this
      exact this⟩
    rw [flat, ← h1, ← h2, List.take_append_drop]
theorem El.Own.cells {cs : List Cell} (h : cellEl.Own F w v cs) : OwnCells w 0 v cs ∧ ∀ g, v.ownBlock = some g → F g := by
  obtain ⟨vals, h1, h2, h3⟩ := h
  rw [ownIn_flat h3] at h1
  exact ⟨h1, h2⟩
theorem flat_take (cs : List Cell) (k : Nat) : (flat cs).take (k * 16) = flat (cs.take k) := by
  induction cs generalizing k with
  | nil => simp [flat]
  | cons c r ih =>
    cases k with
    | zero => simp [flat]
    | succ k =>
      rw [flat, List.take_succ_cons, flat, List.take_append, List.take_of_length_le (by simp [Cell.vals]; omega)]
      congr 1
      rw [← ih k]; congr 1
      simp [Cell.vals]; omega
theorem flat_drop (cs : List Cell) (k : Nat) : (flat cs).drop (k * 16) = flat (cs.drop k) := by
  have h1 := List.take_append_drop (k * 16) (flat cs)
  rw [flat_take] at h1
  have h2 : flat cs = flat (cs.take k) ++ flat (cs.drop k) := by rw [← flat_append, List.take_append_drop]
  rw [h2] at h1 ⊢
  exact List.append_cancel_left h1
theorem putAt_nil (cs : List Cell) (q : Nat) : putAt cs q [] = cs := by simp [putAt]
theorem putAt_length (cs ps : List Cell) (q : Nat) (h : q + ps.length ≤ cs.length) : (putAt cs q ps).length = cs.length := by simp [putAt]; omega
/-- Cells are copied over some of one's own. -/
theorem run_copy_cells' {a : Option Addr} {n1 c1 : Nat} {cs ps : List Cell} (ty : TypeId) (h : cellEl.Own F W (.slice a n1 c1) cs) (src : Value) (hsrc : cellEl.Rd G W src ps) (q : Nat) (h0 : 0 < ps.length) (hq : q + ps.length ≤ cs.length) :
    ∃ g W', a = some ⟨g, 0, none⟩ ∧ F g ∧ (Builtin.copy_ #[25, 25] ty #[.slice (some ⟨g, q * 16, none⟩) (n1 - q) (c1 - q), src]).run Tryd.prog W = .ok (.int .i64 (ps.length : Int)) W' ∧
      cellEl.Own F W' (.slice a n1 c1) (putAt cs q ps) ∧ Keeps (fun b => b = g) W W' := by
  obtain ⟨ho, hF⟩ := h.cells
  obtain ⟨hlen, hrow⟩ := ho
  rcases hrow with ⟨hv, hz⟩ | ⟨g, cap, cur, hv, _, hg, hc1, hc2, hsz, htk⟩
  · omega
  cases hv
  obtain ⟨sa, sc, rfl, _⟩ := hsrc.slice'
  cases sa with
  | none =>
    obtain ⟨_, _, e, _, hh⟩ := hsrc
    obtain ⟨b, o, e2, _⟩ := hh (by intro e; rw [e] at h0; simp at h0)
    cases e; cases e2
  | some sa =>
    obtain ⟨vs, hr, hat⟩ := hsrc.vals
    have hfl := relIn_flat hr
    subst hfl
    have hinfo : (Tryd.prog.info? 46).map (·.size) = some 16 := by
      have := infoCell
      cases hi : Tryd.prog.info? 46 with
      | none => rw [hi] at this; cases this
      | some i => rw [hi] at this; simp at this; simp [this.2.1]
    have hmin : Nat.min ps.length (cs.length - q) = ps.length := Nat.min_eq_left (by omega)
    have hrun := run_copy_words (P := Tryd.prog) W 25 25 ty 46 16 g (q * 16) (cs.length - q) (c1 - q) sa ps.length sc cur 46 (flat ps) Tryd.underlying25 hinfo hg
      (by rw [flat_length, hmin]) hat (by rw [flat_length, hsz]; omega) flat_one
    rw [hmin] at hrun
    refine ⟨g, _, rfl, hF g rfl, hrun, ?_, ⟨rfl, rfl, rfl, by simp [World.setRow], fun b hb hne => setRow_other W g b _ hne⟩⟩
    have hl' := putAt_length cs ps q hq
    have hown : OwnCells (W.setRow g (cur.toList.take (q * 16) ++ flat ps ++ cur.toList.drop (q * 16 + (flat ps).length)).toArray) 0 (.slice (some ⟨g, 0, none⟩) cs.length c1) (putAt cs q ps) := by
      refine ⟨by rw [flat_length], .inr ⟨g, c1, _, by rw [hl'], Nat.zero_le _, setRow_heap W g cur _ _ (0, 0) hg, by rw [hl']; exact hc1, hc2, ?_, ?_⟩⟩
      · simp [flat_length]; omega
      · rw [hl']
        simp only []
        have e1 : cur.toList.take (q * 16) = flat (cs.take q) := by
          rw [← flat_take, ← htk, List.take_take, Nat.min_eq_left (by omega)]
        have e2 : (cur.toList.drop (q * 16 + (flat ps).length)).take (cs.length * 16 - (q * 16 + (flat ps).length)) = flat (cs.drop (q + ps.length)) := by
          rw [flat_length, ← Nat.add_mul, ← flat_drop, ← htk, List.drop_take]
        have e3 : (flat (cs.take q) ++ flat ps).length = q * 16 + (flat ps).length := by
          rw [List.length_append, flat_length, List.length_take, Nat.min_eq_left (by omega)]
        have e4 : (flat (cs.take q) ++ flat ps).length ≤ cs.length * 16 := by rw [e3, flat_length]; omega
        rw [putAt, flat_append, flat_append, e1, List.take_append, List.take_of_length_le e4, e3, e2]
    exact (El.Own.mono hown.el (fun b _ h => hF b h.1))
/-- Nothing is copied. -/
theorem run_copy_zero {P : Program} (w : World) (dT sT ty elem : TypeId) (size : Nat) (d a : Option Addr) (dLen dCap sCap : Nat) (hu : P.underlying dT = some (.slice elem)) (hs : (P.info? elem).map (·.size) = some size) :
    (Builtin.copy_ #[dT, sT] ty #[.slice d dLen dCap, .slice a 0 sCap]).run P w = .ok (.int .i64 0) w := by
  cases hq : P.info? elem with
  | none => simp [hq] at hs
  | some i =>
    have hl : ∀ a : Addr, (loadCells a 0).run P w = .ok #[] w := fun a => by
      have := run_loadCells_list (P := P) w a [] (fun j v h => by cases h)
      simpa using this
    cases d <;> cases a <;> simp [Builtin.copy_, run_underlying hu, Builtin.lenOf, Builtin.firstCells, sizeOf, typeInfo, hq, hl, storeCells, goInt]
end
end Go.Proofs.YtonlmlmjglaoiaaDoor
