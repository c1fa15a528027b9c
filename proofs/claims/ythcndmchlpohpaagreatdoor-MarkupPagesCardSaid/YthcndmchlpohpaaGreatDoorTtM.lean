/- A whole cell is stored into cells of the call's own. No condition. -/
import Derived.Test.YthcndmchlpohpaaGreatDoorElF
import Derived.Test.YthcndmchlpohpaaGreatDoorElO
namespace Go.Proofs.YthcndmchlpohpaaGreatDoor
set_option linter.unusedVariables false
set_option linter.unusedSimpArgs false
open Go.RowKit

/-- A whole cell is stored. -/
theorem run_storeCell_at {W : World} {g : Nat} {cur : Array Value} {t : TypeId} (hg : W.heap[g]? = some (.cells cur t (0, 0))) (o : Nat) (c : Cell) (hk : o + 16 ≤ cur.size) :
    (Instr.storeAt 42 (.pointer (some ⟨g, o, none⟩)) c.val).run Tryz.prog W = .ok () (W.setRow g (cur.toList.take o ++ c.vals ++ cur.toList.drop (o + 16)).toArray) := by
  have hc : (Instr.sureAddr (.pointer (some ⟨g, o, none⟩))).run Tryz.prog W = .ok ⟨g, o, none⟩ W := rfl
  have h := run_storeCells_at Tryz.prog g o t c.vals 0 cur W hg (by simpa [Cell.vals] using hk) (vals_one c)
  unfold Instr.storeAt storeVar
  simp only [Sem.run_bind, hc, Result.andThen_ok, cell_sizeOf, Cell.val, Value.cells]
  simp only [Cell.vals, List.size_toArray, List.length_cons, List.length_nil, ne_eq, not_true_eq_false, if_false, Sem.run_ite] at h ⊢
  rw [h]
  simp
theorem own_store_cell {F : Nat → Prop} {W : World} {a : Option Addr} {n c : Nat} {cs : List Cell} (h : cellEl.Own F W (.slice a n c) cs) {k : Nat} (hk : k < cs.length) (d : Cell) :
    ∃ g W', a = some ⟨g, 0, none⟩ ∧ F g ∧ n = cs.length ∧ (Instr.storeAt 42 (.pointer (some ⟨g, k * 16, none⟩)) d.val).run Tryz.prog W = .ok () W' ∧ cellEl.Own F W' (.slice a n c) (cs.set k d) ∧ Keeps (fun b => b = g) W W' := by
  obtain ⟨x, hx⟩ : ∃ x, cs[k]? = some x := ⟨_, List.getElem?_eq_getElem hk⟩
  obtain ⟨b, cap, cur, Fx, Fr, vs, hv, _, hFb, hFx, hFr, hg, hown, hvl, hvc, hback⟩ := h.focus hx
  have hvl' : vs.length = 16 := hvl
  have hlast := hvc 15 _ (List.getElem?_eq_getElem (by omega))
  have hsz : k * 16 + 16 ≤ cur.size := by have := (Array.getElem?_eq_some_iff.1 hlast).1; have e : cellEl.n = 16 := rfl; rw [e] at this; omega
  cases hv
  have hst := run_storeCell_at hg (k * 16) d hsz
  have hk' : Keeps (fun b' => b' = b) W (W.setRow b (cur.toList.take (k * 16) ++ d.vals ++ cur.toList.drop (k * 16 + 16)).toArray) := ⟨rfl, rfl, rfl, by simp [World.setRow], fun c hc hne => setRow_other W b c _ hne⟩
  refine ⟨b, _, rfl, hFb, rfl, hst, ?_, hk'⟩
  have htu : El.turned cur (cur.toList.take (k * 16) ++ d.vals ++ cur.toList.drop (k * 16 + 16)).toArray (k * cellEl.n) d.vals := by
    have hdl : d.vals.length = 16 := rfl
    have e : cellEl.n = 16 := rfl
    rw [e]
    refine ⟨by simp [hdl]; omega, fun j => ?_⟩
    rw [hdl, List.getElem?_toArray]
    have hl1 : (cur.toList.take (k * 16)).length = k * 16 := by simp; omega
    by_cases h1 : j < k * 16
    · rw [if_neg (by omega), List.append_assoc, List.getElem?_append_left (by omega), List.getElem?_take, if_pos h1]; simp
    · rw [List.append_assoc, List.getElem?_append_right (by omega), hl1]
      by_cases h2 : j < k * 16 + 16
      · rw [if_pos (by omega), List.getElem?_append_left (by omega)]
      · rw [if_neg (by omega), List.getElem?_append_right (by omega), hdl, List.getElem?_drop, show k * 16 + 16 + (j - k * 16 - 16) = j by omega]; simp
  exact (hback (fun c => c = b) _ _ Fx d.vals d (setRow_heap W b cur _ _ (0, 0) hg) htu hk' (fun c hc => (hFr c hc).2.1) rfl (fun c hc => ⟨(hFx c hc).2, fun h => (hFr c h).2.2 hc⟩)).mono (fun c _ h => by
    rcases h with h | h | h
    · subst h; exact hFb
    · exact (hFr c h).1
    · exact (hFx c h).1)
end Go.Proofs.YthcndmchlpohpaaGreatDoor
