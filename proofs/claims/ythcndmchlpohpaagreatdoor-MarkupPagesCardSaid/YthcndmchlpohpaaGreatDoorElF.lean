/- One datum of a slice of the call's own is turned; cells are copied into such a slice. No condition. -/
import Derived.Test.YthcndmchlpohpaaGreatDoorElO
import Derived.Laws.CopyRow
namespace Go.Proofs.YthcndmchlpohpaaGreatDoor
set_option linter.unusedVariables false
set_option linter.unusedSimpArgs false
open Go.RowKit

theorem list_around {α : Type} {xs : List α} {i : Nat} {x : α} (h : xs[i]? = some x) : xs = xs.take i ++ x :: xs.drop (i + 1) := by
  have hi := (List.getElem?_eq_some_iff.1 h).1
  have he := (List.getElem?_eq_some_iff.1 h).2
  rw [← he, ← List.drop_eq_getElem_cons hi, List.take_append_drop]
theorem set_around {α : Type} {xs : List α} {i : Nat} (hi : i < xs.length) (y : α) : xs.set i y = xs.take i ++ y :: xs.drop (i + 1) := by
  rw [List.set_eq_take_append_cons_drop, if_pos hi]
namespace El
variable {α : Type} {E : El α} {F G : Nat → Prop} {w W : World} {v : Value} {vs : List Value} {xs : List α}
/-- A part of a row is turned. -/
def turned (cur cur' : Array Value) (at_ : Nat) (vs' : List Value) : Prop :=
  cur'.size = cur.size ∧ ∀ j, cur'[j]? = if at_ ≤ j ∧ j < at_ + vs'.length then vs'[j - at_]? else cur[j]?
theorem Own.focus (h : E.Own F w v xs) {i : Nat} {x : α} (hx : xs[i]? = some x) : ∃ (b cap : Nat) (cur : Array Value) (Fx Fr : Nat → Prop) (vs : List Value), v = .slice (some ⟨b, 0, none⟩) xs.length cap ∧ xs.length ≤ cap ∧ F b ∧
    (∀ c, Fx c → F c ∧ c ≠ b) ∧ (∀ c, Fr c → F c ∧ c ≠ b ∧ ¬ Fx c) ∧ w.heap[b]? = some (.cells cur E.ty (0, 0)) ∧ E.own Fx w vs x ∧ vs.length = E.n ∧ (∀ (j : Nat) u, vs[j]? = some u → cur[i * E.n + j]? = some u) ∧
    ∀ (Z : Nat → Prop) (W' : World) (cur' : Array Value) (Fx' : Nat → Prop) (vs' : List Value) (x' : α), W'.heap[b]? = some (.cells cur' E.ty (0, 0)) → turned cur cur' (i * E.n) vs' → Keeps Z w W' → (∀ c, Fr c → ¬ Z c) → E.own Fx' W' vs' x' → (∀ c, Fx' c → c ≠ b ∧ ¬ Fr c) →
      E.Own (fun c => c = b ∨ Fr c ∨ Fx' c) W' v (xs.set i x') := by
  obtain ⟨vals, ⟨hl, hrow⟩, hF, hin⟩ := h
  have hi := (List.getElem?_eq_some_iff.1 hx).1
  rcases hrow with ⟨rfl, h0⟩ | ⟨b, cap, cur, rfl, _, hg, hc1, hc2, hsz, htk⟩
  · omega
  have hn := E.n0
  rw [list_around hx] at hin
  obtain ⟨F1, F2, a1, a2, a3, a4, a5⟩ := ownIn_split hin
  obtain ⟨Fx, F3, b1, b2, b3, b4, b5⟩ := a5
  have hti : (xs.take i).length = i := by simp; omega
  rw [hti] at a4 b4 b5
  have hvl : ((vals.drop (i * E.n)).take E.n).length = E.n := E.len (E.own_rel b4)
  have hle : i * E.n + E.n ≤ xs.length * E.n := by rw [← Nat.succ_mul]; exact Nat.mul_le_mul_right _ hi
  have hle2 : xs.length * E.n ≤ cap * E.n := Nat.mul_le_mul_right _ hc1
  have hob : ∀ c, Value.ownBlock (.slice (some ⟨b, 0, none⟩) xs.length cap) = some c ↔ c = b := fun c => ⟨fun e => by cases e; rfl, fun e => by subst e; rfl⟩
  refine ⟨b, cap, cur, Fx, fun c => F1 c ∨ F3 c, _, rfl, hc1, hF b rfl, fun c hc => ?_, fun c hc => ?_, hg, b4, hvl, fun j u hu => ?_, ?_⟩
  · have := a2 c (b1 c hc)
    exact ⟨this.1, fun e => this.2 ((hob c).2 e)⟩
  · rcases hc with hc | hc
    · have := a1 c hc
      exact ⟨this.1, fun e => this.2 ((hob c).2 e), fun hx => a3 c hc (b1 c hx)⟩
    · have := a2 c (b2 c hc)
      exact ⟨this.1, fun e => this.2 ((hob c).2 e), fun hx => b3 c hx hc⟩
  · have hj := (List.getElem?_eq_some_iff.1 hu).1
    rw [hvl] at hj
    rw [List.getElem?_take, if_pos hj, List.getElem?_drop, ← htk, List.getElem?_take, if_pos (by omega)] at hu
    rw [← hu]; simp
  · intro Z W' cur' Fx' vs' x' hg' ⟨hs', ht'⟩ hk hZ hown hd
    have hl' := E.len (E.own_rel hown)
    refine ⟨vals.take (i * E.n) ++ (vs' ++ vals.drop (i * E.n + E.n)), ⟨by rw [List.length_set, List.length_append, List.length_append, List.length_take, List.length_drop, hl', hl, Nat.min_eq_left (by omega)]; omega, .inr ⟨b, cap, cur', by rw [List.length_set], Nat.zero_le _, hg', by rw [List.length_set]; exact hc1, hc2, by rw [hs']; exact hsz, ?_⟩⟩, fun g hg => .inl ((hob g).1 hg), ?_⟩
    · rw [List.length_set]
      apply List.ext_getElem?
      intro j
      rw [List.getElem?_take]
      by_cases hj : j < xs.length * E.n
      · rw [if_pos hj, Array.getElem?_toList, ht']
        have hcj : cur[j]? = vals[j]? := by rw [← htk, List.getElem?_take, if_pos hj]; simp
        by_cases h1 : j < i * E.n
        · rw [if_neg (by omega), List.getElem?_append_left (by simp; omega), List.getElem?_take, if_pos h1, hcj]
        · rw [List.getElem?_append_right (by simp; omega)]
          have e0 : (vals.take (i * E.n)).length = i * E.n := by simp; omega
          rw [e0]
          by_cases h2 : j < i * E.n + E.n
          · rw [if_pos (by omega), List.getElem?_append_left (by omega)]
          · rw [if_neg (by omega), List.getElem?_append_right (by omega), List.getElem?_drop, hcj]
            congr 1; omega
      · rw [if_neg hj, List.getElem?_eq_none (by simp; omega)]
    · rw [set_around hi]
      have hk1 := ownIn_keeps a4 hk (fun c hc => hZ c (.inl hc))
      have hk3 := ownIn_keeps b5 hk (fun c hc => hZ c (.inr hc))
      rw [List.drop_drop] at hk3
      have e1 : ∀ c, F1 c → c ≠ b := fun c hc e => (a1 c hc).2 ((hob c).2 e)
      have e3 : ∀ c, F3 c → c ≠ b := fun c hc e => (a2 c (b2 c hc)).2 ((hob c).2 e)
      refine ownIn_append (F1 := F1) (F2 := fun c => Fx' c ∨ F3 c) hk1 ⟨Fx', F3, fun c h => .inl h, fun c h => .inr h, fun c h h3 => (hd c h).2 (.inr h3), by rw [List.take_append_of_le_length (by omega), List.take_of_length_le (by omega)]; exact hown, by rw [List.drop_append_of_le_length (by omega), List.drop_eq_nil_of_le (by omega), List.nil_append]; exact hk3⟩ (fun c h => ⟨.inr (.inl (.inl h)), fun e => e1 c h ((hob c).1 e)⟩) (fun c h => ?_) (fun c h h2 => ?_)
      · rcases h with h | h
        · exact ⟨.inr (.inr h), fun e => (hd c h).1 ((hob c).1 e)⟩
        · exact ⟨.inr (.inl (.inr h)), fun e => e3 c h ((hob c).1 e)⟩
      · rcases h2 with h2 | h2
        · exact (hd c h2).2 (.inl h)
        · exact a3 c h (b2 c h2)
/-- One word is stored. -/
theorem turned_set (cur : Array Value) (k : Nat) (u : Value) : turned cur (cur.setIfInBounds k u) k [u] ∨ cur.size ≤ k := by
  rcases Nat.lt_or_ge k cur.size with h | h
  · refine .inl ⟨by simp, fun j => ?_⟩
    by_cases hj : k = j
    · subst hj; rw [Array.getElem?_setIfInBounds_self_of_lt h, if_pos (by simp)]; simp
    · rw [Array.getElem?_setIfInBounds_ne hj, if_neg (by simp; omega)]
  · exact .inr h
theorem turned_within {cur cur' : Array Value} {at_ k : Nat} {vs : List Value} {u : Value} (hv : ∀ (j : Nat) x, vs[j]? = some x → cur[at_ + j]? = some x) (hk : k < vs.length) (h : cur' = cur.setIfInBounds (at_ + k) u) : turned cur cur' at_ (vs.set k u) := by
  subst h
  have hlt : at_ + k < cur.size := (Array.getElem?_eq_some_iff.1 (hv k _ (List.getElem?_eq_getElem hk))).1
  refine ⟨by simp, fun j => ?_⟩
  rw [List.length_set]
  by_cases hj : at_ ≤ j ∧ j < at_ + vs.length
  · rw [if_pos hj]
    by_cases e : at_ + k = j
    · subst e
      rw [Array.getElem?_setIfInBounds_self_of_lt hlt, Nat.add_sub_cancel_left, List.getElem?_set_self hk]
    · rw [Array.getElem?_setIfInBounds_ne e, List.getElem?_set_ne (by omega)]
      have := hv (j - at_) _ (List.getElem?_eq_getElem (by omega))
      rw [show at_ + (j - at_) = j by omega] at this
      rw [this, List.getElem?_eq_getElem (by omega)]
  · rw [if_neg hj, Array.getElem?_setIfInBounds_ne (by omega)]
theorem turned_same {cur : Array Value} {at_ : Nat} {vs : List Value} (hv : ∀ (j : Nat) x, vs[j]? = some x → cur[at_ + j]? = some x) : turned cur cur at_ vs := by
  refine ⟨rfl, fun j => ?_⟩
  by_cases hj : at_ ≤ j ∧ j < at_ + vs.length
  · rw [if_pos hj]
    have := hv (j - at_) _ (List.getElem?_eq_getElem (by omega))
    rw [show at_ + (j - at_) = j by omega] at this
    rw [this, List.getElem?_eq_getElem (by omega)]
  · rw [if_neg hj]
end El
/-- Words are copied into a row, whatever an element's size is. -/
theorem run_copy_words {P : Program} (w : World) (dT sT ty elem : TypeId) (size g o dLen dCap : Nat) (a : Addr) (sLen sCap : Nat) (cur : Array Value) (t : TypeId) (cs : List Value)
    (hu : P.underlying dT = some (.slice elem)) (hs : (P.info? elem).map (·.size) = some size)
    (hg : w.heap[g]? = some (.cells cur t (0, 0))) (hn : cs.length = Nat.min sLen dLen * size)
    (hsrc : ∀ j v, cs[j]? = some v → w.cell? (a.add j) = some v) (hfit : o + cs.length ≤ cur.size) (h1 : ∀ v ∈ cs, v.oneCell' = true) :
    (Builtin.copy_ #[dT, sT] ty #[.slice (some ⟨g, o, none⟩) dLen dCap, .slice (some a) sLen sCap]).run P w =
      .ok (goInt (Nat.min sLen dLen)) (w.setRow g (cur.toList.take o ++ cs ++ cur.toList.drop (o + cs.length)).toArray) := by
  have hl := run_loadCells_list (P := P) w a cs hsrc
  have hst := run_storeCells_at P g o t cs 0 cur w hg (by simpa using hfit) h1
  cases hq : P.info? elem with
  | none => simp [hq] at hs
  | some i =>
    have hi : i.size = size := by simpa [hq] using hs
    rw [hn] at hl
    simp [Builtin.copy_, run_underlying hu, Builtin.lenOf, Builtin.firstCells, sizeOf, typeInfo, hq, hi, hl, hst]
end Go.Proofs.YthcndmchlpohpaaGreatDoor
