/- Arguments that hold structs, opened to their single values. No condition. -/
import Derived.Test.YtfgifjdholdohaaDoorBase
import Derived.Deep.Slices
import Derived.Lib.LaidTab
namespace Go.Proofs.YtfgifjdholdohaaDoor
set_option linter.unusedVariables false
set_option linter.unusedSimpArgs false
open Go.ChangeShapes Go.WideShapes Go.RowKit

/-- The types of the fields, one behind the other. -/
def flatFs (P : Program) (rec : TypeId → Option (List TypeId)) : Nat → List Field → Option (List TypeId)
  | _, [] => some []
  | off, x :: xs => match rec x.type with
    | some l => if x.offset == off && P.cellsOf x.type == l.length then (flatFs P rec (off + l.length) xs).map (l ++ ·) else none
    | none => none
/-- The types of the single cells of a type. -/
def flatT (P : Program) : Nat → TypeId → Option (List TypeId)
  | 0, _ => none
  | f + 1, t => match P.underlying t with
    | some (.struct fs) => (flatFs P (flatT P f) 0 fs.toList).bind fun l => if P.cellsOf t == l.length then some l else none
    | some (.array n e) => (flatT P f e).bind fun l => if P.cellsOf e == l.length && P.cellsOf t == n * l.length then some (List.replicate n l).flatten else none
    | some (.int _) => some [t]
    | some .bool => some [t]
    | some (.slice _) => some [t]
    | some .string => some [t]
    | _ => none

section
variable {H : Type} {enc : TypeId × Value → H} {P : Program} {w : World} {base : Nat} {spare : Nat → Bool} {held : Bool}
theorem trod_one {t : TypeId} {fuel : Nat} {cs : List Value} {x : DataW H × List MemPlace} (hk : (∃ k, P.underlying t = some (.int k)) ∨ P.underlying t = some .bool ∨ (∃ e, P.underlying t = some (.slice e)) ∨ P.underlying t = some .string) (h : DataW.trod enc P w base spare held fuel t cs = some x) : ∃ v, cs = [v] := by
  rcases hk with ⟨k, hk⟩ | hk | ⟨e, hk⟩ | hk
  · obtain ⟨n, h, _⟩ := DataW.trod_int hk h; exact ⟨_, h⟩
  · obtain ⟨b, h, _⟩ := DataW.trod_bool hk h; exact ⟨_, h⟩
  · rcases Deep.open_slice hk h with ⟨h, _⟩ | ⟨a, len, cap, m, n, D, Pl, h, _⟩
    · exact ⟨_, h⟩
    · exact ⟨_, h⟩
  · obtain ⟨s, h, _⟩ := DataW.trod_string hk h; exact ⟨_, h⟩
def LeafAt (enc : TypeId × Value → H) (P : Program) (w : World) (base : Nat) (spare : Nat → Bool) (held : Bool) (cs : List Value) (i : Nat) (t : TypeId) : Prop :=
  ∃ v n y, cs[i]? = some v ∧ DataW.trod enc P w base spare held n t [v] = some y
theorem leaves : ∀ (f : Nat) (t : TypeId) (ts : List TypeId), flatT P f t = some ts → ∀ (fuel : Nat) (cs : List Value) (x : DataW H × List MemPlace), DataW.trod enc P w base spare held fuel t cs = some x →
    cs.length = ts.length ∧ ∀ i t', ts[i]? = some t' → LeafAt enc P w base spare held cs i t'
  | 0, _, _, h, _, _, _, _ => by cases h
  | f + 1, t, ts, h, fuel, cs, x, hx => by
    have one : ∀ {t}, ts = [t] → DataW.trod enc P w base spare held fuel t cs = some x → (∃ v, cs = [v]) → cs.length = ts.length ∧ ∀ i t', ts[i]? = some t' → LeafAt enc P w base spare held cs i t' := by
      rintro t rfl hx ⟨v, rfl⟩
      refine ⟨rfl, fun i t' hi => ?_⟩
      cases i with
      | zero => cases hi; exact ⟨v, fuel, x, rfl, hx⟩
      | succ i => cases hi
    unfold flatT at h
    split at h
    · rename_i fs hfs
      obtain ⟨l, hl, h⟩ := Option.bind_eq_some_iff.1 h
      split at h
      · rename_i hc
        cases h
        obtain ⟨xs, n, _, _, hlen, hxl, hg⟩ := DataW.trod_struct hfs hx
        have hc := beq_iff_eq.1 hc
        refine ⟨by rw [hlen, hc], ?_⟩
        have key : ∀ (fl : List Field) (off : Nat) (l : List TypeId), flatFs P (flatT P f) off fl = some l → (∀ (j : Nat) (a : Field), fl[j]? = some a → ∃ y, DataW.trod enc P w base spare held n a.type ((cs.drop a.offset).take (P.cellsOf a.type)) = some y) →
            ∀ i t', l[i]? = some t' → LeafAt enc P w base spare held cs (off + i) t' := by
          intro fl
          induction fl with
          | nil => intro off l h _ i t' hi; cases h; cases hi
          | cons a fl ih =>
            intro off l h hall i t' hi
            unfold flatFs at h
            split at h
            · rename_i la hla
              split at h
              · rename_i hof
                rw [Bool.and_eq_true, beq_iff_eq, beq_iff_eq] at hof
                obtain ⟨l2, hl2, rfl⟩ := Option.map_eq_some_iff.1 h
                obtain ⟨y, hy⟩ := hall 0 a rfl
                obtain ⟨g1, g2⟩ := leaves f _ _ hla n _ _ hy
                by_cases hi1 : i < la.length
                · rw [List.getElem?_append_left hi1] at hi
                  obtain ⟨v, n', y', e1, e2⟩ := g2 i t' hi
                  refine ⟨v, n', y', ?_, e2⟩
                  rw [List.getElem?_take, if_pos (by omega), List.getElem?_drop, hof.1] at e1
                  exact e1
                · rw [List.getElem?_append_right (by omega)] at hi
                  have := ih (off + la.length) l2 hl2 (fun j b hj => hall (j + 1) b (by simpa using hj)) (i - la.length) t' hi
                  rwa [show off + la.length + (i - la.length) = off + i by omega] at this
              · cases h
            · cases h
        have := key fs.toList 0 _ hl (fun j a hj => by
          have hj' : fs[j]? = some a := by simpa using hj
          have h1 := hg j a hj'
          have hjl := (Array.getElem?_eq_some_iff.1 hj').1
          rw [List.getElem?_eq_getElem (by omega)] at h1
          exact ⟨_, h1⟩)
        intro i t' hi
        have := this i t' hi
        rwa [Nat.zero_add] at this
      · cases h
    · rename_i n e he
      obtain ⟨l, hl, h⟩ := Option.bind_eq_some_iff.1 h
      split at h
      · rename_i hc
        cases h
        rw [Bool.and_eq_true, beq_iff_eq, beq_iff_eq] at hc
        cases fuel with
        | zero => simp [DataW.trod] at hx
        | succ fuel =>
          simp only [DataW.trod, he] at hx
          split at hx
          · rename_i hlen
            obtain ⟨xs, hm, _⟩ := Option.map_eq_some_iff.1 hx
            have hfl : (List.replicate n l).flatten.length = n * l.length := by simp
            refine ⟨by rw [hlen, hc.2, hfl], fun i t' hi => ?_⟩
            have hil : i < n * l.length := by rw [← hfl]; exact (List.getElem?_eq_some_iff.1 hi).1
            have hl0 : 0 < l.length := by
              rcases Nat.eq_zero_or_pos l.length with h0 | h0
              · rw [h0] at hil; omega
              · exact h0
            have hq : i / l.length < n := Nat.div_lt_of_lt_mul (by rw [Nat.mul_comm]; exact hil)
            obtain ⟨b, _, hb⟩ := Lib.mapM_at hm (i / l.length) (i / l.length) (by simp [hq])
            obtain ⟨g1, g2⟩ := leaves f _ _ hl fuel _ _ hb
            have hrep : ∀ (n i : Nat), i < n * l.length → (List.replicate n l).flatten[i]? = l[i % l.length]? := by
              intro n
              induction n with
              | zero => intro i hi; omega
              | succ n ih =>
                intro i hi
                rw [List.replicate_succ, List.flatten_cons]
                by_cases h1 : i < l.length
                · rw [List.getElem?_append_left h1, Nat.mod_eq_of_lt h1]
                · rw [List.getElem?_append_right (by omega), ih (i - l.length) (by rw [Nat.succ_mul] at hi; omega), ← Nat.mod_eq_sub_mod (by omega)]
            rw [hrep n i hil] at hi
            obtain ⟨v, n', y', e1, e2⟩ := g2 (i % l.length) t' hi
            refine ⟨v, n', y', ?_, e2⟩
            have hmod := Nat.mod_lt i hl0
            rw [List.getElem?_take, if_pos (by omega), List.getElem?_drop, hc.1] at e1
            rw [← e1]
            congr 1
            have := Nat.div_add_mod i l.length
            rw [Nat.mul_comm] at this
            omega
          · cases hx
      · cases h
    · rename_i k hk; cases h; exact one rfl hx (trod_one (.inl ⟨k, hk⟩) hx)
    · rename_i hk; cases h; exact one rfl hx (trod_one (.inr (.inl hk)) hx)
    · rename_i e hk; cases h; exact one rfl hx (trod_one (.inr (.inr (.inl ⟨e, hk⟩))) hx)
    · rename_i hk; cases h; exact one rfl hx (trod_one (.inr (.inr (.inr hk))) hx)
    · cases h
theorem leaf_int {cs : List Value} {i : Nat} {t : TypeId} {k : IntKind} (h : LeafAt enc P w base spare held cs i t) (hk : P.underlying t = some (.int k)) : ∃ z, cs[i]? = some (.int k z) ∧ (Lit.int k z).wf = true := by
  obtain ⟨v, n, y, h1, h2⟩ := h
  obtain ⟨z, e, _, hw⟩ := DataW.trod_int hk h2
  cases e
  exact ⟨z, h1, hw⟩
theorem leaf_bool {cs : List Value} {i : Nat} {t : TypeId} (h : LeafAt enc P w base spare held cs i t) (hk : P.underlying t = some .bool) : ∃ z, cs[i]? = some (.bool z) := by
  obtain ⟨v, n, y, h1, h2⟩ := h
  obtain ⟨z, e, _⟩ := DataW.trod_bool hk h2
  cases e
  exact ⟨z, h1⟩
theorem leaf_string {cs : List Value} {i : Nat} {t : TypeId} (h : LeafAt enc P w base spare held cs i t) (hk : P.underlying t = some .string) : ∃ s : ByteArray, cs[i]? = some (.string s) ∧ s.size ≤ maxLen := by
  obtain ⟨v, n, y, h1, h2⟩ := h
  obtain ⟨z, e, _, hs⟩ := DataW.trod_string hk h2
  cases e
  exact ⟨z, h1, hs⟩
end

end Go.Proofs.YtfgifjdholdohaaDoor
