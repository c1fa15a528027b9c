/- Arguments that hold structs, opened to their cells. Slices of cells and of lines that came in. No condition. -/
import Derived.Test.YthcndmchlpohpaaGreatDoorLine
import Derived.Test.YthcndmchlpohpaaGreatDoorLines2
import Derived.Test.YthcndmchlpohpaaGreatDoorRg2
import Derived.Deep.Slices
import Derived.Lib.LaidTab
import Derived.Test.YthcndmchlpohpaaGreatDoorElT
namespace Go.Proofs.YthcndmchlpohpaaGreatDoor
set_option linter.unusedVariables false
set_option linter.unusedSimpArgs false
open Go.ChangeShapes Go.WideShapes Go.RowKit

/-- The types of the fields, one behind the other. -/
def flatFs (P : Program) (rec : TypeId → Option (List TypeId)) : Nat → List Field → Option (List TypeId)
  | _, [] => some []
  | off, x :: xs => match rec x.type with
    | some l => if x.offset == off && P.cellsOf x.type == l.length then (flatFs P rec (off + l.length) xs).map (l ++ ·) else none
    | none => none
/-- The types of the single cells of a type. -/
def flatT (P : Program) : Nat → TypeId → Option (List TypeId)
  | 0, _ => none
  | f + 1, t => match P.underlying t with
    | some (.struct fs) => (flatFs P (flatT P f) 0 fs.toList).bind fun l => if P.cellsOf t == l.length then some l else none
    | some (.array n e) => (flatT P f e).bind fun l => if P.cellsOf e == l.length && P.cellsOf t == n * l.length then some (List.replicate n l).flatten else none
    | some (.int _) => some [t]
    | some .bool => some [t]
    | some (.slice _) => some [t]
    | _ => none

section
variable {H : Type} {enc : TypeId × Value → H} {P : Program} {w : World} {base : Nat} {spare : Nat → Bool} {held : Bool}
theorem trod_one {t : TypeId} {fuel : Nat} {cs : List Value} {x : DataW H × List MemPlace} (hk : (∃ k, P.underlying t = some (.int k)) ∨ P.underlying t = some .bool ∨ ∃ e, P.underlying t = some (.slice e)) (h : DataW.trod enc P w base spare held fuel t cs = some x) : ∃ v, cs = [v] := by
  rcases hk with ⟨k, hk⟩ | hk | ⟨e, hk⟩
  · obtain ⟨n, h, _⟩ := DataW.trod_int hk h; exact ⟨_, h⟩
  · obtain ⟨b, h, _⟩ := DataW.trod_bool hk h; exact ⟨_, h⟩
  · rcases Deep.open_slice hk h with ⟨h, _⟩ | ⟨a, len, cap, m, n, D, Pl, h, _⟩
    · exact ⟨_, h⟩
    · exact ⟨_, h⟩
def LeafAt (enc : TypeId × Value → H) (P : Program) (w : World) (base : Nat) (spare : Nat → Bool) (held : Bool) (cs : List Value) (i : Nat) (t : TypeId) : Prop :=
  ∃ v n y, cs[i]? = some v ∧ DataW.trod enc P w base spare held n t [v] = some y
theorem leaves : ∀ (f : Nat) (t : TypeId) (ts : List TypeId), flatT P f t = some ts → ∀ (fuel : Nat) (cs : List Value) (x : DataW H × List MemPlace), DataW.trod enc P w base spare held fuel t cs = some x →
    cs.length = ts.length ∧ ∀ i t', ts[i]? = some t' → LeafAt enc P w base spare held cs i t'
  | 0, _, _, h, _, _, _, _ => by cases h
  | f + 1, t, ts, h, fuel, cs, x, hx => by
    have one : ∀ {t}, ts = [t] → DataW.trod enc P w base spare held fuel t cs = some x → (∃ v, cs = [v]) → cs.length = ts.length ∧ ∀ i t', ts[i]? = some t' → LeafAt enc P w base spare held cs i t' := by
      rintro t rfl hx ⟨v, rfl⟩
      refine ⟨rfl, fun i t' hi => ?_⟩
      cases i with
      | zero => cases hi; exact ⟨v, fuel, x, rfl, hx⟩
      | succ i => cases hi
    unfold flatT at h
    split at h
    · rename_i fs hfs
      obtain ⟨l, hl, h⟩ := Option.bind_eq_some_iff.1 h
      split at h
      · rename_i hc
        cases h
        obtain ⟨xs, n, _, _, hlen, hxl, hg⟩ := DataW.trod_struct hfs hx
        have hc := beq_iff_eq.1 hc
        refine ⟨by rw [hlen, hc], ?_⟩
        have key : ∀ (fl : List Field) (off : Nat) (l : List TypeId), flatFs P (flatT P f) off fl = some l → (∀ (j : Nat) (a : Field), fl[j]? = some a → ∃ y, DataW.trod enc P w base spare held n a.type ((cs.drop a.offset).take (P.cellsOf a.type)) = some y) →
            ∀ i t', l[i]? = some t' → LeafAt enc P w base spare held cs (off + i) t' := by
          intro fl
          induction fl with
          | nil => intro off l h _ i t' hi; cases h; cases hi
          | cons a fl ih =>
            intro off l h hall i t' hi
            unfold flatFs at h
            split at h
            · rename_i la hla
              split at h
              · rename_i hof
                rw [Bool.and_eq_true, beq_iff_eq, beq_iff_eq] at hof
                obtain ⟨l2, hl2, rfl⟩ := Option.map_eq_some_iff.1 h
                obtain ⟨y, hy⟩ := hall 0 a rfl
                obtain ⟨g1, g2⟩ := leaves f _ _ hla n _ _ hy
                by_cases hi1 : i < la.length
                · rw [List.getElem?_append_left hi1] at hi
                  obtain ⟨v, n', y', e1, e2⟩ := g2 i t' hi
                  refine ⟨v, n', y', ?_, e2⟩
                  rw [List.getElem?_take, if_pos (by omega), List.getElem?_drop, hof.1] at e1
                  exact e1
                · rw [List.getElem?_append_right (by omega)] at hi
                  have := ih (off + la.length) l2 hl2 (fun j b hj => hall (j + 1) b (by simpa using hj)) (i - la.length) t' hi
                  rwa [show off + la.length + (i - la.length) = off + i by omega] at this
              · cases h
            · cases h
        have := key fs.toList 0 _ hl (fun j a hj => by
          have hj' : fs[j]? = some a := by simpa using hj
          have h1 := hg j a hj'
          have hjl := (Array.getElem?_eq_some_iff.1 hj').1
          rw [List.getElem?_eq_getElem (by omega)] at h1
          exact ⟨_, h1⟩)
        intro i t' hi
        have := this i t' hi
        rwa [Nat.zero_add] at this
      · cases h
    · rename_i n e he
      obtain ⟨l, hl, h⟩ := Option.bind_eq_some_iff.1 h
      split at h
      · rename_i hc
        cases h
        rw [Bool.and_eq_true, beq_iff_eq, beq_iff_eq] at hc
        cases fuel with
        | zero => simp [DataW.trod] at hx
        | succ fuel =>
          simp only [DataW.trod, he] at hx
          split at hx
          · rename_i hlen
            obtain ⟨xs, hm, _⟩ := Option.map_eq_some_iff.1 hx
            have hfl : (List.replicate n l).flatten.length = n * l.length := by simp
            refine ⟨by rw [hlen, hc.2, hfl], fun i t' hi => ?_⟩
            have hil : i < n * l.length := by rw [← hfl]; exact (List.getElem?_eq_some_iff.1 hi).1
            have hl0 : 0 < l.length := by
              rcases Nat.eq_zero_or_pos l.length with h0 | h0
              · rw [h0] at hil; omega
              · exact h0
            have hq : i / l.length < n := Nat.div_lt_of_lt_mul (by rw [Nat.mul_comm]; exact hil)
            obtain ⟨b, _, hb⟩ := Lib.mapM_at hm (i / l.length) (i / l.length) (by simp [hq])
            obtain ⟨g1, g2⟩ := leaves f _ _ hl fuel _ _ hb
            have hrep : ∀ (n i : Nat), i < n * l.length → (List.replicate n l).flatten[i]? = l[i % l.length]? := by
              intro n
              induction n with
              | zero => intro i hi; omega
              | succ n ih =>
                intro i hi
                rw [List.replicate_succ, List.flatten_cons]
                by_cases h1 : i < l.length
                · rw [List.getElem?_append_left h1, Nat.mod_eq_of_lt h1]
                · rw [List.getElem?_append_right (by omega), ih (i - l.length) (by rw [Nat.succ_mul] at hi; omega), ← Nat.mod_eq_sub_mod (by omega)]
            rw [hrep n i hil] at hi
            obtain ⟨v, n', y', e1, e2⟩ := g2 (i % l.length) t' hi
            refine ⟨v, n', y', ?_, e2⟩
            have hmod := Nat.mod_lt i hl0
            rw [List.getElem?_take, if_pos (by omega), List.getElem?_drop, hc.1] at e1
            rw [← e1]
            congr 1
            have := Nat.div_add_mod i l.length
            rw [Nat.mul_comm] at this
            omega
          · cases hx
      · cases h
    · rename_i k hk; cases h; exact one rfl hx (trod_one (.inl ⟨k, hk⟩) hx)
    · rename_i hk; cases h; exact one rfl hx (trod_one (.inr (.inl hk)) hx)
    · rename_i e hk; cases h; exact one rfl hx (trod_one (.inr (.inr ⟨e, hk⟩)) hx)
    · cases h
theorem leaf_int {cs : List Value} {i : Nat} {t : TypeId} {k : IntKind} (h : LeafAt enc P w base spare held cs i t) (hk : P.underlying t = some (.int k)) : ∃ z, cs[i]? = some (.int k z) ∧ (Lit.int k z).wf = true := by
  obtain ⟨v, n, y, h1, h2⟩ := h
  obtain ⟨z, e, _, hw⟩ := DataW.trod_int hk h2
  cases e
  exact ⟨z, h1, hw⟩
theorem leaf_bool {cs : List Value} {i : Nat} {t : TypeId} (h : LeafAt enc P w base spare held cs i t) (hk : P.underlying t = some .bool) : ∃ z, cs[i]? = some (.bool z) := by
  obtain ⟨v, n, y, h1, h2⟩ := h
  obtain ⟨z, e, _⟩ := DataW.trod_bool hk h2
  cases e
  exact ⟨z, h1⟩
end

/-- A cell's sixteen values. -/
theorem flat_cell : flatT Tryz.prog 8 42 = some [21, 21, 21, 21, 3, 35, 5, 5, 5, 5, 35, 5, 5, 5, 5, 38] := by kernel_rfl
section
variable {H : Type} {enc : TypeId × Value → H} {w : World} {base : Nat} {spare : Nat → Bool} {held : Bool}
theorem open_cell {fuel : Nat} {cs : List Value} {x : DataW H × List MemPlace} (h : DataW.trod enc Tryz.prog w base spare held fuel 42 cs = some x) : ∃ c : Cell, cs = c.vals := by
  obtain ⟨hl, hg⟩ := leaves 8 _ _ flat_cell fuel cs x h
  obtain ⟨z0, e0, _⟩ := leaf_int (hg 0 _ rfl) Tryz.underlying21
  obtain ⟨z1, e1, _⟩ := leaf_int (hg 1 _ rfl) Tryz.underlying21
  obtain ⟨z2, e2, _⟩ := leaf_int (hg 2 _ rfl) Tryz.underlying21
  obtain ⟨z3, e3, _⟩ := leaf_int (hg 3 _ rfl) Tryz.underlying21
  obtain ⟨z4, e4, _⟩ := leaf_int (hg 4 _ rfl) Tryz.underlying3
  obtain ⟨z5, e5, _⟩ := leaf_int (hg 5 _ rfl) Tryz.underlying35
  obtain ⟨z6, e6, _⟩ := leaf_int (hg 6 _ rfl) Tryz.underlying5
  obtain ⟨z7, e7, _⟩ := leaf_int (hg 7 _ rfl) Tryz.underlying5
  obtain ⟨z8, e8, _⟩ := leaf_int (hg 8 _ rfl) Tryz.underlying5
  obtain ⟨z9, e9, _⟩ := leaf_int (hg 9 _ rfl) Tryz.underlying5
  obtain ⟨z10, e10, _⟩ := leaf_int (hg 10 _ rfl) Tryz.underlying35
  obtain ⟨z11, e11, _⟩ := leaf_int (hg 11 _ rfl) Tryz.underlying5
  obtain ⟨z12, e12, _⟩ := leaf_int (hg 12 _ rfl) Tryz.underlying5
  obtain ⟨z13, e13, _⟩ := leaf_int (hg 13 _ rfl) Tryz.underlying5
  obtain ⟨z14, e14, _⟩ := leaf_int (hg 14 _ rfl) Tryz.underlying5
  obtain ⟨z15, e15, _⟩ := leaf_int (hg 15 _ rfl) Tryz.underlying38
  refine ⟨⟨z0, z1, z2, z3, z4, z5, z6, z7, z8, z9, z10, z11, z12, z13, z14, z15⟩, ?_⟩
  match cs, hl with
  | [a0, a1, a2, a3, a4, a5, a6, a7, a8, a9, a10, a11, a12, a13, a14, a15], _ =>
    simp only [List.getElem?_cons_zero, List.getElem?_cons_succ, Option.some.injEq] at e0 e1 e2 e3 e4 e5 e6 e7 e8 e9 e10 e11 e12 e13 e14 e15
    subst e0 e1 e2 e3 e4 e5 e6 e7 e8 e9 e10 e11 e12 e13 e14 e15
    rfl
theorem cell_spot {a : Addr} {v : Value} (h : w.cell? a = some v) : a.spot = none := by
  unfold World.cell? at h
  split at h
  · split at h
    · cases h
    · rename_i hs; simpa using hs
  · cases h
theorem add_lit (b o i : Nat) : (⟨b, o, none⟩ : Addr).add i = ⟨b, o + i, none⟩ := by
  unfold Addr.add
  split
  · subst_vars; rfl
  · rfl
set_option maxRecDepth 100000 in
/-- A row of cells that came in. -/
theorem open_cells {fuel : Nat} {v : Value} {x : DataW H × List MemPlace} (h : DataW.trod enc Tryz.prog w base spare held fuel 25 [v] = some x) : ∃ cs : List Cell, RdC (fun b => b < w.heap.size) w v cs := by
  rcases Deep.open_slice Tryz.underlying25 h with ⟨h, _⟩ | ⟨a, len, cap, m, n, D, Pl, h, _, hlc, _, hm, _, hi⟩
  · cases h
    exact ⟨[], none, 0, rfl, fun h => absurd rfl h⟩
  · cases h
    have hc : Tryz.prog.cellsOf 42 = 16 := by kernel_rfl
    rw [hc] at hi
    have hlm : len ≤ m := by rw [hm]; split <;> omega
    have hex : ∀ i, i < len → ∃ c : Cell, ∀ j u, c.vals[j]? = some u → w.cell? ((a.add (i * 16)).add j) = some u := by
      intro i hil
      obtain ⟨cs', h1, h2⟩ := hi i (by omega)
      obtain ⟨c, rfl⟩ := open_cell h2
      obtain ⟨_, _, hat⟩ := World.cells?_some h1
      exact ⟨c, fun j u hj => by rw [hat j (by have := (List.getElem?_eq_some_iff.1 hj).1; exact this)]; exact hj⟩
    have : Inhabited Cell := ⟨⟨0, 0, 0, 0, 0, 0, 0, 0, 0, 0, 0, 0, 0, 0, 0, 0⟩⟩
    obtain ⟨f, hf⟩ := Deep.choose_lt hex
    refine ⟨(List.range len).map f, some a, cap, by simp, fun hne => ?_⟩
    have h0 : 0 < len := by
      rcases Nat.eq_zero_or_pos len with h0 | h0
      · subst h0; exact absurd rfl hne
      · exact h0
    have hc0 := hf 0 h0 0 _ rfl
    have hsp : a.spot = none := by
      have := cell_spot hc0
      simpa [Addr.add] using this
    obtain ⟨b, o, s⟩ := a
    simp only at hsp
    subst hsp
    have hb : b < w.heap.size := by
      have := block_lt_of_cell hc0
      simpa [Addr.add] using this
    refine ⟨b, o, rfl, hb, fun i c hic => ?_⟩
    rw [List.getElem?_map] at hic
    obtain ⟨k, hk, rfl⟩ := Option.map_eq_some_iff.1 hic
    have hkl : i < len := by
      have := (List.getElem?_eq_some_iff.1 hk).1
      simpa using this
    rw [List.getElem?_range hkl] at hk
    cases hk
    intro j u hj
    have := hf i hkl j u hj
    rw [add_lit, add_lit] at this
    exact this
set_option maxRecDepth 100000 in
/-- A line that came in. -/
theorem open_line {r : Reach} {b0 : Nat} {v : Value} {d : DataW H} {ps : List MemPlace} (hv : Value.okWide Tryz.prog w r b0 27 v) (h : DataW.Trod enc Tryz.prog w base spare held 27 v d ps) :
    ∃ (u : Value) (cs : List Cell) (soft : Bool), v = .agg #[u, .bool soft] ∧ RdC (fun b => b < w.heap.size) w u cs := by
  obtain ⟨fuel, h⟩ := h
  have hft : flatT Tryz.prog 8 27 = some [25, 4] := by kernel_rfl
  obtain ⟨hl, hg⟩ := leaves 8 _ _ hft fuel _ _ h
  obtain ⟨u, n, y, e0, h0⟩ := hg 0 _ rfl
  obtain ⟨soft, e1⟩ := leaf_bool (hg 1 _ rfl) Tryz.underlying4
  obtain ⟨cs, hcs⟩ := open_cells h0
  obtain ⟨xs, rfl, _⟩ := okWide_struct Tryz.underlying27 hv
  refine ⟨u, cs, soft, ?_, hcs⟩
  obtain ⟨xs⟩ := xs
  simp only [Value.cells] at hl e0 e1
  obtain ⟨a, b, rfl⟩ : ∃ a b, xs = [a, b] := by
    have hl2 : xs.length = 2 := hl
    clear hl e0 e1
    match xs, hl2 with
    | [a, b], _ => exact ⟨a, b, rfl⟩
  simp at e0 e1
  subst e0 e1
  rfl
end
end Go.Proofs.YthcndmchlpohpaaGreatDoor

namespace Go.Proofs.YthcndmchlpohpaaGreatDoor
set_option linter.unusedVariables false
set_option linter.unusedSimpArgs false
open Go.ChangeShapes Go.WideShapes Go.RowKit

section
variable {H : Type} {enc : TypeId × Value → H} {w : World} {base : Nat} {spare : Nat → Bool} {held : Bool}
/-- A slice that came in, of data that are known word by word. -/
theorem open_el {α : Type} [Inhabited α] (E : El α) (st : TypeId) (hu : Tryz.prog.underlying st = some (.slice E.ty)) (hc : Tryz.prog.cellsOf E.ty = E.n)
    (hel : ∀ (fuel : Nat) (cs : List Value) (x : DataW H × List MemPlace), DataW.trod enc Tryz.prog w base spare held fuel E.ty cs = some x → ∃ d, E.rel (fun b => b < w.heap.size) w cs d)
    {fuel : Nat} {v : Value} {x : DataW H × List MemPlace} (h : DataW.trod enc Tryz.prog w base spare held fuel st [v] = some x) : ∃ xs : List α, E.Rd (fun b => b < w.heap.size) w v xs := by
  rcases Deep.open_slice hu h with ⟨h, _⟩ | ⟨a, len, cap, m, n, D, Pl, h, _, hlc, _, hm, _, hi⟩
  · cases h
    exact ⟨[], El.Rd.nil _ _⟩
  · cases h
    rw [hc] at hi
    have hlm : len ≤ m := by rw [hm]; split <;> omega
    have hn := E.n0
    have hex : ∀ i, i < len → ∃ d : α, ∃ vs, E.rel (fun b => b < w.heap.size) w vs d ∧ ∀ j u, vs[j]? = some u → w.cell? ((a.add (i * E.n)).add j) = some u := by
      intro i hil
      obtain ⟨cs', h1, h2⟩ := hi i (by omega)
      obtain ⟨d, hd⟩ := hel _ _ _ h2
      obtain ⟨_, _, hat⟩ := World.cells?_some h1
      exact ⟨d, cs', hd, fun j u hj => by rw [hat j (by have := (List.getElem?_eq_some_iff.1 hj).1; rw [E.len hd] at this; exact this)]; exact hj⟩
    obtain ⟨f, hf⟩ := Deep.choose_lt hex
    refine ⟨(List.range len).map f, some a, cap, by simp, by simpa using hlc, fun hne => ?_⟩
    have h0 : 0 < len := by
      rcases Nat.eq_zero_or_pos len with h0 | h0
      · subst h0; exact absurd rfl hne
      · exact h0
    obtain ⟨vs0, r0, k0⟩ := hf 0 h0
    have hl0 := E.len r0
    have hc0 := k0 0 _ (List.getElem?_eq_getElem (by omega))
    have hsp : a.spot = none := by
      have := cell_spot hc0
      simpa [Addr.add] using this
    obtain ⟨b, o, s⟩ := a
    simp only at hsp
    subst hsp
    have hb : b < w.heap.size := by
      have := block_lt_of_cell hc0
      simpa [Addr.add] using this
    refine ⟨b, o, rfl, hb, fun i c hic => ?_⟩
    rw [List.getElem?_map] at hic
    obtain ⟨k, hk, rfl⟩ := Option.map_eq_some_iff.1 hic
    have hkl : i < len := by
      have := (List.getElem?_eq_some_iff.1 hk).1
      simpa using this
    rw [List.getElem?_range hkl] at hk
    cases hk
    obtain ⟨vs, r, kk⟩ := hf i hkl
    exact ⟨vs, r, fun j u hj => by have := kk j u hj; rw [addr_add, addr_add] at this; exact this⟩
instance : Inhabited Cell := ⟨⟨0, 0, 0, 0, 0, 0, 0, 0, 0, 0, 0, 0, 0, 0, 0, 0⟩⟩
instance : Inhabited Ln := ⟨⟨[], false⟩⟩
theorem open_cellsE {fuel : Nat} {v : Value} {x : DataW H × List MemPlace} (h : DataW.trod enc Tryz.prog w base spare held fuel 25 [v] = some x) : ∃ xs, cellEl.Rd (fun b => b < w.heap.size) w v xs :=
  open_el cellEl _ Tryz.underlying25 (by kernel_rfl) (fun fuel cs x h => open_cell h) h
theorem line_words {fuel : Nat} {cs : List Value} {x : DataW H × List MemPlace} (h : DataW.trod enc Tryz.prog w base spare held fuel 27 cs = some x) : ∃ d, lnEl.rel (fun b => b < w.heap.size) w cs d := by
  have hft : flatT Tryz.prog 8 27 = some [25, 4] := by kernel_rfl
  obtain ⟨hl, hg⟩ := leaves 8 _ _ hft fuel _ _ h
  obtain ⟨u, n, y, e0, h0⟩ := hg 0 _ rfl
  obtain ⟨soft, e1⟩ := leaf_bool (hg 1 _ rfl) Tryz.underlying4
  obtain ⟨xs, hxs⟩ := open_cellsE h0
  match cs, hl with
  | [a, b], _ =>
    simp only [List.getElem?_cons_zero, List.getElem?_cons_succ, Option.some.injEq] at e0 e1
    subst e0 e1
    exact ⟨⟨xs, soft⟩, a, rfl, hxs⟩
set_option maxRecDepth 100000 in
theorem open_lines {r : Reach} {b0 : Nat} {v : Value} {d : DataW H} {ps : List MemPlace} (hv : Value.okWide Tryz.prog w r b0 30 v) (h : DataW.Trod enc Tryz.prog w base spare held 30 v d ps) : ∃ ls, lnEl.Rd (fun b => b < w.heap.size) w v ls := by
  obtain ⟨a, len, cap, rfl⟩ := okWide_slice Tryz.underlying30 hv
  obtain ⟨fuel, h⟩ := h
  exact open_el lnEl _ Tryz.underlying30 (by kernel_rfl) (fun fuel cs x h => line_words h) h
end
end Go.Proofs.YthcndmchlpohpaaGreatDoor
