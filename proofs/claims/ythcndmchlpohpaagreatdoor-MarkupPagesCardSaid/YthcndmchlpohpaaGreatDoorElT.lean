/- Cells, lines, numbers and truths as data in memory. No condition. -/
import Derived.Test.YthcndmchlpohpaaGreatDoorEl
namespace Go.Proofs.YthcndmchlpohpaaGreatDoor
set_option linter.unusedVariables false
set_option linter.unusedSimpArgs false
open Go.RowKit

/-- Data of one word that reach no memory. -/
def flatEl {α : Type} (ty : TypeId) (f : α → Value) (h : ∀ x, (f x).oneCell' = true) : El α where
  ty := ty
  n := 1
  n0 := Nat.one_pos
  rel _ _ vs x := vs = [f x]
  own _ _ vs x := vs = [f x]
  len := by rintro F w vs x rfl; rfl
  one := by rintro F w vs x rfl v hv; simp at hv; subst hv; exact h x
  keeps h _ _ := h
  mono h _ := h
  own_rel h := h
  own_keeps h _ _ := h
  own_mono h _ := h
def intEl (ty : TypeId) (k : IntKind) : El Int := flatEl ty (fun x => .int k x) (fun _ => rfl)
def boolEl (ty : TypeId) : El Bool := flatEl ty (fun x => .bool x) (fun _ => rfl)
def strEl (ty : TypeId) : El ByteArray := flatEl ty (fun x => .string x) (fun _ => rfl)
def cellEl : El Cell where
  ty := 42
  n := 16
  n0 := by decide
  rel _ _ vs c := vs = c.vals
  own _ _ vs c := vs = c.vals
  len := by rintro F w vs x rfl; rfl
  one := by rintro F w vs x rfl v hv; exact vals_one x v hv
  keeps h _ _ := h
  mono h _ := h
  own_rel h := h
  own_keeps h _ _ := h
  own_mono h _ := h
/-- A struct's words, the first of them a slice of data; the others reach no memory. -/
def sliceAnd {α β : Type} (E : El α) (ty : TypeId) (n : Nat) (items : β → List α) (pre post : β → List Value) (h0 : 0 < n) (h1 : ∀ x, (pre x).length + 1 + (post x).length = n) (h2 : ∀ x, ∀ v ∈ pre x ++ post x, v.oneCell' = true) : El β where
  ty := ty
  n := n
  n0 := h0
  rel F w vs x := ∃ v, vs = pre x ++ v :: post x ∧ E.Rd F w v (items x)
  own F w vs x := ∃ v, vs = pre x ++ v :: post x ∧ E.Own F w v (items x)
  len := by rintro F w vs x ⟨v, rfl, _⟩; have := h1 x; simp; omega
  one := by
    rintro F w vs x ⟨v, rfl, hr⟩ u hu
    obtain ⟨a, c, rfl⟩ := hr.slice
    rcases List.mem_append.1 hu with hu | hu
    · exact h2 x u (List.mem_append_left _ hu)
    · rcases List.mem_cons.1 hu with rfl | hu
      · rfl
      · exact h2 x u (List.mem_append_right _ hu)
  keeps := by rintro F G w W vs x ⟨v, rfl, hr⟩ hk hd; exact ⟨v, rfl, hr.keeps hk hd⟩
  mono := by rintro F G w vs x ⟨v, rfl, hr⟩ hd; exact ⟨v, rfl, hr.mono hd⟩
  own_rel := by rintro F w vs x ⟨v, rfl, hr⟩; exact ⟨v, rfl, hr.rd⟩
  own_keeps := by rintro F G w W vs x ⟨v, rfl, hr⟩ hk hd; exact ⟨v, rfl, hr.keeps hk hd⟩
  own_mono := by rintro F G w vs x ⟨v, rfl, hr⟩ hd; exact ⟨v, rfl, hr.mono hd⟩

def lnEl : El Ln := sliceAnd cellEl 27 2 (·.cells) (fun _ => []) (fun l => [.bool l.soft]) (by decide) (fun _ => rfl) (by intro x v hv; simp at hv; subst hv; rfl)

section
variable {F G : Nat → Prop} {w W : World} {v : Value}
theorem cellEl_at {b p : Nat} {c : Cell} {vs : List Value} (h : cellEl.rel F w vs c) (hat : ∀ (j : Nat) u, vs[j]? = some u → w.cell? ⟨b, p + j, none⟩ = some u) : CellAt w b p c := by
  rw [show vs = c.vals from h] at hat; exact hat
/-- Cells that are read, in the elder word. -/
theorem El.Rd.rdc {cs : List Cell} (h : cellEl.Rd F w v cs) : RdC F w v cs := by
  obtain ⟨ao, cap, h1, _, h2⟩ := h
  refine ⟨ao, cap, h1, fun hne => ?_⟩
  obtain ⟨b, o, h3, hb, h4⟩ := h2 hne
  refine ⟨b, o, h3, hb, fun i c hc => ?_⟩
  obtain ⟨vs, h5, h6⟩ := h4 i c hc
  exact cellEl_at h5 h6
theorem El.Rd.rdCells {cs : List Cell} (h : cellEl.Rd F w v cs) : RdCells w v cs := h.rdc.rd
theorem El.Rd.rdl {ls : List Ln} (h : lnEl.Rd F w v ls) : RdL F w v ls := by
  obtain ⟨ao, cap, h1, _, h2⟩ := h
  refine ⟨ao, cap, h1, fun hne => ?_⟩
  obtain ⟨b, o, h3, hb, h4⟩ := h2 hne
  refine ⟨b, o, h3, hb, fun i l hl => ?_⟩
  obtain ⟨vs, ⟨sv, rfl, hr⟩, h6⟩ := h4 i l hl
  exact ⟨sv, h6 0 _ rfl, h6 1 _ rfl, hr.rdc⟩
/-- Cells of their own, in the new word. -/
theorem OwnCells.el {base : Nat} {cs : List Cell} (h : OwnCells w base v cs) : cellEl.Own (fun b => v.ownBlock = some b ∧ base ≤ b) w v cs := by
  refine ⟨flat cs, El.rowMono h (fun _ _ => Nat.zero_le _), fun g hg => ⟨hg, (El.rowLt h hg).1⟩, ?_⟩
  have : ∀ (cs : List Cell) (F : Nat → Prop), cellEl.ownIn F w (flat cs) cs := by
    intro cs
    induction cs with
    | nil => intro F; rfl
    | cons c r ih =>
      intro F
      refine ⟨fun _ => False, F, fun _ h => h.elim, fun _ h => h, fun _ h => h.elim, ?_, ?_⟩
      · show (flat (c :: r)).take 16 = c.vals
        rw [flat, List.take_append_of_le_length (by simp [Cell.vals])]; rfl
      · show cellEl.ownIn F w ((flat (c :: r)).drop 16) r
        rw [flat, List.drop_append_of_le_length (by simp [Cell.vals])]
        exact ih F
  exact this cs _
theorem OwnCells.elNew {base : Nat} {cs : List Cell} (h : OwnCells w base v cs) : cellEl.Own (fun b => base ≤ b) w v cs := h.el.mono (fun b _ h => h.2)
/-- A line at a place. -/
theorem El.Rd.line {ao : Option Addr} {n c k : Nat} {ls : List Ln} (h : lnEl.Rd F w (.slice ao n c) ls) (hk : k < n) : ∃ b o l a m, ao = some ⟨b, o, none⟩ ∧ F b ∧ ls[k]? = some l ∧ l.cells.length ≤ m ∧
    w.cell? ⟨b, o + k * 2, none⟩ = some (.slice a l.cells.length m) ∧ w.cell? ⟨b, o + k * 2 + 1, none⟩ = some (.bool l.soft) ∧ cellEl.Rd F w (.slice a l.cells.length m) l.cells := by
  obtain ⟨b, o, l, vs, e, hb, hl, ⟨sv, rfl, hr⟩, h6⟩ := h.at_ hk
  obtain ⟨a, m, rfl, hm⟩ := hr.slice'
  exact ⟨b, o, l, a, m, e, hb, hl, hm, h6 0 _ rfl, h6 1 _ rfl, hr⟩
/-- A cell at a place. -/
theorem El.Rd.cell {ao : Option Addr} {n c k : Nat} {cs : List Cell} (h : cellEl.Rd F w (.slice ao n c) cs) (hk : k < n) : ∃ b o x, ao = some ⟨b, o, none⟩ ∧ F b ∧ cs[k]? = some x ∧ CellAt w b (o + k * 16) x := by
  obtain ⟨b, o, l, vs, e, hb, hl, hr, h6⟩ := h.at_ hk
  exact ⟨b, o, l, e, hb, hl, cellEl_at hr h6⟩
end
theorem typedCell : El.Typed Tryz.prog cellEl 25 := El.typed_of (z := Cell.val ⟨0, 0, 0, 0, 0, 0, 0, 0, 0, 0, 0, 0, 0, 0, 0, 0⟩) (bytes := 64) Tryz.underlying25 (by kernel_rfl) rfl (by decide)
theorem typedLn : El.Typed Tryz.prog lnEl 30 := El.typed_of (z := .agg #[.slice none 0 0, .bool false]) (bytes := 32) Tryz.underlying30 (by kernel_rfl) rfl (by decide)
end Go.Proofs.YthcndmchlpohpaaGreatDoor
