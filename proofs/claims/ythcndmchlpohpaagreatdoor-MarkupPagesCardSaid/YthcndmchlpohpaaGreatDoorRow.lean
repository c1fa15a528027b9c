/- Rows of cells: reading them, comparing them. The tables hold what the program's text lays. -/
import Derived.Test.YthcndmchlpohpaaGreatDoorRefCell2
import Derived.Test.YthcndmchlpohpaaGreatDoorRg
namespace Go.Proofs.YthcndmchlpohpaaGreatDoor
set_option linter.unusedVariables false
set_option linter.unusedSimpArgs false
open Go.RowKit

/-- A cell lies at a place. -/
def CellAt (w : World) (b p : Nat) (c : Cell) : Prop := ∀ j x, c.vals[j]? = some x → w.cell? ⟨b, p + j, none⟩ = some x
theorem CellAt.sees {w W : World} {b p : Nat} {c : Cell} (h : CellAt w b p c) (hs : Sees w W) : CellAt W b p c := fun j x hx => hs.cell (h j x hx)
theorem CellAt.all {w : World} {b p : Nat} {c : Cell} (h : CellAt w b p c) :
    w.cell? ⟨b, p, none⟩ = some (.int .i32 c.rune) ∧ w.cell? ⟨b, p + 1, none⟩ = some (.int .i32 c.m0) ∧ w.cell? ⟨b, p + 2, none⟩ = some (.int .i32 c.m1) ∧ w.cell? ⟨b, p + 3, none⟩ = some (.int .i32 c.m2) ∧
    w.cell? ⟨b, p + 4, none⟩ = some (.int .i64 c.width) ∧ w.cell? ⟨b, p + 5, none⟩ = some (.int .i64 c.f0) ∧ w.cell? ⟨b, p + 6, none⟩ = some (.int .u8 c.f1) ∧ w.cell? ⟨b, p + 7, none⟩ = some (.int .u8 c.f2) ∧
    w.cell? ⟨b, p + 8, none⟩ = some (.int .u8 c.f3) ∧ w.cell? ⟨b, p + 9, none⟩ = some (.int .u8 c.f4) ∧ w.cell? ⟨b, p + 10, none⟩ = some (.int .i64 c.b0) ∧ w.cell? ⟨b, p + 11, none⟩ = some (.int .u8 c.b1) ∧
    w.cell? ⟨b, p + 12, none⟩ = some (.int .u8 c.b2) ∧ w.cell? ⟨b, p + 13, none⟩ = some (.int .u8 c.b3) ∧ w.cell? ⟨b, p + 14, none⟩ = some (.int .u8 c.b4) ∧ w.cell? ⟨b, p + 15, none⟩ = some (.int .u8 c.flags) :=
  ⟨h 0 _ rfl, h 1 _ rfl, h 2 _ rfl, h 3 _ rfl, h 4 _ rfl, h 5 _ rfl, h 6 _ rfl, h 7 _ rfl, h 8 _ rfl, h 9 _ rfl, h 10 _ rfl, h 11 _ rfl, h 12 _ rfl, h 13 _ rfl, h 14 _ rfl, h 15 _ rfl⟩

/-- A slice reads as cells. -/
def RdCells (w : World) (v : Value) (cs : List Cell) : Prop :=
  ∃ ao cap, v = .slice ao cs.length cap ∧ (cs ≠ [] → ∃ b o, ao = some ⟨b, o, none⟩ ∧ ∀ i c, cs[i]? = some c → CellAt w b (o + i * 16) c)
theorem RdCells.sees {w W : World} {v : Value} {cs : List Cell} (h : RdCells w v cs) (hs : Sees w W) : RdCells W v cs := by
  obtain ⟨ao, cap, h1, h2⟩ := h
  refine ⟨ao, cap, h1, fun hne => ?_⟩
  obtain ⟨b, o, h3, h4⟩ := h2 hne
  exact ⟨b, o, h3, fun i c hc => (h4 i c hc).sees hs⟩
theorem RdCells.at {w : World} {ao : Option Addr} {n : Nat} {cs : List Cell} {k : Nat} (h : cs ≠ [] → ∃ b o, ao = some ⟨b, o, none⟩ ∧ ∀ i c, cs[i]? = some c → CellAt w b (o + i * 16) c) (hn : n = cs.length) (hk : k < n) :
    ∃ b o c, ao = some ⟨b, o, none⟩ ∧ cs[k]? = some c ∧ ∀ i c, cs[i]? = some c → CellAt w b (o + i * 16) c := by
  obtain ⟨b, o, h1, h2⟩ := h (by intro e; subst e; simp at hn; omega)
  exact ⟨b, o, cs[k]'(by omega), h1, List.getElem?_eq_getElem (by omega), h2⟩

theorem eq16_iff (c d : Cell) : eq16 c.rune c.m0 c.m1 c.m2 c.width c.f0 c.f1 c.f2 c.f3 c.f4 c.b0 c.b1 c.b2 c.b3 c.b4 c.flags d.rune d.m0 d.m1 d.m2 d.width d.f0 d.f1 d.f2 d.f3 d.f4 d.b0 d.b1 d.b2 d.b3 d.b4 d.flags = decide (c = d) := by
  rw [Bool.eq_iff_iff]
  cases c; cases d
  simp [eq16, eq11, eq5, eq3, and_assoc]
theorem neqCell (a0 a1 a2 a3 a4 a5 a6 a7 a8 a9 a10 a11 a12 a13 a14 a15 b0 b1 b2 b3 b4 b5 b6 b7 b8 b9 b10 b11 b12 b13 b14 b15 : Int) (W : World) :
   (binOp .neq 42 (.agg #[.int .i32 a0, .int .i32 a1, .int .i32 a2, .int .i32 a3, .int .i64 a4, .int .i64 a5, .int .u8 a6, .int .u8 a7, .int .u8 a8, .int .u8 a9, .int .i64 a10, .int .u8 a11, .int .u8 a12, .int .u8 a13, .int .u8 a14, .int .u8 a15])
      (.agg #[.int .i32 b0, .int .i32 b1, .int .i32 b2, .int .i32 b3, .int .i64 b4, .int .i64 b5, .int .u8 b6, .int .u8 b7, .int .u8 b8, .int .u8 b9, .int .i64 b10, .int .u8 b11, .int .u8 b12, .int .u8 b13, .int .u8 b14, .int .u8 b15])).run Tryz.prog W
    = .ok (.bool (!eq16 a0 a1 a2 a3 a4 a5 a6 a7 a8 a9 a10 a11 a12 a13 a14 a15 b0 b1 b2 b3 b4 b5 b6 b7 b8 b9 b10 b11 b12 b13 b14 b15)) W := by
  have h := eqlCell a0 a1 a2 a3 a4 a5 a6 a7 a8 a9 a10 a11 a12 a13 a14 a15 b0 b1 b2 b3 b4 b5 b6 b7 b8 b9 b10 b11 b12 b13 b14 b15 W
  rw [run_eql_struct] at h
  rw [run_neq_struct]
  revert h
  generalize (Op.equalIn 10000 42 _ _).run Tryz.prog W = r
  cases r with
  | ok b w' => simp only [Result.andThen_ok, Result.ok.injEq, Value.bool.injEq]; rintro ⟨rfl, rfl⟩; exact ⟨rfl, rfl⟩
  | halt x w' => intro h; cases h

end Go.Proofs.YthcndmchlpohpaaGreatDoor
