/- The text of rows so far, in a builder, and the places of its bytes, in a row of their own. No condition. -/
import Derived.Test.YthcndmchlpohpaaGreatDoorTxB
namespace Go.Proofs.YthcndmchlpohpaaGreatDoor
set_option linter.unusedVariables false
set_option linter.unusedSimpArgs false
open Go.RowKit

def Bp.pl (x : Bp) : Int × Int := (x.line, x.col)
theorem builder_sees {T e : TypeId} {B b : Nat} {bs : List Value} {W W' : World} (h : Lib.IsBuilderF T e B b bs W) (hs : Sees W W') : Lib.IsBuilderF T e B b bs W' := by
  have one : ∀ p, Lib.BuilderAtF T e B b p bs W → Lib.BuilderAtF T e B b p bs W' := by
    rintro p ⟨h1, v, h2, h3, h4⟩
    refine ⟨h1, v, by rw [hs.block _ (Array.getElem?_eq_some_iff.1 h2).1]; exact h2, ⟨h3.1, ?_⟩, h4⟩
    rcases h3.2 with h5 | ⟨g, cap, cur, fz, k1, k2, k3, k4⟩
    · exact .inl h5
    · exact .inr ⟨g, cap, cur, fz, k1, k2, by rw [hs.block _ (Array.getElem?_eq_some_iff.1 k3).1]; exact k3, k4⟩
  exact h.imp (one _) (one _)
/-- A builder is kept by what is done to a row that is none of bytes. -/
theorem builder_row {T e : TypeId} {B b : Nat} {bs : List Value} {W W' : World} {g : Option Nat} (h : Lib.IsBuilderF T e B b bs W) (hk : Keeps (fun x => g = some x) W W') (hb : g ≠ some b) (hg : ∀ x, g = some x → ∃ c t fz, W.heap[x]? = some (.cells c t fz) ∧ t ≠ e) : Lib.IsBuilderF T e B b bs W' := by
  have one : ∀ p, Lib.BuilderAtF T e B b p bs W → Lib.BuilderAtF T e B b p bs W' := by
    rintro p ⟨h1, v, h2, h3, h4⟩
    refine ⟨h1, v, by rw [hk.block _ (Array.getElem?_eq_some_iff.1 h2).1 hb]; exact h2, ⟨h3.1, ?_⟩, h4⟩
    rcases h3.2 with h5 | ⟨x, cap, cur, fz, k1, k2, k3, k4⟩
    · exact .inl h5
    · refine .inr ⟨x, cap, cur, fz, k1, k2, ?_, k4⟩
      rw [hk.block _ (Array.getElem?_eq_some_iff.1 k3).1 (fun e => ?_)]
      · exact k3
      · obtain ⟨c, t, fz', h6, h7⟩ := hg x e
        rw [k3] at h6
        injection h6 with h6
        injection h6 with _ h8 _
        exact h7 h8.symm
  exact h.imp (one _) (one _)
namespace GaSt
variable {w W W' : World} {bs : List UInt8} {ps : List (Int × Int)} {u : Value}
end GaSt
theorem cellB_b (n : Int) (k : Nat) (c : Cell) : (cellB n k c).map Bp.b = c.txt := by
  unfold cellB
  rw [List.map_map]
  show c.txt.map (fun b => b) = _
  rw [List.map_id']
theorem cellB_pl (n : Int) (k : Nat) (c : Cell) : (cellB n k c).map Bp.pl = List.replicate c.txt.length (n, (k : Int)) := by
  unfold cellB
  rw [List.map_map]
  show c.txt.map (fun _ => (n, (k : Int))) = _
  rw [List.map_const']
end Go.Proofs.YthcndmchlpohpaaGreatDoor
