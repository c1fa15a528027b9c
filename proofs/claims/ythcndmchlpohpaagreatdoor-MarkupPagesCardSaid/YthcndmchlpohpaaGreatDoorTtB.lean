/- line.Text (40). No condition. -/
import Derived.Test.YthcndmchlpohpaaGreatDoorTtA
import Derived.Test.YthcndmchlpohpaaGreatDoorTxC
import Derived.BigQuiet
import Derived.Lib.QuietBelow
import Derived.Deep.CutRange
namespace Go.Proofs.YthcndmchlpohpaaGreatDoor
set_option linter.unusedVariables false
set_option linter.unusedSimpArgs false
open Go.RowKit

/-- A text so far, in a builder; the builder's block is B. -/
structure BuSt (w : World) (bs : List UInt8) (W : World) : Prop where
  b : Lib.IsBuilderF 80 5 w.heap.size w.heap.size (Lib.byteCells bs) W
  s : Sees w W
namespace BuSt
variable {w W W' : World} {bs : List UInt8}
theorem start (w : World) : BuSt w [] (w.alloc (.cells #[.pointer none, .slice none 0 0] 80)) := ⟨Lib.IsBuilderF.of (Lib.fresh_isBuilder 80 5 w), (Sees.refl w).alloc _⟩
theorem sees (h : BuSt w bs W) (hs : Sees W W') : BuSt w bs W' := ⟨builder_sees h.b hs, h.s.trans hs⟩
theorem write (h : BuSt w bs W) (t : List UInt8) (hl : bs.length + t.length ≤ 1000000000) :
    Calls Tryz.prog 37 #[.pointer (some ⟨w.heap.size, 0, none⟩), .string ⟨t.toArray⟩] W fun e W' => ∃ x y, e = .returned (.tuple #[x, y]) ∧ BuSt w (bs ++ t) W' := by
  refine (write_bytes w.heap.size w.heap.size bs t W h.b hl h.s.size).mono ?_
  rintro e W' ⟨x, y, rfl, h1, h2, h3⟩
  exact ⟨x, y, rfl, h1, h.s.below.trans h2⟩
theorem string (h : BuSt w bs W) : Calls Tryz.prog 38 #[.pointer (some ⟨w.heap.size, 0, none⟩)] W fun e W' => e = .returned (.string ⟨bs.toArray⟩) ∧ Sees w W' := by
  refine (bstr w.heap.size w.heap.size bs W h.b h.s.size).mono ?_
  rintro e W' ⟨rfl, h2, h3⟩
  exact ⟨rfl, h.s.below.trans h2⟩
end BuSt
end Go.Proofs.YthcndmchlpohpaaGreatDoor
