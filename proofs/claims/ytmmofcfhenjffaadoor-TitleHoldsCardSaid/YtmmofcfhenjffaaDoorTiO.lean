/- Commands that came in, opened; a world in which the library's variables are as the text lays them. No condition. -/
import Derived.Test.YtmmofcfhenjffaaDoorTiK
import Derived.Test.YtmmofcfhenjffaaDoorFlat
import Derived.Test.YtmmofcfhenjffaaDoorLawP
namespace Go.Proofs.YtmmofcfhenjffaaDoor
set_option linter.unusedVariables false
set_option linter.unusedSimpArgs false
open Go.ChangeShapes Go.WideShapes Go.ChangeAt Go.RowKit

section
variable {H : Type} {enc : TypeId × Value → H} {w : World} {base : Nat} {spare : Nat → Bool} {held : Bool}
set_option maxRecDepth 100000 in
theorem open_cmd {r : Reach} {b0 : Nat} {v : Value} {d : DataW H} {ps : List MemPlace} (hv : Value.okWide Tryd.prog w r b0 30 v) (h : DataW.Trod enc Tryd.prog w base spare held 30 v d ps) :
    ∃ (k : Int) (i t : ByteArray), v = cmd k i t ∧ i.size ≤ maxLen ∧ t.size ≤ maxLen := by
  obtain ⟨fuel, h⟩ := h
  have hft : flatT Tryd.prog 8 30 = some [28, 9, 9] := by kernel_rfl
  obtain ⟨hl, hg⟩ := leaves 8 _ _ hft fuel _ _ h
  obtain ⟨k, e0, w0⟩ := leaf_int (hg 0 _ rfl) Tryd.underlying28
  obtain ⟨i, e1, w1⟩ := leaf_string (hg 1 _ rfl) Tryd.underlying9
  obtain ⟨t, e2, w2⟩ := leaf_string (hg 2 _ rfl) Tryd.underlying9
  obtain ⟨xs, rfl, _⟩ := okWide_struct Tryd.underlying30 hv
  refine ⟨k, i, t, ?_, w1, w2⟩
  obtain ⟨xs⟩ := xs
  simp only [Value.cells] at hl e0 e1 e2
  obtain ⟨a, b, c, rfl⟩ : ∃ a b c, xs = [a, b, c] := by
    have hl2 : xs.length = 3 := hl
    clear hl e0 e1 e2
    match xs, hl2 with
    | [a, b, c], _ => exact ⟨a, b, c, rfl⟩
  simp at e0 e1 e2
  subst e0 e1 e2
  rfl
end

abbrev synS : ByteArray := { data := #[105, 110, 118, 97, 108, 105, 100, 32, 115, 121, 110, 116, 97, 120] }
abbrev rngS : ByteArray := { data := #[118, 97, 108, 117, 101, 32, 111, 117, 116, 32, 111, 102, 32, 114, 97, 110, 103, 101] }
noncomputable def low : Nat := (World.holding Tryd.prog default ⟨#[], #[], []⟩).heap.size
def litOne (x : DataW Unit) : Value := match x with | .lit (.int k n) => Value.int k n | _ => undef
def litVals (d : DataW Unit) : Array Value := match d with
  | .agg l => (l.flatMap fun x => match x with | .agg m => m.map litOne | y => [litOne y]).toArray
  | _ => #[]
/-- A world for the witness. -/
noncomputable def laidWorld (os : Os) : World :=
  let w0 := World.holding Tryd.prog os ⟨#[.cells #[.string synS] 129, .cells #[.string rngS] 129], #[], []⟩
  let put (h : Array Obj) (g : Nat) (vs : Array Value) : Array Obj := h.modify g fun | .cells _ t frozen => .cells vs t frozen | o => o
  { w0 with heap := put (put (put (put (put (put (put w0.heap 2 #[.iface 127 (.pointer (some ⟨low, 0, none⟩))]) 3 #[.iface 127 (.pointer (some ⟨low + 1, 0, none⟩))])
      1 (litVals Rows.laid_internal_strconv_uint64pow10)) 6 (litVals Rows.laid_math_bits_deBruijn32tab)) 7 (litVals Rows.laid_math_bits_deBruijn64tab))
      5 (litVals Rows.laid_unicode_utf8_acceptRanges)) 4 (litVals Rows.laid_unicode_utf8_first) }
end Go.Proofs.YtmmofcfhenjffaaDoor
