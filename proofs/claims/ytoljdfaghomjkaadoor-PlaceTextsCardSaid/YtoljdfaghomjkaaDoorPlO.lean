/- Places that came in, opened; a world in which the library's variables are as the text lays them. No condition. -/
import Derived.Test.YtoljdfaghomjkaaDoorPlK
import Derived.Test.YtoljdfaghomjkaaDoorFlat
import Derived.Test.YtoljdfaghomjkaaDoorLawP
namespace Go.Proofs.YtoljdfaghomjkaaDoor
set_option linter.unusedVariables false
set_option linter.unusedSimpArgs false
open Go.ChangeShapes Go.WideShapes Go.ChangeAt Go.RowKit

section
variable {H : Type} {enc : TypeId × Value → H} {w : World} {base : Nat} {spare : Nat → Bool} {held : Bool}
set_option maxRecDepth 100000 in
theorem open_place {r : Reach} {b0 : Nat} {v : Value} {d : DataW H} {ps : List MemPlace} (hv : Value.okWide Tryd.prog w r b0 23 v) (h : DataW.Trod enc Tryd.prog w base spare held 23 v d ps) :
    ∃ l c : Int, v = pl l c ∧ I64 l ∧ I64 c := by
  obtain ⟨fuel, h⟩ := h
  have hft : flatT Tryd.prog 8 23 = some [3, 3] := by kernel_rfl
  obtain ⟨hl, hg⟩ := leaves 8 _ _ hft fuel _ _ h
  obtain ⟨l, e0, w0⟩ := leaf_int (hg 0 _ rfl) Tryd.underlying3
  obtain ⟨c, e1, w1⟩ := leaf_int (hg 1 _ rfl) Tryd.underlying3
  obtain ⟨xs, rfl, _⟩ := okWide_struct Tryd.underlying23 hv
  refine ⟨l, c, ?_, by simpa [Lit.wf, IntKind.min, IntKind.max, IntKind.signed, IntKind.bits] using w0, by simpa [Lit.wf, IntKind.min, IntKind.max, IntKind.signed, IntKind.bits] using w1⟩
  obtain ⟨xs⟩ := xs
  simp only [Value.cells] at hl e0 e1
  obtain ⟨a, b, rfl⟩ : ∃ a b, xs = [a, b] := by
    have hl2 : xs.length = 2 := hl
    clear hl e0 e1
    match xs, hl2 with
    | [a, b], _ => exact ⟨a, b, rfl⟩
  simp at e0 e1
  subst e0 e1
  rfl
end

abbrev synS : ByteArray := { data := #[105, 110, 118, 97, 108, 105, 100, 32, 115, 121, 110, 116, 97, 120] }
abbrev rngS : ByteArray := { data := #[118, 97, 108, 117, 101, 32, 111, 117, 116, 32, 111, 102, 32, 114, 97, 110, 103, 101] }
noncomputable def low : Nat := (World.holding Tryd.prog default ⟨#[], #[], []⟩).heap.size
def litVals (d : DataW Unit) : Array Value := match d with
  | .agg l => (l.map fun x => match x with | .lit (.int k n) => Value.int k n | _ => undef).toArray
  | _ => #[]
/-- A world for the witness. -/
noncomputable def laidWorld (os : Os) : World :=
  let w0 := World.holding Tryd.prog os ⟨#[.cells #[.string synS] 106, .cells #[.string rngS] 106], #[], []⟩
  let put (h : Array Obj) (g : Nat) (vs : Array Value) : Array Obj := h.modify g fun | .cells _ t frozen => .cells vs t frozen | o => o
  { w0 with heap := put (put (put (put (put w0.heap 1 #[.iface 104 (.pointer (some ⟨low, 0, none⟩))]) 2 #[.iface 104 (.pointer (some ⟨low + 1, 0, none⟩))])
      3 (litVals Rows.laid_internal_strconv_uint64pow10)) 4 (litVals Rows.laid_math_bits_deBruijn32tab)) 5 (litVals Rows.laid_math_bits_deBruijn64tab) }
end Go.Proofs.YtoljdfaghomjkaaDoor
