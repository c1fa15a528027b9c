/- What is kept, and areas, that came in, opened; a world in which the library's variables are as the text lays them. No condition. -/
import Derived.Test.YtfgifjdholdohaaDoorSaT
import Derived.Test.YtfgifjdholdohaaDoorFlat
import Derived.Test.YtfgifjdholdohaaDoorLawP
namespace Go.Proofs.YtfgifjdholdohaaDoor
set_option linter.unusedVariables false
set_option linter.unusedSimpArgs false
open Go.ChangeShapes Go.WideShapes Go.ChangeAt Go.RowKit

theorem text_len1000 {s : Sv} (hv : s.ok = true) (hf : s.Fits) : s.text.length ≤ 1000 := by
  obtain ⟨⟨q0, q1, q2, q3⟩, ⟨q4, q5⟩, ⟨q6, q7⟩, q8, q9⟩ := cs_small hv
  have w3 := word_lt hf (s.ok_pen hv)
  have b1 : bitN s.pend ≤ 1 := by unfold bitN; split <;> omega
  have b2 : bitN s.org ≤ 1 := by unfold bitN; split <;> omega
  have h := textN_len (s.nums s.word) (by
    intro x hx
    unfold Sv.nums at hx
    simp only [List.mem_cons, List.not_mem_nil, or_false] at hx
    omega)
  have h8 : (s.nums s.word).length = 8 := rfl
  rw [h8] at h
  exact Nat.le_trans h (by decide)
theorem text_len {s : Sv} (hv : s.ok = true) (hf : s.Fits) : s.text.length ≤ 100000 := Nat.le_trans (text_len1000 hv hf) (by decide)
/-- Eight numbers. -/
structure N8 where
  n0 : Nat
  n1 : Nat
  n2 : Nat
  n3 : Nat
  n4 : Nat
  n5 : Nat
  n6 : Nat
  n7 : Nat
def N8.v (l : N8) : Value := .agg #[.int .u64 l.n0, .int .u64 l.n1, .int .u64 l.n2, .int .u64 l.n3, .int .u64 l.n4, .int .u64 l.n5, .int .u64 l.n6, .int .u64 l.n7]
def N8.lt (l : N8) : Prop := l.n0 < 18446744073709551616 ∧ l.n1 < 18446744073709551616 ∧ l.n2 < 18446744073709551616 ∧ l.n3 < 18446744073709551616 ∧ l.n4 < 18446744073709551616 ∧ l.n5 < 18446744073709551616 ∧ l.n6 < 18446744073709551616 ∧ l.n7 < 18446744073709551616
section
variable {H : Type} {enc : TypeId × Value → H} {w : World} {base : Nat} {spare : Nat → Bool} {held : Bool}
theorem list18 {α : Type} (xs : List α) (h : xs.length = 18) : ∃ y0 y1 y2 y3 y4 y5 y6 y7 y8 y9 y10 y11 y12 y13 y14 y15 y16 y17, xs = [y0, y1, y2, y3, y4, y5, y6, y7, y8, y9, y10, y11, y12, y13, y14, y15, y16, y17] := by
  match xs, h with
  | [y0, y1, y2, y3, y4, y5, y6, y7, y8, y9, y10, y11, y12, y13, y14, y15, y16, y17], _ => exact ⟨_, _, _, _, _, _, _, _, _, _, _, _, _, _, _, _, _, _, rfl⟩
set_option maxRecDepth 100000 in
theorem open_saved {r : Reach} {b0 : Nat} {v : Value} {d : DataW H} {ps : List MemPlace} (hv : Value.okWide Tryd.prog w r b0 35 v) (h : DataW.Trod enc Tryd.prog w base spare held 35 v d ps) :
    ∃ s : Sv, v = s.val ∧ s.Fits := by
  obtain ⟨fuel, h⟩ := h
  have hft : flatT Tryd.prog 8 35 = some [3, 3, 4, 24, 5, 5, 5, 5, 24, 5, 5, 5, 5, 27, 4, 30, 30, 3] := by kernel_rfl
  obtain ⟨hl, hg⟩ := leaves 8 _ _ hft fuel _ _ h
  obtain ⟨row, e0, w0⟩ := leaf_int (hg 0 _ rfl) Tryd.underlying3
  obtain ⟨col, e1, w1⟩ := leaf_int (hg 1 _ rfl) Tryd.underlying3
  obtain ⟨pend, e2⟩ := leaf_bool (hg 2 _ rfl) Tryd.underlying4
  obtain ⟨a0, e3, w3⟩ := leaf_int (hg 3 _ rfl) Tryd.underlying24
  obtain ⟨a1, e4, w4⟩ := leaf_int (hg 4 _ rfl) Tryd.underlying5
  obtain ⟨a2, e5, w5⟩ := leaf_int (hg 5 _ rfl) Tryd.underlying5
  obtain ⟨a3, e6, w6⟩ := leaf_int (hg 6 _ rfl) Tryd.underlying5
  obtain ⟨a4, e7, w7⟩ := leaf_int (hg 7 _ rfl) Tryd.underlying5
  obtain ⟨a5, e8, w8⟩ := leaf_int (hg 8 _ rfl) Tryd.underlying24
  obtain ⟨a6, e9, w9⟩ := leaf_int (hg 9 _ rfl) Tryd.underlying5
  obtain ⟨a7, e10, w10⟩ := leaf_int (hg 10 _ rfl) Tryd.underlying5
  obtain ⟨a8, e11, w11⟩ := leaf_int (hg 11 _ rfl) Tryd.underlying5
  obtain ⟨a9, e12, w12⟩ := leaf_int (hg 12 _ rfl) Tryd.underlying5
  obtain ⟨a10, e13, w13⟩ := leaf_int (hg 13 _ rfl) Tryd.underlying27
  obtain ⟨org, e14⟩ := leaf_bool (hg 14 _ rfl) Tryd.underlying4
  obtain ⟨g0, e15, w15⟩ := leaf_int (hg 15 _ rfl) Tryd.underlying30
  obtain ⟨g1, e16, w16⟩ := leaf_int (hg 16 _ rfl) Tryd.underlying30
  obtain ⟨act, e17, w17⟩ := leaf_int (hg 17 _ rfl) Tryd.underlying3
  obtain ⟨xs, rfl, _⟩ := okWide_struct Tryd.underlying35 hv
  refine ⟨⟨row, col, pend, a0, a1, a2, a3, a4, a5, a6, a7, a8, a9, a10, org, g0, g1, act⟩, ?_, ?_⟩
  · obtain ⟨xs⟩ := xs
    simp only [Value.cells] at hl e0 e1 e2 e3 e4 e5 e6 e7 e8 e9 e10 e11 e12 e13 e14 e15 e16 e17
    obtain ⟨y0, y1, y2, y3, y4, y5, y6, y7, y8, y9, y10, y11, y12, y13, y14, y15, y16, y17, rfl⟩ := list18 xs hl
    simp only [List.getElem?_cons_succ, List.getElem?_cons_zero, Option.some.injEq] at e0 e1 e2 e3 e4 e5 e6 e7 e8 e9 e10 e11 e12 e13 e14 e15 e16 e17
    subst e0 e1 e2 e3 e4 e5 e6 e7 e8 e9 e10 e11 e12 e13 e14 e15 e16 e17
    rfl
  · constructor <;> (simp [Lit.wf, IntKind.min, IntKind.max, IntKind.signed, IntKind.bits] at w4 w5 w6 w7 w9 w10 w11 w12 w13; simp only; omega)
theorem u64_nat {z : Int} (h : (Lit.int .u64 z).wf = true) : ∃ n : Nat, z = n ∧ n < 18446744073709551616 := by
  simp [Lit.wf, IntKind.min, IntKind.max, IntKind.signed, IntKind.bits] at h
  exact ⟨z.toNat, by omega, by omega⟩
set_option maxRecDepth 100000 in
theorem open_nums8 {r : Reach} {b0 : Nat} {v : Value} {d : DataW H} {ps : List MemPlace} (hv : Value.okWide Tryd.prog w r b0 57 v) (h : DataW.Trod enc Tryd.prog w base spare held 57 v d ps) :
    ∃ l : N8, v = l.v ∧ l.lt := by
  obtain ⟨fuel, h⟩ := h
  have hft : flatT Tryd.prog 8 57 = some [49, 49, 49, 49, 49, 49, 49, 49] := by kernel_rfl
  obtain ⟨hl, hg⟩ := leaves 8 _ _ hft fuel _ _ h
  obtain ⟨z0, e0, w0⟩ := leaf_int (hg 0 _ rfl) Tryd.underlying49
  obtain ⟨z1, e1, w1⟩ := leaf_int (hg 1 _ rfl) Tryd.underlying49
  obtain ⟨z2, e2, w2⟩ := leaf_int (hg 2 _ rfl) Tryd.underlying49
  obtain ⟨z3, e3, w3⟩ := leaf_int (hg 3 _ rfl) Tryd.underlying49
  obtain ⟨z4, e4, w4⟩ := leaf_int (hg 4 _ rfl) Tryd.underlying49
  obtain ⟨z5, e5, w5⟩ := leaf_int (hg 5 _ rfl) Tryd.underlying49
  obtain ⟨z6, e6, w6⟩ := leaf_int (hg 6 _ rfl) Tryd.underlying49
  obtain ⟨z7, e7, w7⟩ := leaf_int (hg 7 _ rfl) Tryd.underlying49
  obtain ⟨xs, rfl, _⟩ : ∃ cs, v = .agg cs ∧ cs.size = Tryd.prog.cellsOf 57 := by
    simp only [Value.okWide, Tryd.underlying57] at hv
    obtain ⟨cs, h1, h2, _⟩ := hv
    exact ⟨cs, h1, h2⟩
  obtain ⟨n0, rfl, l0⟩ := u64_nat w0
  obtain ⟨n1, rfl, l1⟩ := u64_nat w1
  obtain ⟨n2, rfl, l2⟩ := u64_nat w2
  obtain ⟨n3, rfl, l3⟩ := u64_nat w3
  obtain ⟨n4, rfl, l4⟩ := u64_nat w4
  obtain ⟨n5, rfl, l5⟩ := u64_nat w5
  obtain ⟨n6, rfl, l6⟩ := u64_nat w6
  obtain ⟨n7, rfl, l7⟩ := u64_nat w7
  refine ⟨⟨n0, n1, n2, n3, n4, n5, n6, n7⟩, ?_, l0, l1, l2, l3, l4, l5, l6, l7⟩
  obtain ⟨xs⟩ := xs
  simp only [Value.cells] at hl e0 e1 e2 e3 e4 e5 e6 e7
  obtain ⟨a, b, c, d, e, f, g, h, rfl⟩ : ∃ a b c d e f g h, xs = [a, b, c, d, e, f, g, h] := by
    have hl2 : xs.length = 8 := hl
    clear hl e0 e1 e2 e3 e4 e5 e6 e7
    match xs, hl2 with
    | [a, b, c, d, e, f, g, h], _ => exact ⟨a, b, c, d, e, f, g, h, rfl⟩
  simp only [List.getElem?_cons_succ, List.getElem?_cons_zero, Option.some.injEq] at e0 e1 e2 e3 e4 e5 e6 e7
  subst e0 e1 e2 e3 e4 e5 e6 e7
  rfl
set_option maxRecDepth 100000 in
theorem open_area {r : Reach} {b0 : Nat} {v : Value} {d : DataW H} {ps : List MemPlace} (hv : Value.okWide Tryd.prog w r b0 39 v) (h : DataW.Trod enc Tryd.prog w base spare held 39 v d ps) :
    ∃ a : Ar, v = a.val := by
  obtain ⟨fuel, h⟩ := h
  have hft : flatT Tryd.prog 8 39 = some [3, 3, 3, 3, 4] := by kernel_rfl
  obtain ⟨hl, hg⟩ := leaves 8 _ _ hft fuel _ _ h
  obtain ⟨rows, e0, w0⟩ := leaf_int (hg 0 _ rfl) Tryd.underlying3
  obtain ⟨cols, e1, w1⟩ := leaf_int (hg 1 _ rfl) Tryd.underlying3
  obtain ⟨top, e2, w2⟩ := leaf_int (hg 2 _ rfl) Tryd.underlying3
  obtain ⟨bot, e3, w3⟩ := leaf_int (hg 3 _ rfl) Tryd.underlying3
  obtain ⟨org, e4⟩ := leaf_bool (hg 4 _ rfl) Tryd.underlying4
  obtain ⟨xs, rfl, _⟩ := okWide_struct Tryd.underlying39 hv
  refine ⟨⟨rows, cols, top, bot, org⟩, ?_⟩
  obtain ⟨xs⟩ := xs
  simp only [Value.cells] at hl e0 e1 e2 e3 e4
  obtain ⟨a, b, c, d, e, rfl⟩ : ∃ a b c d e, xs = [a, b, c, d, e] := by
    have hl2 : xs.length = 5 := hl
    clear hl e0 e1 e2 e3 e4
    match xs, hl2 with
    | [a, b, c, d, e], _ => exact ⟨a, b, c, d, e, rfl⟩
  simp only [List.getElem?_cons_succ, List.getElem?_cons_zero, Option.some.injEq] at e0 e1 e2 e3 e4
  subst e0 e1 e2 e3 e4
  rfl
end
abbrev synS : ByteArray := { data := #[105, 110, 118, 97, 108, 105, 100, 32, 115, 121, 110, 116, 97, 120] }
abbrev rngS : ByteArray := { data := #[118, 97, 108, 117, 101, 32, 111, 117, 116, 32, 111, 102, 32, 114, 97, 110, 103, 101] }
noncomputable def low : Nat := (World.holding Tryd.prog default ⟨#[], #[], []⟩).heap.size
def litOne (x : DataW Unit) : Value := match x with | .lit (.int k n) => Value.int k n | _ => undef
def litVals (d : DataW Unit) : Array Value := match d with
  | .agg l => (l.flatMap fun x => match x with | .agg m => m.map litOne | y => [litOne y]).toArray
  | _ => #[]
/-- A world for the witness. -/
noncomputable def laidWorld (os : Os) : World :=
  let w0 := World.holding Tryd.prog os ⟨#[.cells #[.string synS] 135, .cells #[.string rngS] 135], #[], []⟩
  let put (h : Array Obj) (g : Nat) (vs : Array Value) : Array Obj := h.modify g fun | .cells _ t frozen => .cells vs t frozen | o => o
  { w0 with heap := put (put (put (put (put (put (put w0.heap 0 #[.iface 133 (.pointer (some ⟨low, 0, none⟩))]) 1 #[.iface 133 (.pointer (some ⟨low + 1, 0, none⟩))])
      2 (litVals Rows.laid_internal_strconv_uint64pow10)) 6 (litVals Rows.laid_math_bits_deBruijn32tab)) 7 (litVals Rows.laid_math_bits_deBruijn64tab))
      5 (litVals Rows.laid_unicode_utf8_acceptRanges)) 4 (litVals Rows.laid_unicode_utf8_first) }
end Go.Proofs.YtfgifjdholdohaaDoor
