/- What the library's functions ask of a world, and what they give: numerals, and a string cut in two. No condition. -/
import Derived.Test.YtoljdfaghomjkaaDoorPlB
import Derived.Test.YtoljdfaghomjkaaDoorShelf
import Derived.Stop.LaidErr
import Derived.Lib.SmallJoins
import Derived.Lib.AtoiErrMem
import Derived.Lib.AppendIntMem
import Derived.WalkSmall
import Derived.Lib.LaidTab
namespace Go.Proofs.YtoljdfaghomjkaaDoor
set_option linter.unusedVariables false
set_option linter.unusedSimpArgs false
open Go.RowKit

/-- What the library's variables hold. -/
structure Std (w : World) : Prop where
  m : ∃ m, w.cell? ⟨0, 0, none⟩ = some (.int .i64 m)
  es : ∃ t p, w.cell? ⟨1, 0, none⟩ = some (.iface t p)
  er : ∃ t p, w.cell? ⟨2, 0, none⟩ = some (.iface t p)
  tab : Lib.TabIs Tryd.prog w "internal/strconv.uint64pow10" .u64 Lib.pow10Tab
theorem gTab : Tryd.prog.globalNamed "internal/strconv.uint64pow10" = some 3 := by kernel_rfl
theorem Std.sees {w W : World} (h : Std w) (hs : Sees w W) : Std W := by
  obtain ⟨⟨m, h1⟩, ⟨t, p, h2⟩, ⟨t', p', h3⟩, h4⟩ := h
  exact ⟨⟨m, hs.cell h1⟩, ⟨t, p, hs.cell h2⟩, ⟨t', p', hs.cell h3⟩, Joins.tab_stays gTab h4 hs.below (Nat.le_refl _)⟩

/-- A variable that holds a place. -/
def PlAt (W : World) (b : Nat) (l c : Int) : Prop := W.heap[b]? = some (.cells #[.int .i64 l, .int .i64 c] 23 (0, 0))
namespace PlAt
variable {W W' : World} {b : Nat} {l c : Int}
theorem sees (h : PlAt W b l c) (hs : Sees W W') : PlAt W' b l c := by
  unfold PlAt; rw [hs.block _ (Array.getElem?_eq_some_iff.1 h).1]; exact h
theorem new (W : World) (l c : Int) : PlAt (W.alloc (.cells #[.int .i64 l, .int .i64 c] 23)) W.heap.size l c := heap_alloc_new W _
theorem lt (h : PlAt W b l c) : b < W.heap.size := (Array.getElem?_eq_some_iff.1 h).1
theorem cs (h : PlAt W b l c) : W.cell? ⟨b, 0, none⟩ = some (.int .i64 l) ∧ W.cell? ⟨b, 1, none⟩ = some (.int .i64 c) := by
  rw [cell_of_row _ _ _ _ _ _ h, cell_of_row _ _ _ _ _ _ h]; exact ⟨rfl, rfl⟩
theorem fr (h : PlAt W b l c) : W.frozen? ⟨b, 0, none⟩ = false ∧ W.frozen? ⟨b, 1, none⟩ = false := ⟨frozen_of_row W b 0 _ _ h, frozen_of_row W b 1 _ _ h⟩
end PlAt

theorem itoa_any (n : Int) (h : -9223372036854775808 ≤ n ∧ n ≤ 9223372036854775807) (w : World) (hw : Std w) :
    Calls Tryd.prog 37 #[.int .i64 n] w fun e w' => e = .returned (.string ⟨(Lib.itoa n).toArray⟩) ∧ Sees w w' :=
  (Any.strconv_Itoa Tryd.laysM171 n h.1 h.2 w hw.tab).mono fun e w' ⟨he, k, os, hw'⟩ => ⟨he, by rw [hw']; exact Lib.below_grow _ w (Nat.le_refl _) k os⟩
theorem cut_any (s : ByteArray) (hs : s.size < 4294967281) (w : World) (hw : Std w) :
    Calls Tryd.prog 39 #[.string s, .string ⟨#[58]⟩] w fun e w' => e = .returned (.tuple #[.string ⟨(Lib.cut s.data.toList [58]).1.toArray⟩, .string ⟨(Lib.cut s.data.toList [58]).2.1.toArray⟩, .bool (Lib.cut s.data.toList [58]).2.2]) ∧ Sees w w' := by
  obtain ⟨⟨m, h1⟩, _, _, _⟩ := hw
  exact (Any.strings_Cut { Tryd.laysM145 with } s ⟨#[58]⟩ m w hs h1).mono fun e w' ⟨he, n, hw'⟩ => ⟨he, by rw [hw']; exact below_drewN (Below.refl _ w) n⟩
/-- A numeral's number, or an error. -/
def IsAtoi (s : ByteArray) (v : Int) (ev : Value) : Prop :=
  (Lib.atoiAll s.data.toList = .ok v ∧ ev = .nilIface) ∨ ((∀ u, Lib.atoiAll s.data.toList ≠ .ok u) ∧ ∃ t p, ev = .iface t p)
theorem atoi_any (s : ByteArray) (hs : s.size ≤ 281474976710656) (w : World) (hw : Std w) :
    Calls Tryd.prog 40 #[.string s] w fun e w' => ∃ v ev, e = .returned (.tuple #[.int .i64 v, ev]) ∧ IsAtoi s v ev ∧ (-9223372036854775808 ≤ v ∧ v ≤ 9223372036854775807) ∧ Sees w w' := by
  obtain ⟨_, ⟨t, p, h2⟩, ⟨t', p', h3⟩, _⟩ := hw
  cases h : Lib.atoiAll s.data.toList
  case ok v =>
    refine (Any.strconv_Atoi_ok Tryd.laysC172 s (by omega) v h w).mono fun e w' ⟨he, hw'⟩ => ⟨v, .nilIface, he, .inl ⟨h, rfl⟩, Lib.atoiAll_bounds h, ?_⟩
    rcases hw' with rfl | ⟨t, rfl⟩
    · exact Sees.refl _
    · exact Lib.bytesWorld_below _ _ _
  case range =>
    exact (Any.strconv_Atoi_range Tryd.laysC172 s hs h _ w h3 (.inr ⟨_, _, rfl⟩)).mono fun e w' ⟨N, he, _, _, hb⟩ => ⟨_, _, he, .inr ⟨fun u hu => by (rw [h] at hu; cases hu), _, _, rfl⟩, Lib.atoiSat_bounds _, hb⟩
  exact (Any.strconv_Atoi_syntax Tryd.laysC172 s hs h _ w h2 (.inr ⟨_, _, rfl⟩)).mono fun e w' ⟨N, he, _, _, hb⟩ => ⟨0, _, he, .inr ⟨fun u hu => by (rw [h] at hu; cases hu), _, _, rfl⟩, by omega, hb⟩

theorem star : "*" ++ "errors.errorString" = "*errors.errorString" := by decide
theorem rowErr (u : TypeId) (h : Tryd.prog.typeName? 3 u = some "*errors.errorString") : u = 104 :=
  typeName_ptr_named (nm := "errors.errorString") (by rw [star]; kernel_rfl) (by kernel_rfl) (by decide) u (by rw [star]; exact h)
theorem std_of_laid {W : World} (h : laidMet Tryd.prog Rows.placeComparesRow.laid W) (hsh : W.ShapedOpen Tryd.prog) : Std W := by
  have h3 := h.tail.tail
  have h4 := h3.tail
  have h5 := h4.tail
  have ht := Lib.tabIs_of_head (k := .u64) (zs := Lib.pow10Tab) gTab (t := 95) (by kernel_rfl) Tryd.underlying95 Tryd.underlying80 (by kernel_rfl) (by kernel_rfl) h3
  have gR : Tryd.prog.globalNamed "strconv.ErrRange" = some 2 := by kernel_rfl
  have gS : Tryd.prog.globalNamed "strconv.ErrSyntax" = some 1 := by kernel_rfl
  obtain ⟨a0, s0, hv0, -, -, -⟩ := laid_sentinel h4 gR (ti := 67) (by kernel_rfl) Tryd.underlying67 rowErr Tryd.underlying104 Tryd.underlying106 rfl rfl Tryd.underlying9 (by kernel_rfl) (by kernel_rfl)
  obtain ⟨a1, s1, hv1, -, -, -⟩ := laid_sentinel h5 gS (ti := 67) (by kernel_rfl) Tryd.underlying67 rowErr Tryd.underlying104 Tryd.underlying106 rfl rfl Tryd.underlying9 (by kernel_rfl) (by kernel_rfl)
  exact ⟨Tryd.laysM145.s1_3 W hsh, ⟨_, _, by have q := World.var?_cell gS hv1 0; simpa using q⟩, ⟨_, _, by have q := World.var?_cell gR hv0 0; simpa using q⟩, ht⟩
end Go.Proofs.YtoljdfaghomjkaaDoor
