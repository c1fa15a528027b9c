/- What the library's functions ask of a world, and what they give (26). No condition. -/
import Derived.Test.YtmmofcfhenjffaaDoorSeq
import Derived.Test.YtmmofcfhenjffaaDoorShelf
import Derived.Stop.LaidErr
import Derived.Lib.SmallJoins
import Derived.Lib.AtoiErrMem
import Derived.Lib.AppendIntMem
import Derived.WalkSmall
import Derived.Lib.LaidTab
namespace Go.Proofs.YtmmofcfhenjffaaDoor
set_option linter.unusedVariables false
set_option linter.unusedSimpArgs false
open Go.RowKit

/-- What the library's variables hold. -/
structure Std (w : World) : Prop where
  m : ∃ m, w.cell? ⟨0, 0, none⟩ = some (.int .i64 m)
  es : ∃ t p, w.cell? ⟨2, 0, none⟩ = some (.iface t p)
  er : ∃ t p, w.cell? ⟨3, 0, none⟩ = some (.iface t p)
  tab : Lib.TabIs Tryd.prog w "internal/strconv.uint64pow10" .u64 Lib.pow10Tab
theorem gTab : Tryd.prog.globalNamed "internal/strconv.uint64pow10" = some 1 := by kernel_rfl
theorem Std.sees {w W : World} (h : Std w) (hs : Sees w W) : Std W := by
  obtain ⟨⟨m, h1⟩, ⟨t, p, h2⟩, ⟨t', p', h3⟩, h4⟩ := h
  exact ⟨⟨m, hs.cell h1⟩, ⟨t, p, hs.cell h2⟩, ⟨t', p', hs.cell h3⟩, Joins.tab_stays gTab h4 hs.below (Nat.le_refl _)⟩

theorem itoa_any (n : Int) (h : -9223372036854775808 ≤ n ∧ n ≤ 9223372036854775807) (w : World) (hw : Std w) :
    Calls Tryd.prog 31 #[.int .i64 n] w fun e w' => e = .returned (.string ⟨(Lib.itoa n).toArray⟩) ∧ Sees w w' :=
  (Any.strconv_Itoa Tryd.laysM171 n h.1 h.2 w hw.tab).mono fun e w' ⟨he, k, os, hw'⟩ => ⟨he, by rw [hw']; exact Lib.below_grow _ w (Nat.le_refl _) k os⟩
theorem cut_any (s : ByteArray) (hs : s.size < 4294967281) (b : UInt8) (w : World) (hw : Std w) :
    Calls Tryd.prog 34 #[.string s, .string ⟨#[b]⟩] w fun e w' => e = .returned (.tuple #[.string ⟨(Lib.cut s.data.toList [b]).1.toArray⟩, .string ⟨(Lib.cut s.data.toList [b]).2.1.toArray⟩, .bool (Lib.cut s.data.toList [b]).2.2]) ∧ Sees w w' := by
  obtain ⟨⟨m, h1⟩, _, _, _⟩ := hw
  exact (Any.strings_Cut { Tryd.laysM145 with } s ⟨#[b]⟩ m w hs h1).mono fun e w' ⟨he, n, hw'⟩ => ⟨he, by rw [hw']; exact below_drewN (Below.refl _ w) n⟩
theorem split_any (s : ByteArray) (hs : s.size < 4294967281) (b : UInt8) (w : World) (hw : Std w) :
    Calls Tryd.prog 35 #[.string s, .string ⟨#[b]⟩] w fun e w' =>
      e = .returned (.slice (some ⟨w.heap.size, 0, none⟩) (Lib.countB s ⟨#[b]⟩ + 1) (Lib.countB s ⟨#[b]⟩ + 1)) ∧ w' = w.alloc (.cells ((Lib.splitB ⟨#[b]⟩ 0 (Lib.countB s ⟨#[b]⟩) s).map Value.string).toArray 9) := by
  obtain ⟨⟨m, h1⟩, _, _, _⟩ := hw
  exact Any.strings_Split { Tryd.laysM146 with } (by kernel_rfl) s ⟨#[b]⟩ m w hs h1 (Nat.le_refl 1)
theorem trim_any (s : ByteArray) (hs : s.size < 4294967281) (w : World) :
    Calls Tryd.prog 42 #[.string s, .string ⟨#[48, 49, 50, 51, 52, 53, 54, 55, 56, 57]⟩] w fun e w' => e = .returned (.string ⟨(Lib.trimS s.data.toList [48, 49, 50, 51, 52, 53, 54, 55, 56, 57]).toArray⟩) ∧ Sees w w' :=
  Any.strings_Trim_laid Tryd.lays160 (by kernel_rfl) s ⟨#[48, 49, 50, 51, 52, 53, 54, 55, 56, 57]⟩ w (by omega) (by decide) (ascii_of_all (by decide))
theorem cutp_any (s p : ByteArray) (w : World) :
    Calls Tryd.prog 36 #[.string s, .string p] w fun e w' => e = .returned (.tuple #[.string ⟨(Lib.trimPrefix s.data.toList p.data.toList).toArray⟩, .bool (Lib.hasPrefix s.data.toList p.data.toList)]) ∧ w' = w :=
  Any.strings_CutPrefix Tryd.lays103 s p w
theorem hasp_any (s p : ByteArray) (w : World) :
    Calls Tryd.prog 23 #[.string s, .string p] w fun e w' => e = .returned (.bool (Lib.hasPrefix s.data.toList p.data.toList)) ∧ w' = w :=
  Any.strings_HasPrefix Tryd.lays99 s p w
theorem ixb_any (s : ByteArray) (c : Int) (w : World) :
    Calls Tryd.prog 50 #[.string s, .int .u8 c] w fun e w' => e = .returned (.int .i64 (Lib.indexByte s.data.toList c.toNat.toUInt8)) ∧ w' = w :=
  Any.strings_IndexByte Tryd.lays137 s c w
theorem runelen_any (r : Int) (w : World) :
    Calls Tryd.prog 22 #[.int .i32 r] w fun e w' => e = .returned (.int .i64 (Lib.runeLen r)) ∧ w' = w :=
  Any.utf8_RuneLen Tryd.lays118 r w
/-- A numeral's number, or an error. -/
def IsAtoi (s : ByteArray) (v : Int) (ev : Value) : Prop :=
  (Lib.atoiAll s.data.toList = .ok v ∧ ev = .nilIface) ∨ ((∀ u, Lib.atoiAll s.data.toList ≠ .ok u) ∧ ∃ t p, ev = .iface t p)
theorem atoi_any (s : ByteArray) (hs : s.size ≤ 281474976710656) (w : World) (hw : Std w) :
    Calls Tryd.prog 43 #[.string s] w fun e w' => ∃ v ev, e = .returned (.tuple #[.int .i64 v, ev]) ∧ IsAtoi s v ev ∧ (-9223372036854775808 ≤ v ∧ v ≤ 9223372036854775807) ∧ Sees w w' := by
  obtain ⟨_, ⟨t, p, h2⟩, ⟨t', p', h3⟩, _⟩ := hw
  cases h : Lib.atoiAll s.data.toList
  case ok v =>
    refine (Any.strconv_Atoi_ok Tryd.laysC172 s (by omega) v h w).mono fun e w' ⟨he, hw'⟩ => ⟨v, .nilIface, he, .inl ⟨h, rfl⟩, Lib.atoiAll_bounds h, ?_⟩
    rcases hw' with rfl | ⟨t, rfl⟩
    · exact Sees.refl _
    · exact Lib.bytesWorld_below _ _ _
  case range =>
    exact (Any.strconv_Atoi_range Tryd.laysC172 s hs h _ w h3 (.inr ⟨_, _, rfl⟩)).mono fun e w' ⟨N, he, _, _, hb⟩ => ⟨_, _, he, .inr ⟨fun u hu => by (rw [h] at hu; cases hu), _, _, rfl⟩, Lib.atoiSat_bounds _, hb⟩
  exact (Any.strconv_Atoi_syntax Tryd.laysC172 s hs h _ w h2 (.inr ⟨_, _, rfl⟩)).mono fun e w' ⟨N, he, _, _, hb⟩ => ⟨0, _, he, .inr ⟨fun u hu => by (rw [h] at hu; cases hu), _, _, rfl⟩, by omega, hb⟩

theorem star : "*" ++ "errors.errorString" = "*errors.errorString" := by decide
theorem rowErr (u : TypeId) (h : Tryd.prog.typeName? 3 u = some "*errors.errorString") : u = 127 :=
  typeName_ptr_named (nm := "errors.errorString") (by rw [star]; kernel_rfl) (by kernel_rfl) (by decide) u (by rw [star]; exact h)
theorem std_of_laid {W : World} (h : laidMet Tryd.prog Rows.titleCleansRow.laid W) (hsh : W.ShapedOpen Tryd.prog) : Std W := by
  have h3 := h.tail.tail
  have h4 := h3.tail.tail
  have h5 := h4.tail
  have ht := Lib.tabIs_of_head (k := .u64) (zs := Lib.pow10Tab) gTab (t := 109) (by kernel_rfl) Tryd.underlying109 Tryd.underlying92 (by kernel_rfl) (by kernel_rfl) h3
  have gR : Tryd.prog.globalNamed "strconv.ErrRange" = some 3 := by kernel_rfl
  have gS : Tryd.prog.globalNamed "strconv.ErrSyntax" = some 2 := by kernel_rfl
  obtain ⟨a0, s0, hv0, -, -, -⟩ := laid_sentinel h4 gR (ti := 54) (by kernel_rfl) Tryd.underlying54 rowErr Tryd.underlying127 Tryd.underlying129 rfl rfl Tryd.underlying9 (by kernel_rfl) (by kernel_rfl)
  obtain ⟨a1, s1, hv1, -, -, -⟩ := laid_sentinel h5 gS (ti := 54) (by kernel_rfl) Tryd.underlying54 rowErr Tryd.underlying127 Tryd.underlying129 rfl rfl Tryd.underlying9 (by kernel_rfl) (by kernel_rfl)
  exact ⟨Tryd.laysM145.s1_3 W hsh, ⟨_, _, by have q := World.var?_cell gS hv1 0; simpa using q⟩, ⟨_, _, by have q := World.var?_cell gR hv0 0; simpa using q⟩, ht⟩
end Go.Proofs.YtmmofcfhenjffaaDoor
