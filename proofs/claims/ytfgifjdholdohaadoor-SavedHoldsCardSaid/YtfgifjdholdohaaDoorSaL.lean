/- What the library's functions ask of a world, and what they give (23): FormatUint, ParseUint, Join, Split. No condition. -/
import Derived.Test.YtfgifjdholdohaaDoorSeq
import Derived.Test.YtfgifjdholdohaaDoorShelf
import Derived.Test.YtfgifjdholdohaaDoorSaP
import Derived.Stop.LaidErr
import Derived.Lib.SmallJoins
import Derived.Lib.AtoiErrMem
import Derived.Lib.AppendIntMem
import Derived.Lib.ItoaMem
import Derived.Lib.ParseIntBMem
import Derived.Lib.Join
import Derived.WalkSmall
import Derived.Lib.LaidTab
import Derived.BigCall
import Derived.BigGuard
namespace Go.Proofs.YtfgifjdholdohaaDoor
set_option linter.unusedVariables false
set_option linter.unusedSimpArgs false
open Go.RowKit Go.Shelf Go.Sort Go.Lib

/-- What the library's variables hold. -/
structure Std (w : World) : Prop where
  m : ∃ m, w.cell? ⟨3, 0, none⟩ = some (.int .i64 m)
  es : ∃ t p, w.cell? ⟨0, 0, none⟩ = some (.iface t p)
  er : ∃ t p, w.cell? ⟨1, 0, none⟩ = some (.iface t p)
  tab : Lib.TabIs Tryd.prog w "internal/strconv.uint64pow10" .u64 Lib.pow10Tab
theorem gTab : Tryd.prog.globalNamed "internal/strconv.uint64pow10" = some 2 := by kernel_rfl
theorem Std.sees {w W : World} (h : Std w) (hs : Sees w W) : Std W := by
  obtain ⟨⟨m, h1⟩, ⟨t, p, h2⟩, ⟨t', p', h3⟩, h4⟩ := h
  exact ⟨⟨m, hs.cell h1⟩, ⟨t, p, hs.cell h2⟩, ⟨t', p', hs.cell h3⟩, Joins.tab_stays gTab h4 hs.below (Nat.le_refl _)⟩


theorem split_any (s : ByteArray) (hs : s.size < 4294967281) (b : UInt8) (w : World) (hw : Std w) :
    Calls Tryd.prog 34 #[.string s, .string ⟨#[b]⟩] w fun e w' =>
      e = .returned (.slice (some ⟨w.heap.size, 0, none⟩) (Lib.countB s ⟨#[b]⟩ + 1) (Lib.countB s ⟨#[b]⟩ + 1)) ∧ w' = w.alloc (.cells ((Lib.splitB ⟨#[b]⟩ 0 (Lib.countB s ⟨#[b]⟩) s).map Value.string).toArray 9) := by
  obtain ⟨⟨m, h1⟩, _, _, _⟩ := hw
  exact Any.strings_Split { Tryd.laysM146 with } (by kernel_rfl) s ⟨#[b]⟩ m w hs h1 (Nat.le_refl 1)
theorem join_any (bk o c : Nat) (xs : List ByteArray) (sep : ByteArray) (w : World) (hcells : ∀ (j : Nat) x, xs[j]? = some x → w.cell? ⟨bk, o + j, none⟩ = some (.string x)) (hbk : bk < w.heap.size) (hN : xs.length ≤ 140737488355328) (hcap : xs.length ≤ c) (hlen : (Lib.join (xs.map (·.data.toList)) sep.data.toList).length ≤ 140737488355328) :
    Calls Tryd.prog 40 #[.slice (some ⟨bk, o, none⟩) xs.length c, .string sep] w fun e w' => e = .returned (.string ⟨(Lib.join (xs.map (·.data.toList)) sep.data.toList).toArray⟩) ∧ Sees w w' :=
  Any.strings_Join Tryd.lays156 Tryd.Builder_Extra_156 bk o c xs sep w hcells hbk hN hcap hlen
set_option maxHeartbeats 6400000 in
set_option maxRecDepth 100000 in
theorem fmtU0 (u : Nat) (hu64 : u < 18446744073709551616) (w : World) (hw : Std w) :
    Calls Tryd.prog 46 #[.int .u64 u, .int .i64 10] w fun e w' => e = .returned (.string ⟨(Lib.decDigits u).toArray⟩) ∧ Sees w w' := by
  have htab := hw.tab
  clear hw
  by_cases hs : u < 100
  · have t0 : ((u : Int) < 100) := by omega
    have c0 : IntKind.i64.wrap (u : Int) = u := by rw [IntKind.wrap_i64]; omega
    have k0 := Any.internal_strconv_small Tryd.lays283 u hs w
    go_enter Tryd.func46, Tryd.ntmps46
    go_wp2_with fail
    refine k0.mono ?_
    rintro e w' ⟨rfl, rfl⟩
    go_wp2
    go_ret
    exact ⟨rfl, Sees.refl _⟩
  · have hu1 : 1 ≤ u := by omega
    have t0 : ¬ ((u : Int) < 100) := by omega
    have hnd20 : Lib.nDigits u ≤ 20 := by have := Lib.numDigits_eq u hu1 hu64; split at this <;> omega
    have hal : Tryd.prog.arrayLen 109 = 24 := by kernel_rfl
    have hsl1 : ∀ W, (Instr.sliceAt 109 (.pointer (some ⟨w.heap.size, 0, none⟩)) none (some (.int .i64 (Lib.nDigits u : Int))) none).run Tryd.prog W = .ok (.slice (some ⟨w.heap.size, 0, none⟩) (Lib.nDigits u) 24) W := fun W => by
      rw [run_sliceAt_array_h W 109 ⟨w.heap.size, 0, none⟩ (by simp [Program.arrayLen, Program.elem, Tryd.underlying109]) .i64 (Lib.nDigits u : Int) (by omega) (by rw [hal]; omega)]
      go_simp
    have hH0 := Lib.holds_zero0 w 109 (Lib.nDigits u) (by omega)
    have hfmt := Any.internal_strconv_formatBase10 Tryd.lays285 w.heap.size 0 24 u (Array.replicate (Lib.nDigits u) 0) (w.alloc (.cells Lib.zeros24 109)) hH0 (by rw [Array.size_replicate]; exact Lib.lt_pow_nDigits u) hu64 (by rw [Array.size_replicate]; omega)
    rw [Array.size_replicate] at hfmt
    have HH0 := Lib.hid hH0
    have hnum := Any.internal_strconv_numDigits Tryd.laysM284 u hu1 hu64 _ (Lib.tabIs_alloc htab (.cells Lib.zeros24 109))
    clear hH0 hal
    go_enter Tryd.func46, Tryd.ntmps46
    go_wp2_with fail
    refine hnum.mono ?_
    rintro e w' ⟨rfl, rfl⟩
    go_wp2_with fail
    refine hfmt.mono ?_
    rintro e w' ⟨rfl, k, v', dk, rfl, hF⟩
    have hcv : (convert 83 9 (.slice (some ⟨w.heap.size, 0, none⟩) (Lib.nDigits u) 24)).run Tryd.prog ((putRow (fun (b : UInt8) => Value.int .u8 (b.toNat : Int)) (w.alloc (.cells Lib.zeros24 109)) w.heap.size 0 dk).drewN k) = .ok (.string ⟨(Lib.decDigits u).toArray⟩) ((putRow (fun (b : UInt8) => Value.int .u8 (b.toNat : Int)) (w.alloc (.cells Lib.zeros24 109)) w.heap.size 0 dk).drewN k) := by
      have h := run_convert_bytes_back (P := Tryd.prog) ((putRow (fun (b : UInt8) => Value.int .u8 (b.toNat : Int)) (w.alloc (.cells Lib.zeros24 109)) w.heap.size 0 dk).drewN k) 83 9 5 ⟨w.heap.size, 0, none⟩ 24 (Lib.decDigits u) Tryd.underlying83 Tryd.underlying5 Tryd.underlying9 (fun j hj => by
        rw [Lib.row_is_numeral hF j hj, Lib.add_plain, World.cell?_drewN]
        exact cell?_putRow (fun (b : UInt8) => Value.int .u8 (b.toNat : Int)) _ w.heap.size 0 _ dk HH0.out (by rw [hF.size, Array.size_replicate]) j (by rw [hF.size]; rw [Lib.decDigits_length] at hj; exact hj))
      rw [Lib.decDigits_length] at h
      exact h
    go_wp2
    go_ret
    refine ⟨rfl, ?_⟩
    have hb : Sees w ((putRow (fun (b : UInt8) => Value.int .u8 (b.toNat : Int)) (w.alloc (.cells Lib.zeros24 109)) w.heap.size 0 dk).drewN k) := by
      rw [alloc_eq_grow]
      obtain ⟨os', _, e⟩ := putRow_grow_new (fun (b : UInt8) => Value.int .u8 (b.toNat : Int)) w #[.cells Lib.zeros24 109] w.heap.size 0 dk (Nat.le_refl _)
      rw [e]
      exact Lib.below_grow _ w (Nat.le_refl _) k os'
    exact hb
theorem fmtU_any (u : Nat) (hu64 : u < 18446744073709551616) (w : World) (hw : Std w) :
    Calls Tryd.prog 39 #[.int .u64 u, .int .i64 10] w fun e w' => e = .returned (.string ⟨(Lib.decDigits u).toArray⟩) ∧ Sees w w' := by
  have k0 := fmtU0 u hu64 w hw
  clear hw
  go_enter Tryd.func39, Tryd.ntmps39
  go_wp2_with fail
  refine k0.mono ?_
  rintro e w' ⟨rfl, s⟩
  go_wp2
  go_ret
  exact ⟨rfl, s⟩
/-- A numeral's number, or an error. -/
def IsParseU (s : ByteArray) (v : Nat) (ev : Value) : Prop :=
  (Lib.parseUintB 64 s.data.toList = .ok v ∧ ev = .nilIface) ∨ ((∀ u, Lib.parseUintB 64 s.data.toList ≠ .ok u) ∧ ∃ t p, ev = .iface t p)
theorem parseU_any (s : ByteArray) (hs : s.size ≤ 281474976710656) (w : World) (hw : Std w) :
    Calls Tryd.prog 35 #[.string s, .int .i64 10, .int .i64 64] w fun e w' => ∃ v ev, e = .returned (.tuple #[.int .u64 (v : Nat), ev]) ∧ IsParseU s v ev ∧ v < 18446744073709551616 ∧ Sees w w' := by
  obtain ⟨_, ⟨t, p, h2⟩, ⟨t', p', h3⟩, _⟩ := hw
  cases h : Lib.parseUintB 64 s.data.toList
  case ok u =>
    refine (Any.strconv_ParseUint_10_at64_ok Tryd.laysPu14 s (by omega) u h w).mono fun e w' ⟨he, hw'⟩ => ⟨u, .nilIface, he, .inl ⟨h, rfl⟩, ?_, ?_⟩
    · have h0 : s.data.toList ≠ [] := fun e => by unfold Lib.parseUintB at h; rw [if_pos e] at h; cases h
      unfold Lib.parseUintB at h
      rw [if_neg h0, parseM_eq] at h
      exact Lib.parseUint10_lt _ 0 u (by omega) h
    · rcases hw' with rfl | rfl
      · exact Sees.refl _
      · exact Lib.bytesWorld_below _ _ _
  case range =>
    exact (Any.strconv_ParseUint_10_at64_range Tryd.laysPu14 s hs h _ w h3 (.inr ⟨_, _, rfl⟩)).mono fun e w' ⟨N, he, _, _, hb⟩ => ⟨18446744073709551615, _, he, .inr ⟨fun u hu => by (rw [h] at hu; cases hu), _, _, rfl⟩, by omega, hb⟩
  exact (Any.strconv_ParseUint_10_at64_syntax Tryd.laysPu14 s hs h _ w h2 (.inr ⟨_, _, rfl⟩)).mono fun e w' ⟨N, he, _, _, hb⟩ => ⟨0, _, he, .inr ⟨fun u hu => by (rw [h] at hu; cases hu), _, _, rfl⟩, by omega, hb⟩

theorem star : "*" ++ "errors.errorString" = "*errors.errorString" := by decide
theorem rowErr (u : TypeId) (h : Tryd.prog.typeName? 3 u = some "*errors.errorString") : u = 133 :=
  typeName_ptr_named (nm := "errors.errorString") (by rw [star]; kernel_rfl) (by kernel_rfl) (by decide) u (by rw [star]; exact h)
theorem std_of_laid {W : World} (h : laidMet Tryd.prog Rows.savedRestoresRow.laid W) (hsh : W.ShapedOpen Tryd.prog) : Std W := by
  have h3 := h.tail.tail
  have h4 := h3.tail.tail
  have h5 := h4.tail
  have ht := Lib.tabIs_of_head (k := .u64) (zs := Lib.pow10Tab) gTab (t := 125) (by kernel_rfl) Tryd.underlying125 Tryd.underlying49 (by kernel_rfl) (by kernel_rfl) h3
  have gR : Tryd.prog.globalNamed "strconv.ErrRange" = some 1 := by kernel_rfl
  have gS : Tryd.prog.globalNamed "strconv.ErrSyntax" = some 0 := by kernel_rfl
  obtain ⟨a0, s0, hv0, -, -, -⟩ := laid_sentinel h4 gR (ti := 79) (by kernel_rfl) Tryd.underlying79 rowErr Tryd.underlying133 Tryd.underlying135 rfl rfl Tryd.underlying9 (by kernel_rfl) (by kernel_rfl)
  obtain ⟨a1, s1, hv1, -, -, -⟩ := laid_sentinel h5 gS (ti := 79) (by kernel_rfl) Tryd.underlying79 rowErr Tryd.underlying133 Tryd.underlying135 rfl rfl Tryd.underlying9 (by kernel_rfl) (by kernel_rfl)
  exact ⟨Tryd.laysM146.s1_3 W hsh, ⟨_, _, by have q := World.var?_cell gS hv1 0; simpa using q⟩, ⟨_, _, by have q := World.var?_cell gR hv0 0; simpa using q⟩, ht⟩
end Go.Proofs.YtfgifjdholdohaaDoor
