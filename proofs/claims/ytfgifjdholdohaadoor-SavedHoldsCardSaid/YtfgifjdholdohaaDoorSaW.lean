/- pen.bits, color, Pack, Unpack (23). No condition. -/
import Derived.Test.YtfgifjdholdohaaDoorPen
import Derived.Test.YtfgifjdholdohaaDoorSaP
import Derived.Test.YtfgifjdholdohaaDoorSeq
import Derived.BigCall
import Derived.IntWalk
namespace Go.Proofs.YtfgifjdholdohaaDoor
set_option linter.unusedVariables false
set_option linter.unusedSimpArgs false
open Go.RowKit

theorem bv64 {x : Nat} (h : x < 18446744073709551616) : (BitVec.ofInt 64 (x : Int)).toNat = x := by
  rw [BitVec.ofInt_natCast, BitVec.toNat_ofNat]
  exact Nat.mod_eq_of_lt h
theorem wrap64 {x : Nat} (h : x < 18446744073709551616) : IntKind.u64.wrap (x : Int) = (x : Int) := by
  show (x : Int) % (2 ^ 64 : Int) = x
  exact Int.emod_eq_of_lt (by omega) (by omega)
/-- Bits beside each other: or is plus. -/
theorem or_plus (k : Nat) {m y : Nat} (hy : y < 2 ^ k) (hs : 2 ^ k * m + y < 18446744073709551616) : bits .or .u64 ((2 ^ k * m : Nat) : Int) (y : Int) = ((2 ^ k * m + y : Nat) : Int) := by
  unfold bits
  simp only
  have e : (BitVec.ofInt IntKind.u64.bits ((2 ^ k * m : Nat) : Int) ||| BitVec.ofInt IntKind.u64.bits (y : Int)).toNat = 2 ^ k * m + y := by
    rw [BitVec.toNat_or, Nat.two_pow_add_eq_or_of_lt hy m]
    rw [show (BitVec.ofInt IntKind.u64.bits ((2 ^ k * m : Nat) : Int)).toNat = 2 ^ k * m from bv64 (by omega), show (BitVec.ofInt IntKind.u64.bits (y : Int)).toNat = y from bv64 (by omega)]
  rw [e]
  exact wrap64 hs
theorem and_mod (k : Nat) {x : Nat} (hk : 2 ^ k ≤ 18446744073709551616) (hx : x < 18446744073709551616) : bits .and .u64 (x : Int) ((2 ^ k - 1 : Nat) : Int) = ((x % 2 ^ k : Nat) : Int) := by
  unfold bits
  simp only
  have e : (BitVec.ofInt IntKind.u64.bits (x : Int) &&& BitVec.ofInt IntKind.u64.bits ((2 ^ k - 1 : Nat) : Int)).toNat = x % 2 ^ k := by
    have hp : 0 < 2 ^ k := Nat.two_pow_pos k
    rw [BitVec.toNat_and, show (BitVec.ofInt IntKind.u64.bits (x : Int)).toNat = x from bv64 hx, show (BitVec.ofInt IntKind.u64.bits ((2 ^ k - 1 : Nat) : Int)).toNat = 2 ^ k - 1 from bv64 (by omega), Nat.and_two_pow_sub_one_eq_mod]
  rw [e]
  exact wrap64 (Nat.lt_of_le_of_lt (Nat.mod_le _ _) hx)
theorem or24 {k r g b i : Nat} (hk : k ≤ 2) (hr : r < 256) (hg : g < 256) (hb : b < 256) (hi : i < 256) (hz : b = 0 ∨ i = 0) :
    bits .or .u64 (bits .or .u64 (bits .or .u64 (bits .or .u64 (IntKind.u64.wrap (IntKind.u64.wrap (k : Int) * 16777216)) (IntKind.u64.wrap (IntKind.u64.wrap (r : Int) * 65536))) (IntKind.u64.wrap (IntKind.u64.wrap (g : Int) * 256))) (IntKind.u64.wrap (b : Int))) (IntKind.u64.wrap (i : Int)) = ((k * 16777216 + r * 65536 + g * 256 + b + i : Nat) : Int) := by
  have w1 : ∀ (x c : Nat), x < 256 → c ≤ 16777216 → IntKind.u64.wrap (IntKind.u64.wrap (x : Int) * (c : Int)) = ((x * c : Nat) : Int) := fun x c hx hc => by
    have hxc := Nat.mul_le_mul (Nat.le_of_lt hx) hc
    rw [wrap64 (by omega), ← Int.natCast_mul, wrap64 (by omega)]
  have a1 := w1 k 16777216 (by omega) (Nat.le_refl _)
  have a2 := w1 r 65536 hr (by decide)
  have a3 := w1 g 256 hg (by decide)
  rw [show ((16777216 : Nat) : Int) = 16777216 from rfl] at a1
  rw [show ((65536 : Nat) : Int) = 65536 from rfl] at a2
  rw [show ((256 : Nat) : Int) = 256 from rfl] at a3
  rw [a1, a2, a3, wrap64 (show b < 18446744073709551616 by omega), wrap64 (show i < 18446744073709551616 by omega)]
  have e1 := or_plus 24 (m := k) (y := r * 65536) (by omega) (by omega)
  rw [show 2 ^ 24 * k = k * 16777216 by omega] at e1
  have e2 := or_plus 16 (m := k * 256 + r) (y := g * 256) (by omega) (by omega)
  rw [show 2 ^ 16 * (k * 256 + r) = k * 16777216 + r * 65536 by omega] at e2
  have e3 := or_plus 8 (m := k * 65536 + r * 256 + g) (y := b) (by omega) (by omega)
  rw [show 2 ^ 8 * (k * 65536 + r * 256 + g) = k * 16777216 + r * 65536 + g * 256 by omega] at e3
  rw [e1, e2, e3]
  rcases hz with rfl | rfl
  · have e4 := or_plus 8 (m := k * 65536 + r * 256 + g) (y := i) (by omega) (by omega)
    rw [show 2 ^ 8 * (k * 65536 + r * 256 + g) = k * 16777216 + r * 65536 + g * 256 + 0 by omega] at e4
    exact e4
  · have e4 := or_plus 0 (m := k * 16777216 + r * 65536 + g * 256 + b) (y := 0) (by omega) (by omega)
    rw [show 2 ^ 0 * (k * 16777216 + r * 65536 + g * 256 + b) = k * 16777216 + r * 65536 + g * 256 + b by omega] at e4
    exact e4
abbrev colV (c : Col) : Value := .agg #[.int .i64 c.kind, .int .u8 c.idx, .int .u8 c.r, .int .u8 c.g, .int .u8 c.b]
set_option maxHeartbeats 2000000 in
theorem bits_any (c : Col) (h : c.ok) (w : World) : Calls Tryd.prog 31 #[colV c] w fun e w' => e = .returned (.int .u64 (c.bits : Int)) ∧ Sees w w' := by
  have hr := (Sees.refl w).alloc (.cells #[.int .i64 c.kind, .int .u8 c.idx, .int .u8 c.r, .int .u8 c.g, .int .u8 c.b] 26)
  obtain ⟨k, i, r, g, b⟩ := c
  go_enter Tryd.func31, Tryd.ntmps31
  go_wp2
  go_ret
  refine ⟨?_, hr⟩
  unfold Col.ok at h
  simp only at h
  have e := or24 (k := k) (r := r) (g := g) (b := b) (i := i) (by omega) (by omega) (by omega) (by omega) (by omega) (by omega)
  show Ending.returned (.int .u64 _) = _
  rw [e]
  rfl
theorem two_rows (w : World) (V : Array Value) (T : TypeId) (o : Obj) : ((w.alloc (.cells V T)).alloc o).heap[w.heap.size]? = some (.cells V T (0, 0)) := by
  rw [Below.heap_alloc _ _ w.heap.size (by simp)]
  exact heap_alloc_new w _
set_option maxHeartbeats 2000000 in
theorem color_any (x : Nat) (hx : x < 67108864) (w : World) : Calls Tryd.prog 36 #[.int .u64 (x : Int)] w fun e w' => e = .returned (colV (colOf x)) ∧ Sees w w' := by
  have hr := Sees.refl w
  by_cases h1 : x / 16777216 = 1
  · have k1 : ((x : Int) / 16777216 == 1) = true := beq_iff_eq.2 (by omega)
    have hv : colV (colOf x) = .agg #[.int .i64 ((x : Int) / 16777216), .int .u8 ((x : Int) % 256), .int .u8 ((x : Int) / 65536 % 256), .int .u8 ((x : Int) / 256 % 256), .int .u8 0] := by
      unfold colOf
      rw [if_pos (by omega)]
      have : (x : Int) / 16777216 = 1 := by omega
      rw [this]
      simp
    have hw := two_rows w #[.int .i64 ((x : Int) / 16777216), .int .u8 ((x : Int) % 256), .int .u8 ((x : Int) / 65536 % 256), .int .u8 ((x : Int) / 256 % 256), .int .u8 0] 26 (.cells #[.int .i64 ((x : Int) / 16777216), .int .u8 ((x : Int) % 256), .int .u8 ((x : Int) / 65536 % 256), .int .u8 ((x : Int) / 256 % 256), .int .u8 0] 26)
    have hs := (hr.alloc (.cells #[.int .i64 ((x : Int) / 16777216), .int .u8 ((x : Int) % 256), .int .u8 ((x : Int) / 65536 % 256), .int .u8 ((x : Int) / 256 % 256), .int .u8 0] 26)).alloc (.cells #[.int .i64 ((x : Int) / 16777216), .int .u8 ((x : Int) % 256), .int .u8 ((x : Int) / 65536 % 256), .int .u8 ((x : Int) / 256 % 256), .int .u8 0] 26)
    rw [hv]
    clear hv
    go_enter Tryd.func36, Tryd.ntmps36
    go_wp2
    have c0 := Go.cell_of_row _ w.heap.size 0 _ _ _ hw
    have c1 := Go.cell_of_row _ w.heap.size 1 _ _ _ hw
    have c2 := Go.cell_of_row _ w.heap.size 2 _ _ _ hw
    have c3 := Go.cell_of_row _ w.heap.size 3 _ _ _ hw
    have c4 := Go.cell_of_row _ w.heap.size 4 _ _ _ hw
    refine bodyPost_ret_by (v := .agg #[.int .i64 ((x : Int) / 16777216), .int .u8 ((x : Int) % 256), .int .u8 ((x : Int) / 65536 % 256), .int .u8 ((x : Int) / 256 % 256), .int .u8 0]) (by simp [results, Tryd.results36, go_sem, c0, c1, c2, c3, c4]) rfl ⟨rfl, hs⟩
  · have k1 : ((x : Int) / 16777216 == 1) = false := beq_eq_false_iff_ne.2 (by omega)
    have hv : colV (colOf x) = .agg #[.int .i64 ((x : Int) / 16777216), .int .u8 0, .int .u8 ((x : Int) / 65536 % 256), .int .u8 ((x : Int) / 256 % 256), .int .u8 ((x : Int) % 256)] := by
      unfold colOf
      rw [if_neg (by omega)]
      have : ((x / 16777216 % 256 : Nat) : Int) = (x : Int) / 16777216 := by omega
      simp [this]
    have hw := two_rows w #[.int .i64 ((x : Int) / 16777216), .int .u8 0, .int .u8 ((x : Int) / 65536 % 256), .int .u8 ((x : Int) / 256 % 256), .int .u8 ((x : Int) % 256)] 26 (.cells #[.int .i64 ((x : Int) / 16777216), .int .u8 0, .int .u8 ((x : Int) / 65536 % 256), .int .u8 ((x : Int) / 256 % 256), .int .u8 ((x : Int) % 256)] 26)
    have hs := (hr.alloc (.cells #[.int .i64 ((x : Int) / 16777216), .int .u8 0, .int .u8 ((x : Int) / 65536 % 256), .int .u8 ((x : Int) / 256 % 256), .int .u8 ((x : Int) % 256)] 26)).alloc (.cells #[.int .i64 ((x : Int) / 16777216), .int .u8 0, .int .u8 ((x : Int) / 65536 % 256), .int .u8 ((x : Int) / 256 % 256), .int .u8 ((x : Int) % 256)] 26)
    rw [hv]
    clear hv
    go_enter Tryd.func36, Tryd.ntmps36
    go_wp2
    have c0 := Go.cell_of_row _ w.heap.size 0 _ _ _ hw
    have c1 := Go.cell_of_row _ w.heap.size 1 _ _ _ hw
    have c2 := Go.cell_of_row _ w.heap.size 2 _ _ _ hw
    have c3 := Go.cell_of_row _ w.heap.size 3 _ _ _ hw
    have c4 := Go.cell_of_row _ w.heap.size 4 _ _ _ hw
    refine bodyPost_ret_by (v := .agg #[.int .i64 ((x : Int) / 16777216), .int .u8 0, .int .u8 ((x : Int) / 65536 % 256), .int .u8 ((x : Int) / 256 % 256), .int .u8 ((x : Int) % 256)]) (by simp [results, Tryd.results36, go_sem, c0, c1, c2, c3, c4]) rfl ⟨rfl, hs⟩
theorem or_comm64 (x y : Int) : bits .or .u64 x y = bits .or .u64 y x := by
  unfold bits
  simp only
  rw [BitVec.or_comm]
abbrev penV (f b : Col) (fl : Nat) : Value := .agg #[.int .i64 f.kind, .int .u8 f.idx, .int .u8 f.r, .int .u8 f.g, .int .u8 f.b, .int .i64 b.kind, .int .u8 b.idx, .int .u8 b.r, .int .u8 b.g, .int .u8 b.b, .int .u8 fl]
theorem vcol_ok {c : Col} (h : c.ok) : vColor c.kind c.idx c.r c.g c.b = true := by
  obtain ⟨k, i, r, g, b⟩ := c
  unfold Col.ok at h
  unfold vColor
  simp only at h ⊢
  rcases h with ⟨rfl, rfl, rfl, rfl, rfl⟩ | ⟨rfl, hi, rfl, rfl, rfl⟩ | ⟨rfl, rfl, hr, hg, hb⟩
  · rfl
  · rw [if_neg (by decide), if_pos (by rfl)]
    exact eq5_iff.2 ⟨rfl, rfl, rfl, rfl, rfl⟩
  · rw [if_neg (by decide), if_neg (by decide), if_pos (by rfl)]
    exact eq5_iff.2 ⟨rfl, rfl, rfl, rfl, rfl⟩
theorem pack_or {x y fl : Nat} (hx : x < 67108864) (hy : y < 67108864) (hl : fl < 256) :
    bits .or .u64 (bits .or .u64 (x : Int) (IntKind.u64.wrap ((y : Int) * 67108864))) (IntKind.u64.wrap (IntKind.u64.wrap (fl : Int) * 4503599627370496)) = ((x + y * 67108864 + fl * 4503599627370496 : Nat) : Int) := by
  rw [wrap64 (show fl < 18446744073709551616 by omega), show (y : Int) * 67108864 = ((y * 67108864 : Nat) : Int) by omega, show (fl : Int) * 4503599627370496 = ((fl * 4503599627370496 : Nat) : Int) by omega, wrap64 (by omega), wrap64 (by omega)]
  have e1 := or_plus 26 (m := y) (y := x) (by omega) (by omega)
  rw [or_comm64, show 2 ^ 26 * y = y * 67108864 by omega] at e1
  rw [e1]
  have e2 := or_plus 52 (m := fl) (y := y * 67108864 + x) (by omega) (by omega)
  rw [or_comm64, show 2 ^ 52 * fl = fl * 4503599627370496 by omega] at e2
  rw [e2]
  congr 1
  omega
/-- A pen in memory. -/
def PenAt (W : World) (p : Nat) (f b : Col) (fl : Nat) : Prop := W.heap[p]? = some (.cells #[.int .i64 f.kind, .int .u8 f.idx, .int .u8 f.r, .int .u8 f.g, .int .u8 f.b, .int .i64 b.kind, .int .u8 b.idx, .int .u8 b.r, .int .u8 b.g, .int .u8 b.b, .int .u8 fl] 29 (0, 0))
namespace PenAt
variable {W W' : World} {p : Nat} {f b : Col} {fl : Nat}
theorem new (W : World) (f b : Col) (fl : Nat) : PenAt (W.alloc (.cells #[.int .i64 f.kind, .int .u8 f.idx, .int .u8 f.r, .int .u8 f.g, .int .u8 f.b, .int .i64 b.kind, .int .u8 b.idx, .int .u8 b.r, .int .u8 b.g, .int .u8 b.b, .int .u8 fl] 29)) W.heap.size f b fl := heap_alloc_new W _
theorem sees (h : PenAt W p f b fl) (hs : Sees W W') : PenAt W' p f b fl := by
  unfold PenAt at *
  rw [hs.block p (Array.getElem?_eq_some_iff.1 h).1, h]
theorem cs (h : PenAt W p f b fl) : W.cell? ⟨p, 0, none⟩ = some (.int .i64 f.kind) ∧ W.cell? ⟨p, 1, none⟩ = some (.int .u8 f.idx) ∧ W.cell? ⟨p, 2, none⟩ = some (.int .u8 f.r) ∧ W.cell? ⟨p, 3, none⟩ = some (.int .u8 f.g) ∧ W.cell? ⟨p, 4, none⟩ = some (.int .u8 f.b) ∧ W.cell? ⟨p, 5, none⟩ = some (.int .i64 b.kind) ∧ W.cell? ⟨p, 6, none⟩ = some (.int .u8 b.idx) ∧ W.cell? ⟨p, 7, none⟩ = some (.int .u8 b.r) ∧ W.cell? ⟨p, 8, none⟩ = some (.int .u8 b.g) ∧ W.cell? ⟨p, 9, none⟩ = some (.int .u8 b.b) ∧ W.cell? ⟨p, 10, none⟩ = some (.int .u8 fl) := by
  refine ⟨?_, ?_, ?_, ?_, ?_, ?_, ?_, ?_, ?_, ?_, ?_⟩ <;> rw [Go.cell_of_row W p _ _ _ _ h] <;> rfl
end PenAt
set_option maxHeartbeats 4000000 in
theorem pack_any (f b : Col) (fl : Nat) (hf : f.ok) (hb : b.ok) (hl : fl < 256) (w : World) : Calls Tryd.prog 16 #[penV f b fl] w fun e w' => e = .returned (.tuple #[.int .u64 (packN f b fl : Int), .int .i64 0]) ∧ Sees w w' := by
  have hr := (Sees.refl w).alloc (.cells #[.int .i64 f.kind, .int .u8 f.idx, .int .u8 f.r, .int .u8 f.g, .int .u8 f.b, .int .i64 b.kind, .int .u8 b.idx, .int .u8 b.r, .int .u8 b.g, .int .u8 b.b, .int .u8 fl] 29)
  have hv := fun W => penValid_any f.kind f.idx f.r f.g f.b b.kind b.idx b.r b.g b.b fl W
  rw [show vPen f.kind f.idx f.r f.g f.b b.kind b.idx b.r b.g b.b = true from by unfold vPen; rw [vcol_ok hf, vcol_ok hb]; rfl] at hv
  have hbf := fun W => bits_any f hf W
  have hbb := fun W => bits_any b hb W
  have hor := Lib.hid (pack_or (col_bits hf) (col_bits hb) hl)
  have A0 := PenAt.new w f b fl
  obtain ⟨c0, c1, c2, c3, c4, c5, c6, c7, c8, c9, c10⟩ := A0.cs
  go_enter Tryd.func16, Tryd.ntmps16
  go_wp2_with fail
  refine (hv _).mono ?_
  rintro e W1 ⟨rfl, s1⟩
  have A1 := Lib.hid (A0.sees s1)
  have hs1 := Lib.hid (hr.trans s1)
  clear hr s1 hv c0 c1 c2 c3 c4 c5 c6 c7 c8 c9 c10 A0
  go_wp2_with fail
  refine wp_region_sees (by kernel_rfl) (by kernel_rfl) ?_
  refine wpQuiet_val (fun K hK => ⟨?_, ?_⟩); (focus (go_simp; done)); apply Exists.intro; refine ⟨fun W hW => ?_, ?_⟩; (focus ( go_simp; first | done | rfl)); go_simp; refine hK _ ?_; clear hK K
  refine wpQuiet_val (fun K hK => ⟨?_, ?_⟩); (focus (go_simp; done)); apply Exists.intro; refine ⟨fun W hW => ?_, ?_⟩; (focus (obtain ⟨c0, c1, c2, c3, c4, c5, c6, c7, c8, c9, c10⟩ := (A1.out.sees hW).cs; go_simp; first | done | rfl)); go_simp; refine hK _ ?_; clear hK K
  refine wpQuiet_enter 31 #[colV f] (fun K hK => ⟨?_, fun W hW => ?_, ?_⟩); (focus (go_simp; done)); (focus ( go_simp; done)); apply Exists.intro; refine ⟨fun W hW => (hbf W).mono fun e w'' ⟨he, hb⟩ => ⟨he, hW.trans hb⟩, ?_⟩; go_simp; refine hK _ ?_; clear hK K
  refine wpQuiet_val (fun K hK => ⟨?_, ?_⟩); (focus (go_simp; done)); apply Exists.intro; refine ⟨fun W hW => ?_, ?_⟩; (focus ( go_simp; first | done | rfl)); go_simp; refine hK _ ?_; clear hK K
  refine wpQuiet_val (fun K hK => ⟨?_, ?_⟩); (focus (go_simp; done)); apply Exists.intro; refine ⟨fun W hW => ?_, ?_⟩; (focus (obtain ⟨c0, c1, c2, c3, c4, c5, c6, c7, c8, c9, c10⟩ := (A1.out.sees hW).cs; go_simp; first | done | rfl)); go_simp; refine hK _ ?_; clear hK K
  refine wpQuiet_enter 31 #[colV b] (fun K hK => ⟨?_, fun W hW => ?_, ?_⟩); (focus (go_simp; done)); (focus ( go_simp; done)); apply Exists.intro; refine ⟨fun W hW => (hbb W).mono fun e w'' ⟨he, hb⟩ => ⟨he, hW.trans hb⟩, ?_⟩; go_simp; refine hK _ ?_; clear hK K
  refine wpQuiet_val (fun K hK => ⟨?_, ?_⟩); (focus (go_simp; done)); apply Exists.intro; refine ⟨fun W hW => ?_, ?_⟩; (focus ( go_simp; first | done | rfl)); go_simp; refine hK _ ?_; clear hK K
  refine wpQuiet_val (fun K hK => ⟨?_, ?_⟩); (focus (go_simp; done)); apply Exists.intro; refine ⟨fun W hW => ?_, ?_⟩; (focus ( go_simp; first | done | rfl)); go_simp; refine hK _ ?_; clear hK K
  refine wpQuiet_val (fun K hK => ⟨?_, ?_⟩); (focus (go_simp; done)); apply Exists.intro; refine ⟨fun W hW => ?_, ?_⟩; (focus ( go_simp; first | done | rfl)); go_simp; refine hK _ ?_; clear hK K
  refine wpQuiet_val (fun K hK => ⟨?_, ?_⟩); (focus (go_simp; done)); apply Exists.intro; refine ⟨fun W hW => ?_, ?_⟩; (focus (obtain ⟨c0, c1, c2, c3, c4, c5, c6, c7, c8, c9, c10⟩ := (A1.out.sees hW).cs; go_simp; first | done | rfl)); go_simp; refine hK _ ?_; clear hK K
  refine wpQuiet_val (fun K hK => ⟨?_, ?_⟩); (focus (go_simp; done)); apply Exists.intro; refine ⟨fun W hW => ?_, ?_⟩; (focus ( go_simp; first | done | rfl)); go_simp; refine hK _ ?_; clear hK K
  refine wpQuiet_val (fun K hK => ⟨?_, ?_⟩); (focus (go_simp; done)); apply Exists.intro; refine ⟨fun W hW => ?_, ?_⟩; (focus ( go_simp; first | done | rfl)); go_simp; refine hK _ ?_; clear hK K
  refine wpQuiet_val (fun K hK => ⟨?_, ?_⟩); (focus (go_simp; done)); apply Exists.intro; refine ⟨fun W hW => ?_, ?_⟩; (focus ( go_simp; first | done | rfl)); go_simp; refine hK _ ?_; clear hK K
  refine wpQuiet_val (fun K hK => ⟨?_, ?_⟩); (focus (go_simp; done)); apply Exists.intro; refine ⟨fun W hW => ?_, ?_⟩; (focus ( go_simp; first | done | rfl)); go_simp; refine hK _ ?_; clear hK K
  refine wpQuiet_val (fun K hK => ⟨?_, ?_⟩); (focus (go_simp; done)); apply Exists.intro; refine ⟨fun W hW => ?_, ?_⟩; (focus ( go_simp; first | done | rfl)); go_simp; refine hK _ ?_; clear hK K
  refine wpQuiet_nil ?_; intro w2 hw2
  go_wp2
  go_ret2
  refine ⟨?_, hs1.out.trans hw2⟩
  show Ending.returned (.tuple #[.int .u64 _, .int .i64 0]) = _
  rw [hor.out]
  rfl
set_option maxHeartbeats 2000000 in
theorem pack_bad (a0 a1 a2 a3 a4 a5 a6 a7 a8 a9 a10 : Int) (h : vPen a0 a1 a2 a3 a4 a5 a6 a7 a8 a9 = false) (w : World) :
    Calls Tryd.prog 16 #[.agg #[.int .i64 a0, .int .u8 a1, .int .u8 a2, .int .u8 a3, .int .u8 a4, .int .i64 a5, .int .u8 a6, .int .u8 a7, .int .u8 a8, .int .u8 a9, .int .u8 a10]] w fun e w' => e = .returned (.tuple #[.int .u64 0, .int .i64 2]) ∧ Sees w w' := by
  have hr := (Sees.refl w).alloc (.cells #[.int .i64 a0, .int .u8 a1, .int .u8 a2, .int .u8 a3, .int .u8 a4, .int .i64 a5, .int .u8 a6, .int .u8 a7, .int .u8 a8, .int .u8 a9, .int .u8 a10] 29)
  have hv := fun W => penValid_any a0 a1 a2 a3 a4 a5 a6 a7 a8 a9 a10 W
  rw [h] at hv
  go_enter Tryd.func16, Tryd.ntmps16
  go_wp2_with fail
  refine (hv _).mono ?_
  rintro e W1 ⟨rfl, s1⟩
  go_wp2
  go_ret2
  exact ⟨rfl, hr.trans s1⟩
end Go.Proofs.YtfgifjdholdohaaDoor
