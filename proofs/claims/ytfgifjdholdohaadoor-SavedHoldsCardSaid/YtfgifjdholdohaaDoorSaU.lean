/- pen.Unpack (23). No condition. -/
import Derived.Test.YtfgifjdholdohaaDoorSaW
namespace Go.Proofs.YtfgifjdholdohaaDoor
set_option linter.unusedVariables false
set_option linter.unusedSimpArgs false
open Go.RowKit

theorem vcol_of {c : Col} (hi : c.idx < 256) (hr : c.r < 256) (hg : c.g < 256) (hb : c.b < 256) (h : vColor c.kind c.idx c.r c.g c.b = true) : c.ok := by
  obtain ⟨k, i, r, g, b⟩ := c
  unfold vColor at h
  unfold Col.ok
  simp only at *
  split at h
  · rename_i e
    have := eq5_iff.1 h
    omega
  · split at h
    · rename_i e
      have := eq5_iff.1 h
      omega
    · split at h
      · rename_i e
        have := eq5_iff.1 h
        omega
      · cases h
theorem colOf_small (w : Nat) : (colOf w).idx < 256 ∧ (colOf w).r < 256 ∧ (colOf w).g < 256 ∧ (colOf w).b < 256 := by
  unfold colOf
  split <;> (simp only; omega)
theorem vcol_colOf (w : Nat) : vColor (colOf w).kind (colOf w).idx (colOf w).r (colOf w).g (colOf w).b = true ↔ (colOf w).ok := by
  obtain ⟨h1, h2, h3, h4⟩ := colOf_small w
  exact ⟨fun h => vcol_of h1 h2 h3 h4 h, fun h => vcol_ok h⟩
/-- A word of a pen. -/
def wordOk (x : Nat) : Prop := x < 1152921504606846976 ∧ (foreN x).ok ∧ (backN x).ok
abbrev zPen : Value := penV ⟨0, 0, 0, 0, 0⟩ ⟨0, 0, 0, 0, 0⟩ 0
set_option maxHeartbeats 8000000 in
set_option maxRecDepth 100000 in
theorem unpack_big (x : Nat) (hx : x < 18446744073709551616) (hb : 1152921504606846976 ≤ x) (w : World) : Calls Tryd.prog 20 #[.int .u64 (x : Int)] w fun e w' => e = .returned (.tuple #[zPen, .int .i64 12]) ∧ Sees w w' := by
  have t1 : ((x : Int) / 1152921504606846976 == 0) = false := beq_eq_false_iff_ne.2 (by omega)
  have hr := Sees.refl w
  have h1 : bits .and .u64 (x : Int) 67108863 = ((x % 67108864 : Nat) : Int) := and_mod 26 (by decide) hx
  have h2 : bits .and .u64 ((x : Int) / 67108864) 67108863 = ((x / 67108864 % 67108864 : Nat) : Int) := by
    have := and_mod 26 (x := x / 67108864) (by decide) (by omega)
    rw [← this, Int.natCast_ediv]
    rfl
  have k1 : ∀ W, Calls Tryd.prog 36 #[.int .u64 ((x % 67108864 : Nat) : Int)] W fun e w' => e = .returned (colV (foreN x)) ∧ Sees W w' := fun W => color_any (x % 67108864) (by omega) W
  have k2 : ∀ W, Calls Tryd.prog 36 #[.int .u64 ((x / 67108864 % 67108864 : Nat) : Int)] W fun e w' => e = .returned (colV (backN x)) ∧ Sees W w' := fun W => color_any (x / 67108864 % 67108864) (by omega) W
  have hfl : (x : Int) / 4503599627370496 % 256 = ((flagN x : Nat) : Int) := by
    unfold flagN
    omega
  generalize foreN x = f at *
  generalize backN x = b at *
  generalize flagN x = fl at *
  have Z0 := PenAt.new w ⟨0, 0, 0, 0, 0⟩ ⟨0, 0, 0, 0, 0⟩ 0
  have hz0 := hr.alloc (.cells #[.int .i64 0, .int .u8 0, .int .u8 0, .int .u8 0, .int .u8 0, .int .i64 0, .int .u8 0, .int .u8 0, .int .u8 0, .int .u8 0, .int .u8 0] 29)
  go_enter Tryd.func20, Tryd.ntmps20
  go_wp2_with fail
  refine (k1 _).mono ?_
  rintro e W1 ⟨rfl, s1⟩
  go_wp2_with fail
  refine (k2 _).mono ?_
  rintro e W2 ⟨rfl, s2⟩
  have P0 := PenAt.new W2 f b fl
  have Z2 := ((Z0.sees s1).sees s2).sees ((Sees.refl W2).alloc (.cells #[.int .i64 f.kind, .int .u8 f.idx, .int .u8 f.r, .int .u8 f.g, .int .u8 f.b, .int .i64 b.kind, .int .u8 b.idx, .int .u8 b.r, .int .u8 b.g, .int .u8 b.b, .int .u8 fl] 29))
  have S2 := ((hz0.trans s1).trans s2).alloc (.cells #[.int .i64 f.kind, .int .u8 f.idx, .int .u8 f.r, .int .u8 f.g, .int .u8 f.b, .int .i64 b.kind, .int .u8 b.idx, .int .u8 b.r, .int .u8 b.g, .int .u8 b.b, .int .u8 fl] 29)
  obtain ⟨c0, c1, c2, c3, c4, c5, c6, c7, c8, c9, c10⟩ := P0.cs
  obtain ⟨z0, z1, z2, z3, z4, z5, z6, z7, z8, z9, z10⟩ := Z2.cs
  have y : ∀ i, _ := fun i => frozen_of_row _ w.heap.size i _ _ Z2
  go_wp2
  refine bodyPost_ret_by (v := .tuple #[zPen, .int .i64 12]) (by simp [results, Tryd.results20, go_sem, z0, z1, z2, z3, z4, z5, z6, z7, z8, z9, z10]) rfl ⟨rfl, ?_⟩
  iterate 11 refine Sees.setCell ?_ (Nat.le_refl _) _
  exact S2
set_option maxHeartbeats 8000000 in
set_option maxRecDepth 100000 in
theorem unpack_bad (x : Nat) (hx : x < 18446744073709551616) (hb : x < 1152921504606846976) (hv : vPen (foreN x).kind (foreN x).idx (foreN x).r (foreN x).g (foreN x).b (backN x).kind (backN x).idx (backN x).r (backN x).g (backN x).b = false) (w : World) : Calls Tryd.prog 20 #[.int .u64 (x : Int)] w fun e w' => e = .returned (.tuple #[zPen, .int .i64 12]) ∧ Sees w w' := by
  have t1 : ((x : Int) / 1152921504606846976 == 0) = true := beq_iff_eq.2 (by omega)
  have hr := Sees.refl w
  have h1 : bits .and .u64 (x : Int) 67108863 = ((x % 67108864 : Nat) : Int) := and_mod 26 (by decide) hx
  have h2 : bits .and .u64 ((x : Int) / 67108864) 67108863 = ((x / 67108864 % 67108864 : Nat) : Int) := by
    have := and_mod 26 (x := x / 67108864) (by decide) (by omega)
    rw [← this, Int.natCast_ediv]
    rfl
  have k1 : ∀ W, Calls Tryd.prog 36 #[.int .u64 ((x % 67108864 : Nat) : Int)] W fun e w' => e = .returned (colV (foreN x)) ∧ Sees W w' := fun W => color_any (x % 67108864) (by omega) W
  have k2 : ∀ W, Calls Tryd.prog 36 #[.int .u64 ((x / 67108864 % 67108864 : Nat) : Int)] W fun e w' => e = .returned (colV (backN x)) ∧ Sees W w' := fun W => color_any (x / 67108864 % 67108864) (by omega) W
  have hfl : (x : Int) / 4503599627370496 = ((flagN x : Nat) : Int) := by
    unfold flagN
    omega
  have hpv : ∀ W, Calls Tryd.prog 24 #[penV (foreN x) (backN x) (flagN x)] W fun e w' => e = .returned (.bool false) ∧ Sees W w' := fun W => by
    have := penValid_any (foreN x).kind (foreN x).idx (foreN x).r (foreN x).g (foreN x).b (backN x).kind (backN x).idx (backN x).r (backN x).g (backN x).b (flagN x) W
    rw [show vPen _ _ _ _ _ _ _ _ _ _ = false from hv] at this
    exact this
  clear hv
  generalize foreN x = f at *
  generalize backN x = b at *
  generalize flagN x = fl at *
  have Z0 := PenAt.new w ⟨0, 0, 0, 0, 0⟩ ⟨0, 0, 0, 0, 0⟩ 0
  have hz0 := hr.alloc (.cells #[.int .i64 0, .int .u8 0, .int .u8 0, .int .u8 0, .int .u8 0, .int .i64 0, .int .u8 0, .int .u8 0, .int .u8 0, .int .u8 0, .int .u8 0] 29)
  go_enter Tryd.func20, Tryd.ntmps20
  go_wp2_with fail
  refine (k1 _).mono ?_
  rintro e W1 ⟨rfl, s1⟩
  go_wp2_with fail
  refine (k2 _).mono ?_
  rintro e W2 ⟨rfl, s2⟩
  have P0 := PenAt.new W2 f b fl
  have Z2 := ((Z0.sees s1).sees s2).sees ((Sees.refl W2).alloc (.cells #[.int .i64 f.kind, .int .u8 f.idx, .int .u8 f.r, .int .u8 f.g, .int .u8 f.b, .int .i64 b.kind, .int .u8 b.idx, .int .u8 b.r, .int .u8 b.g, .int .u8 b.b, .int .u8 fl] 29))
  have S2 := ((hz0.trans s1).trans s2).alloc (.cells #[.int .i64 f.kind, .int .u8 f.idx, .int .u8 f.r, .int .u8 f.g, .int .u8 f.b, .int .i64 b.kind, .int .u8 b.idx, .int .u8 b.r, .int .u8 b.g, .int .u8 b.b, .int .u8 fl] 29)
  obtain ⟨c0, c1, c2, c3, c4, c5, c6, c7, c8, c9, c10⟩ := P0.cs
  obtain ⟨z0, z1, z2, z3, z4, z5, z6, z7, z8, z9, z10⟩ := Z2.cs
  have y : ∀ i, _ := fun i => frozen_of_row _ w.heap.size i _ _ Z2
  go_wp2_with fail
  refine (hpv _).mono ?_
  rintro e W3 ⟨rfl, s3⟩
  have P3 := P0.sees s3
  have Z3 := Z2.sees s3
  have S3 := S2.trans s3
  clear z0 z1 z2 z3 z4 z5 z6 z7 z8 z9 z10 c0 c1 c2 c3 c4 c5 c6 c7 c8 c9 c10 y
  obtain ⟨c0, c1, c2, c3, c4, c5, c6, c7, c8, c9, c10⟩ := P3.cs
  obtain ⟨z0, z1, z2, z3, z4, z5, z6, z7, z8, z9, z10⟩ := Z3.cs
  have y : ∀ i, _ := fun i => frozen_of_row _ w.heap.size i _ _ Z3
  go_wp2
  refine bodyPost_ret_by (v := .tuple #[zPen, .int .i64 12]) (by simp [results, Tryd.results20, go_sem, z0, z1, z2, z3, z4, z5, z6, z7, z8, z9, z10]) rfl ⟨rfl, ?_⟩
  iterate 11 refine Sees.setCell ?_ (Nat.le_refl _) _
  exact S3
set_option maxHeartbeats 8000000 in
set_option maxRecDepth 100000 in
theorem unpack_ok (x : Nat) (hx : x < 18446744073709551616) (hb : x < 1152921504606846976) (hv : vPen (foreN x).kind (foreN x).idx (foreN x).r (foreN x).g (foreN x).b (backN x).kind (backN x).idx (backN x).r (backN x).g (backN x).b = true) (w : World) : Calls Tryd.prog 20 #[.int .u64 (x : Int)] w fun e w' => e = .returned (.tuple #[penV (foreN x) (backN x) (flagN x), .int .i64 0]) ∧ Sees w w' := by
  have t1 : ((x : Int) / 1152921504606846976 == 0) = true := beq_iff_eq.2 (by omega)
  have hr := Sees.refl w
  have h1 : bits .and .u64 (x : Int) 67108863 = ((x % 67108864 : Nat) : Int) := and_mod 26 (by decide) hx
  have h2 : bits .and .u64 ((x : Int) / 67108864) 67108863 = ((x / 67108864 % 67108864 : Nat) : Int) := by
    have := and_mod 26 (x := x / 67108864) (by decide) (by omega)
    rw [← this, Int.natCast_ediv]
    rfl
  have k1 : ∀ W, Calls Tryd.prog 36 #[.int .u64 ((x % 67108864 : Nat) : Int)] W fun e w' => e = .returned (colV (foreN x)) ∧ Sees W w' := fun W => color_any (x % 67108864) (by omega) W
  have k2 : ∀ W, Calls Tryd.prog 36 #[.int .u64 ((x / 67108864 % 67108864 : Nat) : Int)] W fun e w' => e = .returned (colV (backN x)) ∧ Sees W w' := fun W => color_any (x / 67108864 % 67108864) (by omega) W
  have hfl : (x : Int) / 4503599627370496 = ((flagN x : Nat) : Int) := by
    unfold flagN
    omega
  have hpv : ∀ W, Calls Tryd.prog 24 #[penV (foreN x) (backN x) (flagN x)] W fun e w' => e = .returned (.bool true) ∧ Sees W w' := fun W => by
    have := penValid_any (foreN x).kind (foreN x).idx (foreN x).r (foreN x).g (foreN x).b (backN x).kind (backN x).idx (backN x).r (backN x).g (backN x).b (flagN x) W
    rw [show vPen _ _ _ _ _ _ _ _ _ _ = true from hv] at this
    exact this
  clear hv
  generalize foreN x = f at *
  generalize backN x = b at *
  generalize flagN x = fl at *
  have Z0 := PenAt.new w ⟨0, 0, 0, 0, 0⟩ ⟨0, 0, 0, 0, 0⟩ 0
  have hz0 := hr.alloc (.cells #[.int .i64 0, .int .u8 0, .int .u8 0, .int .u8 0, .int .u8 0, .int .i64 0, .int .u8 0, .int .u8 0, .int .u8 0, .int .u8 0, .int .u8 0] 29)
  go_enter Tryd.func20, Tryd.ntmps20
  go_wp2_with fail
  refine (k1 _).mono ?_
  rintro e W1 ⟨rfl, s1⟩
  go_wp2_with fail
  refine (k2 _).mono ?_
  rintro e W2 ⟨rfl, s2⟩
  have P0 := PenAt.new W2 f b fl
  have Z2 := ((Z0.sees s1).sees s2).sees ((Sees.refl W2).alloc (.cells #[.int .i64 f.kind, .int .u8 f.idx, .int .u8 f.r, .int .u8 f.g, .int .u8 f.b, .int .i64 b.kind, .int .u8 b.idx, .int .u8 b.r, .int .u8 b.g, .int .u8 b.b, .int .u8 fl] 29))
  have S2 := ((hz0.trans s1).trans s2).alloc (.cells #[.int .i64 f.kind, .int .u8 f.idx, .int .u8 f.r, .int .u8 f.g, .int .u8 f.b, .int .i64 b.kind, .int .u8 b.idx, .int .u8 b.r, .int .u8 b.g, .int .u8 b.b, .int .u8 fl] 29)
  obtain ⟨c0, c1, c2, c3, c4, c5, c6, c7, c8, c9, c10⟩ := P0.cs
  obtain ⟨z0, z1, z2, z3, z4, z5, z6, z7, z8, z9, z10⟩ := Z2.cs
  have y : ∀ i, _ := fun i => frozen_of_row _ w.heap.size i _ _ Z2
  go_wp2_with fail
  refine (hpv _).mono ?_
  rintro e W3 ⟨rfl, s3⟩
  have P3 := P0.sees s3
  have Z3 := Z2.sees s3
  have S3 := S2.trans s3
  clear z0 z1 z2 z3 z4 z5 z6 z7 z8 z9 z10 c0 c1 c2 c3 c4 c5 c6 c7 c8 c9 c10 y
  obtain ⟨c0, c1, c2, c3, c4, c5, c6, c7, c8, c9, c10⟩ := P3.cs
  obtain ⟨z0, z1, z2, z3, z4, z5, z6, z7, z8, z9, z10⟩ := Z3.cs
  have y : ∀ i, _ := fun i => frozen_of_row _ w.heap.size i _ _ Z3
  go_wp2
  refine bodyPost_ret_by (v := .tuple #[penV f b fl, .int .i64 0]) (by simp [results, Tryd.results20, go_sem, z0, z1, z2, z3, z4, z5, z6, z7, z8, z9, z10]) rfl ⟨rfl, ?_⟩
  iterate 11 refine Sees.setCell ?_ (Nat.le_refl _) _
  exact S3
end Go.Proofs.YtfgifjdholdohaaDoor
