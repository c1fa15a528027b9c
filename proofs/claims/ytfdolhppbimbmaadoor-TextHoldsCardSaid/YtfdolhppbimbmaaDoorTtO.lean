/- scrollbacklaw40's rows, blocks, offsets, columns, fits, one. The tables hold what the program's text lays. -/
import Derived.Test.YtfdolhppbimbmaaDoorTtK
namespace Go.Proofs.YtfdolhppbimbmaaDoor
set_option linter.unusedVariables false
set_option linter.unusedSimpArgs false
open Go.RowKit
attribute [local go_sem] Oper.semAt_some

set_option maxHeartbeats 4000000
set_option maxRecDepth 100000
theorem blocks_true (v : Value) (t l b r : Int) (S : ByteArray) (E : Int) (w : World) (K : Calls Tryd.prog 111 #[v, .int .i64 t, .int .i64 l, .int .i64 b, .int .i64 r] w fun e w' => e = .returned (.tuple #[.string S, .int .i64 E]) ∧ Sees w w') :
    Calls Tryd.prog 69 #[v, .int .i64 t, .int .i64 l, .int .i64 b, .int .i64 r, .string S, .int .i64 E] w fun e w' => e = .returned (.bool true) ∧ Sees w w' := by
  have H := Lib.hid K
  clear K
  go_enter Tryd.func69, Tryd.ntmps69
  go_wp2_with fail
  refine H.out.mono ?_
  rintro e W2 ⟨rfl, s⟩
  have HS := Lib.hid s
  clear s H
  go_wp2
  go_ret
  exact ⟨rfl, HS.out⟩
theorem fits_true (s : ByteArray) (n : Int) (S : ByteArray) (E : Int) (w : World) (K : Calls Tryd.prog 61 #[.string s, .int .i64 n] w fun e w' => e = .returned (.tuple #[.string S, .int .i64 E]) ∧ Sees w w') :
    Calls Tryd.prog 63 #[.string s, .int .i64 n, .string S, .int .i64 E] w fun e w' => e = .returned (.bool true) ∧ Sees w w' := by
  have H := Lib.hid K
  clear K
  go_enter Tryd.func63, Tryd.ntmps63
  go_wp2_with fail
  refine H.out.mono ?_
  rintro e W2 ⟨rfl, s⟩
  have HS := Lib.hid s
  clear s H
  go_wp2
  go_ret
  exact ⟨rfl, HS.out⟩
theorem offsets_true (v : Value) (so : Bool) (i : Int) (N E : Int) (w : World) (K : ∀ W, Sees w W → Calls Tryd.prog 66 #[.agg #[v, .bool so], .int .i64 i] W fun e w' => e = .returned (.tuple #[.int .i64 N, .int .i64 E]) ∧ Sees W w') (hv : v.oneCell' = true) :
    Calls Tryd.prog 104 #[.agg #[v, .bool so], .int .i64 i, .int .i64 N, .int .i64 E] w fun e w' => e = .returned (.bool true) ∧ Sees w w' := by
  have H := Lib.hid K
  clear K
  have L0 : LnAt (w.alloc (.cells #[v, .bool so] 37)) w.heap.size v so := LnAt.new rfl
  have HS0 : Hid (Sees w (w.alloc (.cells #[v, .bool so] 37))) := (Sees.refl w).alloc _
  obtain ⟨l0, l1⟩ := L0.c
  go_enter Tryd.func104, Tryd.ntmps104
  go_wp2_with fail
  refine (H.out _ HS0.out).mono ?_
  rintro e W2 ⟨rfl, s⟩
  have HS := Lib.hid (HS0.out.trans s)
  clear s H
  go_wp2
  go_ret
  exact ⟨rfl, HS.out⟩
theorem columns_true (v : Value) (so : Bool) (i : Int) (N E : Int) (w : World) (K : ∀ W, Sees w W → Calls Tryd.prog 110 #[.agg #[v, .bool so], .int .i64 i] W fun e w' => e = .returned (.tuple #[.int .i64 N, .int .i64 E]) ∧ Sees W w') (hv : v.oneCell' = true) :
    Calls Tryd.prog 68 #[.agg #[v, .bool so], .int .i64 i, .int .i64 N, .int .i64 E] w fun e w' => e = .returned (.bool true) ∧ Sees w w' := by
  have H := Lib.hid K
  clear K
  have L0 : LnAt (w.alloc (.cells #[v, .bool so] 37)) w.heap.size v so := LnAt.new rfl
  have HS0 : Hid (Sees w (w.alloc (.cells #[v, .bool so] 37))) := (Sees.refl w).alloc _
  obtain ⟨l0, l1⟩ := L0.c
  go_enter Tryd.func68, Tryd.ntmps68
  go_wp2_with fail
  refine (H.out _ HS0.out).mono ?_
  rintro e W2 ⟨rfl, s⟩
  have HS := Lib.hid (HS0.out.trans s)
  clear s H
  go_wp2
  go_ret
  exact ⟨rfl, HS.out⟩
theorem one_any (r : Int) (w : World) : Calls Tryd.prog 102 #[.int .i32 r] w fun e w' => e = .returned (Cell.val ⟨r, 0, 0, 0, 1, 0, 0, 0, 0, 0, 0, 0, 0, 0, 0, 0⟩) ∧ Sees w w' := by
  go_enter Tryd.func102, Tryd.ntmps102
  go_wp2
  exact bodyPost_ret (v := .agg #[.int .i32 r, .int .i32 0, .int .i32 0, .int .i32 0, .int .i64 1, .int .i64 0, .int .u8 0, .int .u8 0, .int .u8 0, .int .u8 0, .int .i64 0, .int .u8 0, .int .u8 0, .int .u8 0, .int .u8 0, .int .u8 0]) (by simp [results, Tryd.results102, go_sem]) rfl ⟨rfl, (Sees.refl _).alloc _⟩
theorem str_cell {F : Nat → Prop} {w : World} {a : Option Addr} {n c : Nat} {xs : List ByteArray} (h : sEl.Rd F w (.slice a n c) xs) {k : Nat} (hk : k < n) : ∃ b o x, a = some ⟨b, o, none⟩ ∧ xs[k]? = some x ∧ w.cell? ⟨b, o + k, none⟩ = some (.string x) := by
  have hl : n = xs.length := h.len
  obtain ⟨ao, cap, e, _, hh⟩ := h
  cases e
  obtain ⟨b, o, rfl, _, hc⟩ := hh (fun e => by rw [e] at hk; simp at hk)
  have hx : xs[k]? = some xs[k] := List.getElem?_eq_getElem (by omega)
  obtain ⟨vs, h1, h2⟩ := hc k _ hx
  have e : vs = [.string xs[k]] := h1
  have := h2 0 (.string xs[k]) (by rw [e]; rfl)
  exact ⟨b, o, _, rfl, hx, by simpa [show sEl.n = 1 from rfl] using this⟩
theorem rows_true (v u : Value) (xs : List ByteArray) (E : Int) (F : Nat → Prop) (w : World) (hu : sEl.Rd F w u xs) (hn : xs.length ≤ 1000000)
    (K : Calls Tryd.prog 64 #[v] w fun e w' => ∃ v', e = .returned (.tuple #[v', .int .i64 E]) ∧ sEl.Rd (fun _ => True) w' v' xs ∧ Sees w w') :
    Calls Tryd.prog 103 #[v, u, .int .i64 E] w fun e w' => e = .returned (.bool true) ∧ Sees w w' := by
  have H := Lib.hid K
  obtain ⟨ao, c, rfl, _⟩ := hu.slice'
  obtain ⟨n, hnn⟩ : ∃ n, n = xs.length := ⟨_, rfl⟩
  rw [← hnn] at hu hn ⊢
  have HU := Lib.hid hu
  have HN := Lib.hid hnn
  clear K hu hnn
  go_enter Tryd.func103, Tryd.ntmps103
  go_wp2_with fail
  refine H.out.mono ?_
  rintro e W2 ⟨v2, rfl, hr, s⟩
  obtain ⟨a2, c2, rfl, _⟩ := hr.slice'
  rw [← HN.out] at hr ⊢
  have HR := Lib.hid hr
  have HS := Lib.hid s
  clear s H hr
  go_wp2_with fail
  go_loopw [9] (fun i W => ∃ k : Nat, k ≤ n ∧ i = .int .i64 k ∧ Sees W2 W) (fun i _ => n - (intOf i).toNat)
  case atStart => exact ⟨0, Nat.zero_le _, rfl, Sees.refl _⟩
  case round =>
    obtain ⟨k, hk, rfl, hS⟩ := hrel
    have HS3 := Lib.hid hS
    clear hS
    by_cases hlt : k < n
    · obtain ⟨b1, o1, x, rfl, hx1, y0⟩ := str_cell (HR.out.sees HS3.out) hlt
      obtain ⟨b2, o2, x2, rfl, hx2, z0⟩ := str_cell (HU.out.sees (HS.out.trans HS3.out)) hlt
      obtain rfl : x = x2 := Option.some.inj (hx1.symm.trans hx2)
      clear hx1 hx2
      go_upto_region 7 with fail
      have q0 := fun d os => (sees_grow wr d os).cell y0
      have q1 := fun d os => (sees_grow wr d os).cell z0
      refine wp_region_quiet_below (by kernel_rfl) (by kernel_rfl) ?_
      repeat (first | go_big_quiet_skip | (go_big_quiet_want; go_big_quiet_op; go_big_quiet_on))
      refine wpQuiet_nil ?_; intro w2 hw2'; have hw2 := regrown_sees hw2'; clear hw2'
      have HS4 := Lib.hid (HS3.out.trans hw2)
      clear hw2 q0 q1 y0 z0
      go_wp2
      exact ⟨⟨k + 1, by omega, by go_num, HS4.out⟩, by simp [intOf]; omega⟩
    · obtain rfl : n = k := by omega
      go_wp2
      go_ret
      exact ⟨rfl, HS.out.trans HS3.out⟩
end Go.Proofs.YtfdolhppbimbmaaDoor
