/- A view: New, zero, nothing, clamped, Back, Rows, Copy, Bottom. A view: clamped, Bottom, Scroll, Pushed, Resize. A view: Resize. No condition. -/
import Derived.Test.YtpicffaghoggdaaDoorHlA
import Derived.Test.YtpicffaghoggdaaDoorRiU
namespace Go.Proofs.YtpicffaghoggdaaDoor
set_option linter.unusedVariables false
set_option linter.unusedSimpArgs false
open Go.RowKit

/-- A view in memory. -/
def VwAt (W : World) (b : Nat) (rows back : Int) : Prop := W.heap[b]? = some (.cells #[.int .i64 rows, .int .i64 back] 71 (0, 0))
namespace VwAt
variable {W W' : World} {b : Nat} {p g : Int}
theorem sees (h : VwAt W b p g) (hs : Sees W W') : VwAt W' b p g := by
  unfold VwAt; rw [hs.block _ (Array.getElem?_eq_some_iff.1 h).1]; exact h
theorem keeps {F : Nat → Prop} (h : VwAt W b p g) (hk : Keeps F W W') (hF : ¬ F b) : VwAt W' b p g := by
  unfold VwAt; rw [hk.block _ (Array.getElem?_eq_some_iff.1 h).1 hF]; exact h
theorem new {n : Nat} (hn : n = W.heap.size) : VwAt (W.alloc (.cells #[.int .i64 p, .int .i64 g] 71)) n p g := by subst hn; exact heap_alloc_new W _
theorem lt (h : VwAt W b p g) : b < W.heap.size := (Array.getElem?_eq_some_iff.1 h).1
theorem c (h : VwAt W b p g) : W.cell? ⟨b, 0, none⟩ = some (.int .i64 p) ∧ W.cell? ⟨b, 1, none⟩ = some (.int .i64 g) := by
  rw [cell_of_row _ _ _ _ _ _ h, cell_of_row _ _ _ _ _ _ h]; exact ⟨rfl, rfl⟩
theorem fr (h : VwAt W b p g) : ∀ i, W.frozen? ⟨b, i, none⟩ = false := fun i => frozen_of_row W b i _ _ h
end VwAt
/-- Nil, or a zero view. -/
def NoVw (w : World) (v : Value) : Prop := v = .pointer none ∨ ∃ b, v = .pointer (some ⟨b, 0, none⟩) ∧ VwAt w b 0 0
theorem NoVw.sees {w W : World} {v : Value} (h : NoVw w v) (hs : Sees w W) : NoVw W v := by
  rcases h with h | ⟨b, h, k⟩
  · exact .inl h
  · exact .inr ⟨b, h, k.sees hs⟩

theorem vzero_no (w : World) (v : Value) (h : NoVw w v) : Calls Tryd.prog 67 #[v] w fun e w' => e = .returned (.bool true) ∧ Sees w w' := by
  have hw := Sees.refl w
  rcases h with rfl | ⟨b, rfl, hb⟩
  · go_enter Tryd.func67, Tryd.ntmps67
    go_wp2
    go_ret
    exact ⟨by simp, hw⟩
  · obtain ⟨q0, q1⟩ := hb.c
    go_enter Tryd.func67, Tryd.ntmps67
    go_wp2
    go_ret
    exact ⟨by simp, hw⟩
theorem vzero_at (w : World) (b : Nat) (rows back : Int) (hb : VwAt w b rows back) (h0 : rows ≠ 0) : Calls Tryd.prog 67 #[.pointer (some ⟨b, 0, none⟩)] w fun e w' => e = .returned (.bool false) ∧ Sees w w' := by
  have hw := Sees.refl w
  obtain ⟨q0, q1⟩ := hb.c
  have hz : (rows == 0) = false := beq_eq_false_iff_ne.2 h0
  clear h0
  go_enter Tryd.func67, Tryd.ntmps67
  go_wp2
  go_ret
  exact ⟨by simp [hz], hw⟩
theorem vnew_bad (n : Int) (w : World) (h : n < 1 ∨ 1000 < n) : Calls Tryd.prog 32 #[.int .i64 n] w fun e w' => e = .returned (.tuple #[.pointer none, .int .i64 2]) ∧ Sees w w' := by
  have hw := Sees.refl w
  by_cases h1 : n < 1
  · have d1 : decide (n < 1) = true := decide_eq_true h1
    clear h h1
    go_enter Tryd.func32, Tryd.ntmps32
    go_wp2
    go_ret2
    exact ⟨rfl, hw⟩
  · have d1 : decide (n < 1) = false := decide_eq_false h1
    have d2 : decide (n > 1000) = true := decide_eq_true (by omega)
    clear h h1
    go_enter Tryd.func32, Tryd.ntmps32
    go_wp2
    go_ret2
    exact ⟨rfl, hw⟩
theorem vnew_ok (n : Int) (w : World) (h1 : 1 ≤ n) (h2 : n ≤ 1000) : Calls Tryd.prog 32 #[.int .i64 n] w fun e w' => e = .returned (.tuple #[.pointer (some ⟨w.heap.size, 0, none⟩), .int .i64 0]) ∧ VwAt w' w.heap.size n 0 ∧ Sees w w' := by
  have hw := Sees.refl w
  have d1 : decide (n < 1) = false := decide_eq_false (by omega)
  have d2 : decide (n > 1000) = false := decide_eq_false (by omega)
  clear h1 h2
  go_enter Tryd.func32, Tryd.ntmps32
  go_wp2
  go_ret2
  exact ⟨rfl, VwAt.new rfl, hw.alloc _⟩
theorem vback_no (w : World) (v : Value) (h : NoVw w v) : Calls Tryd.prog 42 #[v] w fun e w' => e = .returned (.int .i64 0) ∧ Sees w w' := by
  go_enter Tryd.func42, Tryd.ntmps42
  go_wp2_with fail
  refine (vzero_no w v h).mono ?_
  rintro e w1 ⟨rfl, s1⟩
  go_wp2
  go_ret
  exact ⟨rfl, s1⟩
theorem vback_at (w : World) (b : Nat) (rows back : Int) (hb : VwAt w b rows back) (h0 : rows ≠ 0) : Calls Tryd.prog 42 #[.pointer (some ⟨b, 0, none⟩)] w fun e w' => e = .returned (.int .i64 back) ∧ Sees w w' := by
  go_enter Tryd.func42, Tryd.ntmps42
  go_wp2_with fail
  refine (vzero_at w b rows back hb h0).mono ?_
  rintro e w1 ⟨rfl, s1⟩
  obtain ⟨q0, q1⟩ := (hb.sees s1).c
  go_wp2
  go_ret
  exact ⟨rfl, s1⟩
theorem vrows_no (w : World) (v : Value) (h : NoVw w v) : Calls Tryd.prog 41 #[v] w fun e w' => e = .returned (.int .i64 0) ∧ Sees w w' := by
  go_enter Tryd.func41, Tryd.ntmps41
  go_wp2_with fail
  refine (vzero_no w v h).mono ?_
  rintro e w1 ⟨rfl, s1⟩
  go_wp2
  go_ret
  exact ⟨rfl, s1⟩
theorem vrows_at (w : World) (b : Nat) (rows back : Int) (hb : VwAt w b rows back) (h0 : rows ≠ 0) : Calls Tryd.prog 41 #[.pointer (some ⟨b, 0, none⟩)] w fun e w' => e = .returned (.int .i64 rows) ∧ Sees w w' := by
  go_enter Tryd.func41, Tryd.ntmps41
  go_wp2_with fail
  refine (vzero_at w b rows back hb h0).mono ?_
  rintro e w1 ⟨rfl, s1⟩
  obtain ⟨q0, q1⟩ := (hb.sees s1).c
  go_wp2
  go_ret
  exact ⟨rfl, s1⟩
theorem vcopy_no (w : World) (v : Value) (h : NoVw w v) : Calls Tryd.prog 48 #[v] w fun e w' => e = .returned (.pointer none) ∧ Sees w w' := by
  go_enter Tryd.func48, Tryd.ntmps48
  go_wp2_with fail
  refine (vzero_no w v h).mono ?_
  rintro e w1 ⟨rfl, s1⟩
  go_wp2
  go_ret
  exact ⟨rfl, s1⟩
theorem vcopy_at (w : World) (b : Nat) (rows back : Int) (hb : VwAt w b rows back) (h0 : rows ≠ 0) : Calls Tryd.prog 48 #[.pointer (some ⟨b, 0, none⟩)] w fun e w' => ∃ q, e = .returned (.pointer (some ⟨q, 0, none⟩)) ∧ w.heap.size ≤ q ∧ VwAt w' q rows back ∧ Sees w w' := by
  go_enter Tryd.func48, Tryd.ntmps48
  go_wp2_with fail
  refine (vzero_at w b rows back hb h0).mono ?_
  rintro e w1 ⟨rfl, s1⟩
  obtain ⟨q0, q1⟩ := (hb.sees s1).c
  have hz := s1.size
  go_wp2
  go_ret
  exact ⟨_, rfl, hz, VwAt.new rfl, s1.alloc _⟩
theorem vbottom_no (w : World) (v : Value) (h : NoVw w v) : Calls Tryd.prog 46 #[v] w fun e w' => e = .returned (.int .i64 1) ∧ Sees w w' := by
  go_enter Tryd.func46, Tryd.ntmps46
  go_wp2_with fail
  refine (vzero_no w v h).mono ?_
  rintro e w1 ⟨rfl, s1⟩
  go_wp2
  go_ret
  exact ⟨rfl, s1⟩
theorem vnothing_no (w : World) (v : Value) (h : NoHi w v) : Calls Tryd.prog 68 #[v] w fun e w' => e = .returned (.bool true) ∧ Sees w w' := by
  go_enter Tryd.func68, Tryd.ntmps68
  go_wp2_with fail
  refine (hcopy_no w v h).mono ?_
  rintro e w1 ⟨rfl, s1⟩
  go_wp2
  go_ret
  exact ⟨by simp, s1⟩
theorem vnothing_at {w1 W : World} {F : Nat → Prop} {b : Nat} {most first : Int} {ls : List Ln} (h : HiF w1 F W b most first ls) : Calls Tryd.prog 68 #[.pointer (some ⟨b, 0, none⟩)] W fun e w' => e = .returned (.bool false) ∧ Sees W w' := by
  go_enter Tryd.func68, Tryd.ntmps68
  go_wp2_with fail
  refine (h.hiCopy).mono ?_
  rintro e w1 ⟨q, rfl, _, s1⟩
  go_wp2
  go_ret
  exact ⟨by simp, s1⟩
end Go.Proofs.YtpicffaghoggdaaDoor

namespace Go.Proofs.YtpicffaghoggdaaDoor
set_option linter.unusedVariables false
set_option linter.unusedSimpArgs false
open Go.RowKit

/-- By how many lines a view is scrolled back, where there are 'y'. -/
def clampV (x y : Int) : Int := max 0 (min x y)
theorem vclamped (x y k : Int) (w : World) (hy : 0 ≤ y) (hk : clampV x y = k) :
    Calls Tryd.prog 69 #[.agg #[.int .i64 x, .int .i64 y]] w fun e w' => e = .returned (.int .i64 k) ∧ Sees w w' := by
  subst hk
  have hw := Sees.refl w
  by_cases h1 : x < 0
  · have d1 : decide (x < 0) = true := decide_eq_true h1
    have hk : Hid (clampV x y = 0) := Lib.hid (by unfold clampV; omega)
    rw [hk.out]
    clear h1
    go_enter Tryd.func69, Tryd.ntmps69
    go_wp2
    go_ret
    exact ⟨rfl, hw.alloc _⟩
  · have d1 : decide (x < 0) = false := decide_eq_false h1
    by_cases h2 : x > y
    · have d2 : decide (x > y) = true := decide_eq_true h2
      have hk : Hid (clampV x y = y) := Lib.hid (by unfold clampV; omega)
      rw [hk.out]
      clear h1 h2
      go_enter Tryd.func69, Tryd.ntmps69
      go_wp2
      go_ret
      exact ⟨rfl, hw.alloc _⟩
    · have d2 : decide (x > y) = false := decide_eq_false h2
      have hk : Hid (clampV x y = x) := Lib.hid (by unfold clampV; omega)
      rw [hk.out]
      clear h1 h2
      go_enter Tryd.func69, Tryd.ntmps69
      go_wp2
      go_ret
      exact ⟨rfl, hw.alloc _⟩
theorem VwAt.set1 {W : World} {b : Nat} {p g : Int} (h : VwAt W b p g) (g' : Int) : VwAt (W.setCell ⟨b, 1, none⟩ (.int .i64 g')) b p g' := heap_setCell_same _ _ _ _ _ _ h
theorem VwAt.set0 {W : World} {b : Nat} {p g : Int} (h : VwAt W b p g) (p' : Int) : VwAt (W.setCell ⟨b, 0, none⟩ (.int .i64 p')) b p' g := heap_setCell_same _ _ _ _ _ _ h
theorem vbottom_at (w : World) (b : Nat) (rows back : Int) (hb : VwAt w b rows back) (h0 : rows ≠ 0) : Calls Tryd.prog 46 #[.pointer (some ⟨b, 0, none⟩)] w fun e w' => e = .returned (.int .i64 0) ∧ VwAt w' b rows 0 ∧ Keeps (fun c => c = b) w w' := by
  go_enter Tryd.func46, Tryd.ntmps46
  go_wp2_with fail
  refine (vzero_at w b rows back hb h0).mono ?_
  rintro e w1 ⟨rfl, s1⟩
  have hb1 := hb.sees s1
  obtain ⟨q0, q1⟩ := hb1.c
  have fr := hb1.fr
  go_wp2
  go_ret
  exact ⟨rfl, hb1.set1 0, (Keeps.of_sees (F := fun c => c = b) s1).setCell (p := ⟨b, 1, none⟩) (fun _ => rfl) _⟩
theorem vscroll_no1 (w : World) (v h : Value) (n : Int) (hv : NoVw w v) : Calls Tryd.prog 33 #[v, .int .i64 n, h] w fun e w' => e = .returned (.int .i64 1) ∧ Sees w w' := by
  go_enter Tryd.func33, Tryd.ntmps33
  go_wp2_with fail
  refine (vzero_no w v hv).mono ?_
  rintro e w1 ⟨rfl, s1⟩
  go_wp2
  go_ret
  exact ⟨rfl, s1⟩
theorem vscroll_no2 (w : World) (b : Nat) (rows back : Int) (h : Value) (n : Int) (hb : VwAt w b rows back) (h0 : rows ≠ 0) (hh : NoHi w h) : Calls Tryd.prog 33 #[.pointer (some ⟨b, 0, none⟩), .int .i64 n, h] w fun e w' => e = .returned (.int .i64 1) ∧ Sees w w' := by
  go_enter Tryd.func33, Tryd.ntmps33
  go_wp2_with fail
  refine (vzero_at w b rows back hb h0).mono ?_
  rintro e w1 ⟨rfl, s1⟩
  go_wp2_with fail
  refine (vnothing_no w1 h (hh.sees s1)).mono ?_
  rintro e w2 ⟨rfl, s2⟩
  go_wp2
  go_ret
  exact ⟨rfl, s1.trans s2⟩
set_option maxRecDepth 100000 in
set_option maxHeartbeats 4000000 in
theorem vscroll_at {w1 W : World} {F : Nat → Prop} {g : Nat} {most first : Int} {ls : List Ln} (hh : HiF w1 F W g most first ls) (b : Nat) (rows back n k : Int) (hb : VwAt W b rows back) (h0 : rows ≠ 0) (hk0 : 0 ≤ back) (hk1 : back ≤ 1048576) (hk : clampV (back + max (min n 1048576) (-1048576)) ls.length = k) :
    Calls Tryd.prog 33 #[.pointer (some ⟨b, 0, none⟩), .int .i64 n, .pointer (some ⟨g, 0, none⟩)] W fun e w' => e = .returned (.int .i64 0) ∧ VwAt w' b rows k ∧ Keeps (fun c => c = b) W w' := by
  have H := Lib.hid hh
  obtain ⟨z1, hz1⟩ : ∃ z1, (if (1048576 : Int) < n then 1048576 else n) = z1 := ⟨_, rfl⟩
  obtain ⟨z2, hz2⟩ : ∃ z2, (if z1 < -1048576 then -1048576 else z1) = z2 := ⟨_, rfl⟩
  have hzz : max (min n 1048576) (-1048576) = z2 := by rw [← hz2, ← hz1]; split <;> split <;> omega
  rw [hzz] at hk
  have hb2 : -1048576 ≤ z2 ∧ z2 ≤ 1048576 := by omega
  have g1 : IntKind.i64.wrap (back + z2) = back + z2 := IntWalk.i64_in _ (by omega)
  have Hk := Lib.hid hk
  clear hh hk hzz hb2 hk0 hk1
  go_enter Tryd.func33, Tryd.ntmps33
  go_wp2_with fail
  refine (vzero_at W b rows back hb h0).mono ?_
  rintro e w2 ⟨rfl, s2⟩
  go_wp2_with fail
  refine (vnothing_at (H.out.sees s2)).mono ?_
  rintro e w3 ⟨rfl, s3⟩
  go_wp2_with fail
  refine wpFrom_go (by kernel_rfl) (by kernel_rfl) (fun hB w4 hs4 => ?_)
  have S4 := Lib.hid ((s2.trans s3).trans hs4)
  have D4 := Lib.hid (hb.sees S4.out)
  clear hs4 s2 s3 hb
  have hval : ∀ x v, (Spec.is x).val v = x := fun _ _ => rfl
  have hval2 : ∀ V v, (Spec.so V).val v = v := fun _ _ => rfl
  have hst : segStay (Sees w4) [.is (.pointer (some ⟨b, 0, none⟩)), .is (.pointer (some ⟨b, 0, none⟩)), .is (.pointer (some ⟨b, 0, none⟩)), .is (.pointer (some ⟨b, 1, none⟩)), .is (.int .i64 back), .is (.int .i64 z2), .is (.int .i64 (back + z2)), .is (.pointer (some ⟨g, 0, none⟩)), .is (.int .i64 ls.length), .is (.agg #[.int .i64 (back + z2), .int .i64 ls.length]), .is (.int .i64 k), .is (.pointer (some ⟨b, 0, none⟩)), .is (.pointer (some ⟨b, 1, none⟩))] := trivial
  refine wpFrom_any 13 _ hB (by kernel_rfl) rfl hst (by simp only [List.cons_append, List.nil_append, List.drop_succ_cons, List.drop_zero, List.take_succ_cons, List.take_zero, Nat.reduceSub]; rfl) ?_
  refine ⟨fun vs W hI hV => .inl ⟨by clear hI hV hst; go_simp, .inl (by clear hI hV hst; (try simp only [Act.put, hval, hval2, List.setIfInBounds_toArray, List.set_cons_zero, List.set_cons_succ]); go_simp)⟩, ?_⟩
  refine ⟨fun vs W hI hV => .inl ⟨by clear hI hV hst; go_simp, .inl (by clear hI hV hst; (try simp only [Act.put, hval, hval2, List.setIfInBounds_toArray, List.set_cons_zero, List.set_cons_succ]); go_simp)⟩, ?_⟩
  refine ⟨fun vs W hI hV => .inl ⟨by clear hI hV hst; go_simp, .inl (by clear hI hV hst; (try simp only [Act.put, hval, hval2, List.setIfInBounds_toArray, List.set_cons_zero, List.set_cons_succ]); go_simp)⟩, ?_⟩
  refine ⟨fun vs W hI hV => .inl ⟨by clear hI hV hst; go_simp, .inl (by clear hI hV hst; (try simp only [Act.put, hval, hval2, List.setIfInBounds_toArray, List.set_cons_zero, List.set_cons_succ]); go_simp)⟩, ?_⟩
  refine ⟨fun vs W hI hV => .inl ⟨by clear hI hV hst; go_simp, .inl (by have q := (D4.out.sees hI).c; obtain ⟨q0, q1⟩ := q; clear hI hV hst; (try simp only [Act.put, hval, hval2, List.setIfInBounds_toArray, List.set_cons_zero, List.set_cons_succ]); go_simp)⟩, ?_⟩
  refine ⟨fun vs W hI hV => .inl ⟨by clear hI hV hst; go_simp, .inl (by clear hI hV hst; (try simp only [Act.put, hval, hval2, List.setIfInBounds_toArray, List.set_cons_zero, List.set_cons_succ]); go_simp)⟩, ?_⟩
  refine ⟨fun vs W hI hV => .inl ⟨by clear hI hV hst; go_simp, .inl (by clear hI hV hst; (try simp only [Act.put, hval, hval2, List.setIfInBounds_toArray, List.set_cons_zero, List.set_cons_succ]); go_simp)⟩, ?_⟩
  refine ⟨fun vs W hI hV => .inl ⟨by clear hI hV hst; go_simp, .inl (by clear hI hV hst; (try simp only [Act.put, hval, hval2, List.setIfInBounds_toArray, List.set_cons_zero, List.set_cons_succ]); go_simp)⟩, ?_⟩
  refine ⟨fun vs W hI hV => .inl ⟨by clear hI hV hst; (try simp only [Act.put, hval, hval2, List.setIfInBounds_toArray, List.set_cons_zero, List.set_cons_succ]); go_simp, .inr (.inr ⟨24, #[.pointer (some ⟨g, 0, none⟩)], by clear hI hV hst; (try simp only [Act.put, hval, hval2, List.setIfInBounds_toArray, List.set_cons_zero, List.set_cons_succ]); go_simp, (H.out.sees (S4.out.trans hI)).hiLen _ rfl⟩)⟩, ?_⟩
  refine ⟨fun vs W hI hV => .inl ⟨by clear hI hV hst; go_simp, .inl (by clear hI hV hst; (try simp only [Act.put, hval, hval2, List.setIfInBounds_toArray, List.set_cons_zero, List.set_cons_succ]); go_simp)⟩, ?_⟩
  refine ⟨fun vs W hI hV => .inl ⟨by clear hI hV hst; (try simp only [Act.put, hval, hval2, List.setIfInBounds_toArray, List.set_cons_zero, List.set_cons_succ]); go_simp, .inr (.inr ⟨69, #[.agg #[.int .i64 (back + z2), .int .i64 ls.length]], by clear hI hV hst; (try simp only [Act.put, hval, hval2, List.setIfInBounds_toArray, List.set_cons_zero, List.set_cons_succ]); go_simp, vclamped _ _ _ W (by omega) Hk.out⟩)⟩, ?_⟩
  refine ⟨fun vs W hI hV => .inl ⟨by clear hI hV hst; go_simp, .inl (by clear hI hV hst; (try simp only [Act.put, hval, hval2, List.setIfInBounds_toArray, List.set_cons_zero, List.set_cons_succ]); go_simp)⟩, ?_⟩
  refine ⟨fun vs W hI hV => .inl ⟨by clear hI hV hst; go_simp, .inl (by clear hI hV hst; (try simp only [Act.put, hval, hval2, List.setIfInBounds_toArray, List.set_cons_zero, List.set_cons_succ]); go_simp)⟩, ?_⟩
  intro vs w5 hI hV
  have S5 := Lib.hid (S4.out.trans hI)
  have D5 := Lib.hid (D4.out.sees hI)
  clear hI hV hst D4
  obtain ⟨q0, q1⟩ := D5.out.c
  have fr := D5.out.fr
  (try simp only [Act.put, hval, hval2, List.setIfInBounds_toArray, List.set_cons_zero, List.set_cons_succ])
  go_simp
  refine wpFrom_to 14 hB (fun _ _ _ _ _ h => h) (by kernel_rfl) (by simp only [List.cons_append, List.nil_append, List.drop_succ_cons, List.drop_zero, List.take_succ_cons, List.take_zero, Nat.reduceSub]; rfl) ?_
  go_wp2_with fail
  refine wpFrom_end rfl ?_
  clear hB
  go_wp2
  go_ret
  exact ⟨by simp, D5.out.set1 k, (Keeps.of_sees (F := fun c => c = b) S5.out).setCell (p := ⟨b, 1, none⟩) (fun _ => rfl) _⟩
theorem vpushed_no1 (w : World) (v h : Value) (n : Int) (hv : NoVw w v) : Calls Tryd.prog 44 #[v, .int .i64 n, h] w fun e w' => e = .returned (.int .i64 1) ∧ Sees w w' := by
  go_enter Tryd.func44, Tryd.ntmps44
  go_wp2_with fail
  refine (vzero_no w v hv).mono ?_
  rintro e w1 ⟨rfl, s1⟩
  go_wp2
  go_ret
  exact ⟨rfl, s1⟩
theorem vpushed_no2 (w : World) (b : Nat) (rows back : Int) (h : Value) (n : Int) (hb : VwAt w b rows back) (h0 : rows ≠ 0) (hh : NoHi w h) : Calls Tryd.prog 44 #[.pointer (some ⟨b, 0, none⟩), .int .i64 n, h] w fun e w' => e = .returned (.int .i64 1) ∧ Sees w w' := by
  go_enter Tryd.func44, Tryd.ntmps44
  go_wp2_with fail
  refine (vzero_at w b rows back hb h0).mono ?_
  rintro e w1 ⟨rfl, s1⟩
  go_wp2_with fail
  refine (vnothing_no w1 h (hh.sees s1)).mono ?_
  rintro e w2 ⟨rfl, s2⟩
  go_wp2
  go_ret
  exact ⟨rfl, s1.trans s2⟩
theorem vpushed_arg {w1 W : World} {F : Nat → Prop} {g : Nat} {most first : Int} {ls : List Ln} (hh : HiF w1 F W g most first ls) (b : Nat) (rows back n : Int) (hb : VwAt W b rows back) (h0 : rows ≠ 0) (hn : n < 0) :
    Calls Tryd.prog 44 #[.pointer (some ⟨b, 0, none⟩), .int .i64 n, .pointer (some ⟨g, 0, none⟩)] W fun e w' => e = .returned (.int .i64 2) ∧ Sees W w' := by
  have d1 : decide (n < 0) = true := decide_eq_true hn
  clear hn
  all_goals
    go_enter Tryd.func44, Tryd.ntmps44
    go_wp2_with fail
    refine (vzero_at W b rows back hb h0).mono ?_
    rintro e w2 ⟨rfl, s2⟩
    go_wp2_with fail
    refine (vnothing_at (hh.sees s2)).mono ?_
    rintro e w3 ⟨rfl, s3⟩
    go_wp2
    go_ret
    exact ⟨rfl, s2.trans s3⟩
theorem vresize_no1 (w : World) (v h : Value) (n : Int) (hv : NoVw w v) : Calls Tryd.prog 47 #[v, .int .i64 n, h] w fun e w' => e = .returned (.int .i64 1) ∧ Sees w w' := by
  go_enter Tryd.func47, Tryd.ntmps47
  go_wp2_with fail
  refine (vzero_no w v hv).mono ?_
  rintro e w1 ⟨rfl, s1⟩
  go_wp2
  go_ret
  exact ⟨rfl, s1⟩
theorem vresize_no2 (w : World) (b : Nat) (rows back : Int) (h : Value) (n : Int) (hb : VwAt w b rows back) (h0 : rows ≠ 0) (hh : NoHi w h) : Calls Tryd.prog 47 #[.pointer (some ⟨b, 0, none⟩), .int .i64 n, h] w fun e w' => e = .returned (.int .i64 1) ∧ Sees w w' := by
  go_enter Tryd.func47, Tryd.ntmps47
  go_wp2_with fail
  refine (vzero_at w b rows back hb h0).mono ?_
  rintro e w1 ⟨rfl, s1⟩
  go_wp2_with fail
  refine (vnothing_no w1 h (hh.sees s1)).mono ?_
  rintro e w2 ⟨rfl, s2⟩
  go_wp2
  go_ret
  exact ⟨rfl, s1.trans s2⟩
theorem vresize_arg {w1 W : World} {F : Nat → Prop} {g : Nat} {most first : Int} {ls : List Ln} (hh : HiF w1 F W g most first ls) (b : Nat) (rows back n : Int) (hb : VwAt W b rows back) (h0 : rows ≠ 0) (hn : n < 1 ∨ 1000 < n) :
    Calls Tryd.prog 47 #[.pointer (some ⟨b, 0, none⟩), .int .i64 n, .pointer (some ⟨g, 0, none⟩)] W fun e w' => e = .returned (.int .i64 2) ∧ Sees W w' := by
  by_cases h1 : n < 1
  · have d1 : decide (n < 1) = true := decide_eq_true h1
    clear hn h1
    go_enter Tryd.func47, Tryd.ntmps47
    go_wp2_with fail
    refine (vzero_at W b rows back hb h0).mono ?_
    rintro e w2 ⟨rfl, s2⟩
    go_wp2_with fail
    refine (vnothing_at (hh.sees s2)).mono ?_
    rintro e w3 ⟨rfl, s3⟩
    go_wp2
    go_ret
    exact ⟨rfl, s2.trans s3⟩
  · have d1 : decide (n < 1) = false := decide_eq_false (by omega)
    have d2 : decide (n > 1000) = true := decide_eq_true (by omega)
    clear hn h1
    go_enter Tryd.func47, Tryd.ntmps47
    go_wp2_with fail
    refine (vzero_at W b rows back hb h0).mono ?_
    rintro e w2 ⟨rfl, s2⟩
    go_wp2_with fail
    refine (vnothing_at (hh.sees s2)).mono ?_
    rintro e w3 ⟨rfl, s3⟩
    go_wp2
    go_ret
    exact ⟨rfl, s2.trans s3⟩
set_option maxRecDepth 100000 in
set_option maxHeartbeats 4000000 in
theorem vpushed_zero {w1 W : World} {F : Nat → Prop} {g : Nat} {most first : Int} {ls : List Ln} (hh : HiF w1 F W g most first ls) (b : Nat) (rows back n k : Int) (hb : VwAt W b rows back) (h0 : rows ≠ 0) (hg : ∀ c, F c → c ≠ b) (hlo : w1.heap.size ≤ b) (hn : 0 ≤ n) (hk1 : back ≤ 1048576) (hz : back ≤ 0) (hk : clampV back ls.length = k) :
    Calls Tryd.prog 44 #[.pointer (some ⟨b, 0, none⟩), .int .i64 n, .pointer (some ⟨g, 0, none⟩)] W fun e w' => e = .returned (.int .i64 0) ∧ VwAt w' b rows k ∧ Keeps (fun c => c = b) W w' := by
  have H := Lib.hid hh
  have HG := Lib.hid (And.intro hg hlo)
  have d1 : decide (n < 0) = false := decide_eq_false (by omega)
  have d2 : decide (back > 0) = false := decide_eq_false (by omega)
  have Hk := Lib.hid hk
  clear hh hk hn hk1 hg hlo hz
  go_enter Tryd.func44, Tryd.ntmps44
  go_wp2_with fail
  refine (vzero_at W b rows back hb h0).mono ?_
  rintro e w2 ⟨rfl, s2⟩
  go_wp2_with fail
  refine (vnothing_at (H.out.sees s2)).mono ?_
  rintro e w3 ⟨rfl, s3⟩
  have D3 := Lib.hid (hb.sees (s2.trans s3))
  have H3 := Lib.hid (H.out.sees (s2.trans s3))
  have S3 := Lib.hid (s2.trans s3)
  clear s2 s3 hb H
  obtain ⟨q0, q1⟩ := D3.out.c
  have fr := D3.out.fr
  go_wp2_with fail
  refine wpFrom_go (by kernel_rfl) (by kernel_rfl) (fun hB w4 hs4 => ?_)
  have K4 := Lib.hid ((Keeps.of_sees (F := fun c => c = b) S3.out).trans (Keeps.of_sees hs4))
  have D4 := Lib.hid (D3.out.sees hs4)
  have H4 := Lib.hid (H3.out.sees hs4)
  clear hs4
  have hval : ∀ x v, (Spec.is x).val v = x := fun _ _ => rfl
  have hval2 : ∀ V v, (Spec.so V).val v = v := fun _ _ => rfl
  have hst : segStay (Sees w4) [.is (.pointer (some ⟨b, 0, none⟩)), .is (.pointer (some ⟨b, 0, none⟩)), .is (.pointer (some ⟨b, 0, none⟩)), .is (.pointer (some ⟨b, 1, none⟩)), .is (.int .i64 back), .is (.pointer (some ⟨g, 0, none⟩)), .is (.int .i64 ls.length), .is (.agg #[.int .i64 back, .int .i64 ls.length]), .is (.int .i64 k), .is (.pointer (some ⟨b, 0, none⟩)), .is (.pointer (some ⟨b, 1, none⟩))] := trivial
  refine wpFrom_any 11 _ hB (by kernel_rfl) rfl hst (by simp only [List.cons_append, List.nil_append, List.drop_succ_cons, List.drop_zero, List.take_succ_cons, List.take_zero, Nat.reduceSub]; rfl) ?_
  refine ⟨fun vs W hI hV => .inl ⟨by clear hI hV hst; go_simp, .inl (by clear hI hV hst; (try simp only [Act.put, hval, hval2, List.setIfInBounds_toArray, List.set_cons_zero, List.set_cons_succ]); go_simp)⟩, ?_⟩
  refine ⟨fun vs W hI hV => .inl ⟨by clear hI hV hst; go_simp, .inl (by clear hI hV hst; (try simp only [Act.put, hval, hval2, List.setIfInBounds_toArray, List.set_cons_zero, List.set_cons_succ]); go_simp)⟩, ?_⟩
  refine ⟨fun vs W hI hV => .inl ⟨by clear hI hV hst; go_simp, .inl (by clear hI hV hst; (try simp only [Act.put, hval, hval2, List.setIfInBounds_toArray, List.set_cons_zero, List.set_cons_succ]); go_simp)⟩, ?_⟩
  refine ⟨fun vs W hI hV => .inl ⟨by clear hI hV hst; go_simp, .inl (by clear hI hV hst; (try simp only [Act.put, hval, hval2, List.setIfInBounds_toArray, List.set_cons_zero, List.set_cons_succ]); go_simp)⟩, ?_⟩
  refine ⟨fun vs W hI hV => .inl ⟨by clear hI hV hst; go_simp, .inl (by have q := (D4.out.sees hI).c; obtain ⟨q0, q1⟩ := q; clear hI hV hst; (try simp only [Act.put, hval, hval2, List.setIfInBounds_toArray, List.set_cons_zero, List.set_cons_succ]); go_simp)⟩, ?_⟩
  refine ⟨fun vs W hI hV => .inl ⟨by clear hI hV hst; go_simp, .inl (by clear hI hV hst; (try simp only [Act.put, hval, hval2, List.setIfInBounds_toArray, List.set_cons_zero, List.set_cons_succ]); go_simp)⟩, ?_⟩
  refine ⟨fun vs W hI hV => .inl ⟨by clear hI hV hst; (try simp only [Act.put, hval, hval2, List.setIfInBounds_toArray, List.set_cons_zero, List.set_cons_succ]); go_simp, .inr (.inr ⟨24, #[.pointer (some ⟨g, 0, none⟩)], by clear hI hV hst; (try simp only [Act.put, hval, hval2, List.setIfInBounds_toArray, List.set_cons_zero, List.set_cons_succ]); go_simp, (H4.out.sees hI).hiLen _ rfl⟩)⟩, ?_⟩
  refine ⟨fun vs W hI hV => .inl ⟨by clear hI hV hst; go_simp, .inl (by clear hI hV hst; (try simp only [Act.put, hval, hval2, List.setIfInBounds_toArray, List.set_cons_zero, List.set_cons_succ]); go_simp)⟩, ?_⟩
  refine ⟨fun vs W hI hV => .inl ⟨by clear hI hV hst; (try simp only [Act.put, hval, hval2, List.setIfInBounds_toArray, List.set_cons_zero, List.set_cons_succ]); go_simp, .inr (.inr ⟨69, #[.agg #[.int .i64 back, .int .i64 ls.length]], by clear hI hV hst; (try simp only [Act.put, hval, hval2, List.setIfInBounds_toArray, List.set_cons_zero, List.set_cons_succ]); go_simp, vclamped _ _ _ W (by omega) Hk.out⟩)⟩, ?_⟩
  refine ⟨fun vs W hI hV => .inl ⟨by clear hI hV hst; go_simp, .inl (by clear hI hV hst; (try simp only [Act.put, hval, hval2, List.setIfInBounds_toArray, List.set_cons_zero, List.set_cons_succ]); go_simp)⟩, ?_⟩
  refine ⟨fun vs W hI hV => .inl ⟨by clear hI hV hst; go_simp, .inl (by clear hI hV hst; (try simp only [Act.put, hval, hval2, List.setIfInBounds_toArray, List.set_cons_zero, List.set_cons_succ]); go_simp)⟩, ?_⟩
  intro vs w5 hI hV
  have K5 := Lib.hid (K4.out.trans (Keeps.of_sees hI))
  have D5 := Lib.hid (D4.out.sees hI)
  clear hI hV hst D4 H4
  obtain ⟨q0, q1⟩ := D5.out.c
  have fr := D5.out.fr
  (try simp only [Act.put, hval, hval2, List.setIfInBounds_toArray, List.set_cons_zero, List.set_cons_succ])
  go_simp
  refine wpFrom_to 12 hB (fun _ _ _ _ _ h => h) (by kernel_rfl) (by simp only [List.cons_append, List.nil_append, List.drop_succ_cons, List.drop_zero, List.take_succ_cons, List.take_zero, Nat.reduceSub]; rfl) ?_
  go_wp2_with fail
  refine wpFrom_end rfl ?_
  clear hB
  go_wp2
  go_ret
  exact ⟨by simp, D5.out.set1 k, K5.out.setCell (p := ⟨b, 1, none⟩) (fun _ => rfl) _⟩
set_option maxRecDepth 100000 in
set_option maxHeartbeats 4000000 in
theorem vpushed_pos {w1 W : World} {F : Nat → Prop} {g : Nat} {most first : Int} {ls : List Ln} (hh : HiF w1 F W g most first ls) (b : Nat) (rows back n k : Int) (hb : VwAt W b rows back) (h0 : rows ≠ 0) (hg : ∀ c, F c → c ≠ b) (hlo : w1.heap.size ≤ b) (hn : 0 ≤ n) (hk1 : back ≤ 1048576) (hz : 0 < back) (z : Int) (hzz : z = back + min n 1048576) (hk : clampV z ls.length = k) :
    Calls Tryd.prog 44 #[.pointer (some ⟨b, 0, none⟩), .int .i64 n, .pointer (some ⟨g, 0, none⟩)] W fun e w' => e = .returned (.int .i64 0) ∧ VwAt w' b rows k ∧ Keeps (fun c => c = b) W w' := by
  have H := Lib.hid hh
  have HG := Lib.hid (And.intro hg hlo)
  have d1 : decide (n < 0) = false := decide_eq_false (by omega)
  have d2 : decide (back > 0) = true := decide_eq_true (by omega)
  obtain ⟨z1, hz1⟩ : ∃ z1, (if (1048576 : Int) < n then 1048576 else n) = z1 := ⟨_, rfl⟩
  have hzz1 : min n 1048576 = z1 := by rw [← hz1]; split <;> omega
  rw [hzz1] at hzz
  have g1 : IntKind.i64.wrap (back + z1) = z := by rw [hzz]; exact IntWalk.i64_in _ (by omega)
  clear hzz hzz1
  have Hk := Lib.hid hk
  clear hh hk hn hk1 hg hlo hz
  go_enter Tryd.func44, Tryd.ntmps44
  go_wp2_with fail
  refine (vzero_at W b rows back hb h0).mono ?_
  rintro e w2 ⟨rfl, s2⟩
  go_wp2_with fail
  refine (vnothing_at (H.out.sees s2)).mono ?_
  rintro e w3 ⟨rfl, s3⟩
  have D3 := Lib.hid (hb.sees (s2.trans s3))
  have H3 := Lib.hid (H.out.sees (s2.trans s3))
  have S3 := Lib.hid (s2.trans s3)
  clear s2 s3 hb H
  obtain ⟨q0, q1⟩ := D3.out.c
  have fr := D3.out.fr
  go_wp2_with fail
  refine wp_world (fun X hX => ?_)
  have DX := Lib.hid (show VwAt X b rows z by subst hX; exact D3.out.set1 z)
  have hkX : Keeps (fun c => c = b) w3 X := by subst hX; exact (Keeps.refl (fun c => c = b) w3).setCell (p := ⟨b, 1, none⟩) (fun _ => rfl) _
  have HX := Lib.hid (H3.out.keeps hkX (fun c hc => HG.out.1 c hc) (fun c e => by have e : c = b := e; have := HG.out.2; omega))
  have KX := Lib.hid ((Keeps.of_sees (F := fun c => c = b) S3.out).trans hkX)
  clear hX hkX D3 H3 q0 q1 fr
  obtain ⟨q0, q1⟩ := DX.out.c
  refine wpFrom_go (by kernel_rfl) (by kernel_rfl) (fun hB w4 hs4 => ?_)
  have K4 := Lib.hid (KX.out.trans (Keeps.of_sees hs4))
  have D4 := Lib.hid (DX.out.sees hs4)
  have H4 := Lib.hid (HX.out.sees hs4)
  clear hs4
  have hval : ∀ x v, (Spec.is x).val v = x := fun _ _ => rfl
  have hval2 : ∀ V v, (Spec.so V).val v = v := fun _ _ => rfl
  have hst : segStay (Sees w4) [.is (.pointer (some ⟨b, 0, none⟩)), .is (.pointer (some ⟨b, 0, none⟩)), .is (.pointer (some ⟨b, 0, none⟩)), .is (.pointer (some ⟨b, 1, none⟩)), .is (.int .i64 z), .is (.pointer (some ⟨g, 0, none⟩)), .is (.int .i64 ls.length), .is (.agg #[.int .i64 z, .int .i64 ls.length]), .is (.int .i64 k), .is (.pointer (some ⟨b, 0, none⟩)), .is (.pointer (some ⟨b, 1, none⟩))] := trivial
  refine wpFrom_any 11 _ hB (by kernel_rfl) rfl hst (by simp only [List.cons_append, List.nil_append, List.drop_succ_cons, List.drop_zero, List.take_succ_cons, List.take_zero, Nat.reduceSub]; rfl) ?_
  refine ⟨fun vs W hI hV => .inl ⟨by clear hI hV hst; go_simp, .inl (by clear hI hV hst; (try simp only [Act.put, hval, hval2, List.setIfInBounds_toArray, List.set_cons_zero, List.set_cons_succ]); go_simp)⟩, ?_⟩
  refine ⟨fun vs W hI hV => .inl ⟨by clear hI hV hst; go_simp, .inl (by clear hI hV hst; (try simp only [Act.put, hval, hval2, List.setIfInBounds_toArray, List.set_cons_zero, List.set_cons_succ]); go_simp)⟩, ?_⟩
  refine ⟨fun vs W hI hV => .inl ⟨by clear hI hV hst; go_simp, .inl (by clear hI hV hst; (try simp only [Act.put, hval, hval2, List.setIfInBounds_toArray, List.set_cons_zero, List.set_cons_succ]); go_simp)⟩, ?_⟩
  refine ⟨fun vs W hI hV => .inl ⟨by clear hI hV hst; go_simp, .inl (by clear hI hV hst; (try simp only [Act.put, hval, hval2, List.setIfInBounds_toArray, List.set_cons_zero, List.set_cons_succ]); go_simp)⟩, ?_⟩
  refine ⟨fun vs W hI hV => .inl ⟨by clear hI hV hst; go_simp, .inl (by have q := (D4.out.sees hI).c; obtain ⟨q0, q1⟩ := q; clear hI hV hst; (try simp only [Act.put, hval, hval2, List.setIfInBounds_toArray, List.set_cons_zero, List.set_cons_succ]); go_simp)⟩, ?_⟩
  refine ⟨fun vs W hI hV => .inl ⟨by clear hI hV hst; go_simp, .inl (by clear hI hV hst; (try simp only [Act.put, hval, hval2, List.setIfInBounds_toArray, List.set_cons_zero, List.set_cons_succ]); go_simp)⟩, ?_⟩
  refine ⟨fun vs W hI hV => .inl ⟨by clear hI hV hst; (try simp only [Act.put, hval, hval2, List.setIfInBounds_toArray, List.set_cons_zero, List.set_cons_succ]); go_simp, .inr (.inr ⟨24, #[.pointer (some ⟨g, 0, none⟩)], by clear hI hV hst; (try simp only [Act.put, hval, hval2, List.setIfInBounds_toArray, List.set_cons_zero, List.set_cons_succ]); go_simp, (H4.out.sees hI).hiLen _ rfl⟩)⟩, ?_⟩
  refine ⟨fun vs W hI hV => .inl ⟨by clear hI hV hst; go_simp, .inl (by clear hI hV hst; (try simp only [Act.put, hval, hval2, List.setIfInBounds_toArray, List.set_cons_zero, List.set_cons_succ]); go_simp)⟩, ?_⟩
  refine ⟨fun vs W hI hV => .inl ⟨by clear hI hV hst; (try simp only [Act.put, hval, hval2, List.setIfInBounds_toArray, List.set_cons_zero, List.set_cons_succ]); go_simp, .inr (.inr ⟨69, #[.agg #[.int .i64 z, .int .i64 ls.length]], by clear hI hV hst; (try simp only [Act.put, hval, hval2, List.setIfInBounds_toArray, List.set_cons_zero, List.set_cons_succ]); go_simp, vclamped _ _ _ W (by omega) Hk.out⟩)⟩, ?_⟩
  refine ⟨fun vs W hI hV => .inl ⟨by clear hI hV hst; go_simp, .inl (by clear hI hV hst; (try simp only [Act.put, hval, hval2, List.setIfInBounds_toArray, List.set_cons_zero, List.set_cons_succ]); go_simp)⟩, ?_⟩
  refine ⟨fun vs W hI hV => .inl ⟨by clear hI hV hst; go_simp, .inl (by clear hI hV hst; (try simp only [Act.put, hval, hval2, List.setIfInBounds_toArray, List.set_cons_zero, List.set_cons_succ]); go_simp)⟩, ?_⟩
  intro vs w5 hI hV
  have K5 := Lib.hid (K4.out.trans (Keeps.of_sees hI))
  have D5 := Lib.hid (D4.out.sees hI)
  clear hI hV hst D4 H4
  obtain ⟨q0, q1⟩ := D5.out.c
  have fr := D5.out.fr
  (try simp only [Act.put, hval, hval2, List.setIfInBounds_toArray, List.set_cons_zero, List.set_cons_succ])
  go_simp
  refine wpFrom_to 12 hB (fun _ _ _ _ _ h => h) (by kernel_rfl) (by simp only [List.cons_append, List.nil_append, List.drop_succ_cons, List.drop_zero, List.take_succ_cons, List.take_zero, Nat.reduceSub]; rfl) ?_
  go_wp2_with fail
  refine wpFrom_end rfl ?_
  clear hB
  go_wp2
  go_ret
  exact ⟨by simp, D5.out.set1 k, K5.out.setCell (p := ⟨b, 1, none⟩) (fun _ => rfl) _⟩
end Go.Proofs.YtpicffaghoggdaaDoor

namespace Go.Proofs.YtpicffaghoggdaaDoor
set_option linter.unusedVariables false
set_option linter.unusedSimpArgs false
open Go.RowKit

set_option maxRecDepth 100000 in
set_option maxHeartbeats 4000000 in
theorem vresize_at {w1 W : World} {F : Nat → Prop} {g : Nat} {most first : Int} {ls : List Ln} (hh : HiF w1 F W g most first ls) (b : Nat) (rows back n k : Int) (hb : VwAt W b rows back) (h0 : rows ≠ 0) (hn1 : 1 ≤ n) (hn2 : n ≤ 1000) (hk : clampV back ls.length = k) :
    Calls Tryd.prog 47 #[.pointer (some ⟨b, 0, none⟩), .int .i64 n, .pointer (some ⟨g, 0, none⟩)] W fun e w' => e = .returned (.int .i64 0) ∧ VwAt w' b n k ∧ Keeps (fun c => c = b) W w' := by
  have H := Lib.hid hh
  have d1 : decide (n < 1) = false := decide_eq_false (by omega)
  have d2 : decide (n > 1000) = false := decide_eq_false (by omega)
  have Hk := Lib.hid hk
  clear hh hk hn1 hn2
  go_enter Tryd.func47, Tryd.ntmps47
  go_wp2_with fail
  refine (vzero_at W b rows back hb h0).mono ?_
  rintro e w2 ⟨rfl, s2⟩
  go_wp2_with fail
  refine (vnothing_at (H.out.sees s2)).mono ?_
  rintro e w3 ⟨rfl, s3⟩
  go_wp2_with fail
  refine wpFrom_go (by kernel_rfl) (by kernel_rfl) (fun hB w4 hs4 => ?_)
  have S4 := Lib.hid ((s2.trans s3).trans hs4)
  have D4 := Lib.hid (hb.sees S4.out)
  clear hs4 s2 s3 hb
  refine wpFrom_S 17 (by rfl) ?_
  refine wpS_take (i := 0) (v := .pointer (some ⟨b, 0, none⟩)) hB (by rfl) (by kernel_rfl) (fun _ _ _ _ _ h => h) (wanted_none (by rfl) _) (fun W => by go_simp) ?_; (try simp only [Act.put, List.setIfInBounds_toArray, List.set_cons_zero, List.set_cons_succ])
  refine wpS_take (i := 1) (v := .pointer (some ⟨b, 0, none⟩)) hB (by rfl) (by kernel_rfl) (fun _ _ _ _ _ h => h) (wanted_none (by rfl) _) (fun W => by go_simp) ?_; (try simp only [Act.put, List.setIfInBounds_toArray, List.set_cons_zero, List.set_cons_succ])
  refine wpS_take (i := 2) (v := .int .i64 n) hB (by rfl) (by kernel_rfl) (fun _ _ _ _ _ h => h) (wanted_none (by rfl) _) (fun W => by go_simp) ?_; (try simp only [Act.put, List.setIfInBounds_toArray, List.set_cons_zero, List.set_cons_succ])
  refine wpS_take (i := 3) (v := .pointer (some ⟨b, 0, none⟩)) hB (by rfl) (by kernel_rfl) (fun _ _ _ _ _ h => h) (wanted_none (by rfl) _) (fun W => by go_simp) ?_; (try simp only [Act.put, List.setIfInBounds_toArray, List.set_cons_zero, List.set_cons_succ])
  refine wpS_take (i := 4) (v := .pointer (some ⟨b, 0, none⟩)) hB (by rfl) (by kernel_rfl) (fun _ _ _ _ _ h => h) (wanted_none (by rfl) _) (fun W => by go_simp) ?_; (try simp only [Act.put, List.setIfInBounds_toArray, List.set_cons_zero, List.set_cons_succ])
  refine wpS_take (i := 5) (v := .pointer (some ⟨b, 1, none⟩)) hB (by rfl) (by kernel_rfl) (fun _ _ _ _ _ h => h) (wanted_none (by rfl) _) (fun W => by go_simp) ?_; (try simp only [Act.put, List.setIfInBounds_toArray, List.set_cons_zero, List.set_cons_succ])
  refine wpS_take (i := 7) (v := .pointer (some ⟨g, 0, none⟩)) hB (by rfl) (by kernel_rfl) (fun _ _ _ _ _ h => h) (wanted_none (by rfl) _) (fun W => by go_simp) ?_; (try simp only [Act.put, List.setIfInBounds_toArray, List.set_cons_zero, List.set_cons_succ])
  refine wpS_two (i := 6) (j := 8) (by kernel_rfl) ?_ ?_
  · obtain ⟨q0, q1⟩ := D4.out.c
    refine wpOp_val (v := .int .i64 back) (w' := w4) (by rfl) (wanted_none (by rfl) _) (by go_simp) ?_
    clear q0 q1
    (try simp only [Act.put, List.setIfInBounds_toArray, List.set_cons_zero, List.set_cons_succ])
    refine wpS_only (i := 8) (by kernel_rfl) ?_
    refine wpOp_enter (fn := 24) (args := #[.pointer (some ⟨g, 0, none⟩)]) (by rfl) (by rfl) (by go_simp) (((H.out.sees S4.out).hiLen _ rfl).mono ?_)
    rintro e w5 ⟨rfl, hs5⟩
    have S5 := Lib.hid (S4.out.trans hs5)
    have D5 := Lib.hid (D4.out.sees hs5)
    clear hs5
    refine ⟨_, rfl, ?_⟩
    (try simp only [Act.put, List.setIfInBounds_toArray, List.set_cons_zero, List.set_cons_succ])
    refine wpS_only (i := 9) (by kernel_rfl) (wpOp_val (v := .agg #[.int .i64 back, .int .i64 ls.length]) (w' := w5) (by rfl) (wanted_none (by rfl) _) (by go_simp) ?_)
    (try simp only [Act.put, List.setIfInBounds_toArray, List.set_cons_zero, List.set_cons_succ])
    refine wpS_only (i := 10) (by kernel_rfl) (wpOp_enter (fn := 69) (args := #[.agg #[.int .i64 back, .int .i64 ls.length]]) (by rfl) (by rfl) (by go_simp) ((vclamped _ _ _ w5 (by omega) Hk.out).mono ?_))
    rintro e w6 ⟨rfl, hs6⟩
    have S6 := Lib.hid (S5.out.trans hs6)
    have D6 := Lib.hid (D5.out.sees hs6)
    clear hs6
    refine ⟨_, rfl, ?_⟩
    (try simp only [Act.put, List.setIfInBounds_toArray, List.set_cons_zero, List.set_cons_succ])
    obtain ⟨q0, q1⟩ := D6.out.c
    have fr := D6.out.fr
    refine wpS_take (i := 11) (v := .pointer (some ⟨b, 0, none⟩)) hB (by rfl) (by kernel_rfl) (fun _ _ _ _ _ h => h) (wanted_none (by rfl) _) (fun W => by go_simp) ?_; (try simp only [Act.put, List.setIfInBounds_toArray, List.set_cons_zero, List.set_cons_succ])
    refine wpS_take (i := 12) (v := .pointer (some ⟨b, 0, none⟩)) hB (by rfl) (by kernel_rfl) (fun _ _ _ _ _ h => h) (wanted_none (by rfl) _) (fun W => by go_simp) ?_; (try simp only [Act.put, List.setIfInBounds_toArray, List.set_cons_zero, List.set_cons_succ])
    refine wpS_only (i := 13) (by kernel_rfl) (wpOp_skip (w' := w6.setCell ⟨b, 0, none⟩ (.int .i64 n)) (by rfl) (wanted_none (by rfl) _) (by go_simp) ?_)
    have E6 := D6.out.set0 n
    obtain ⟨q0, q1⟩ := E6.c
    have fr := E6.fr
    refine wpS_take (i := 14) (v := .pointer (some ⟨b, 0, none⟩)) hB (by rfl) (by kernel_rfl) (fun _ _ _ _ _ h => h) (wanted_none (by rfl) _) (fun W => by go_simp) ?_; (try simp only [Act.put, List.setIfInBounds_toArray, List.set_cons_zero, List.set_cons_succ])
    refine wpS_take (i := 15) (v := .pointer (some ⟨b, 1, none⟩)) hB (by rfl) (by kernel_rfl) (fun _ _ _ _ _ h => h) (wanted_none (by rfl) _) (fun W => by go_simp) ?_; (try simp only [Act.put, List.setIfInBounds_toArray, List.set_cons_zero, List.set_cons_succ])
    refine wpS_only (i := 16) (by kernel_rfl) (wpOp_skip (w' := (w6.setCell ⟨b, 0, none⟩ (.int .i64 n)).setCell ⟨b, 1, none⟩ (.int .i64 k)) (by rfl) (wanted_none (by rfl) _) (by go_simp) ?_)
    refine wpS_end (by kernel_rfl) ?_
    go_wp2
    go_ret
    exact ⟨by simp, (D6.out.set0 n).set1 k, ((Keeps.of_sees (F := fun c => c = b) S6.out).setCell (p := ⟨b, 0, none⟩) (fun _ => rfl) _).setCell (p := ⟨b, 1, none⟩) (fun _ => rfl) _⟩
  · refine wpOp_enter (fn := 24) (args := #[.pointer (some ⟨g, 0, none⟩)]) (by rfl) (by rfl) (by go_simp) (((H.out.sees S4.out).hiLen _ rfl).mono ?_)
    rintro e w5 ⟨rfl, hs5⟩
    have S5 := Lib.hid (S4.out.trans hs5)
    have D5 := Lib.hid (D4.out.sees hs5)
    clear hs5
    refine ⟨_, rfl, ?_⟩
    (try simp only [Act.put, List.setIfInBounds_toArray, List.set_cons_zero, List.set_cons_succ])
    refine wpS_only (i := 6) (by kernel_rfl) ?_
    obtain ⟨q0, q1⟩ := D5.out.c
    refine wpOp_val (v := .int .i64 back) (w' := w5) (by rfl) (wanted_none (by rfl) _) (by go_simp) ?_
    clear q0 q1
    (try simp only [Act.put, List.setIfInBounds_toArray, List.set_cons_zero, List.set_cons_succ])
    refine wpS_only (i := 9) (by kernel_rfl) (wpOp_val (v := .agg #[.int .i64 back, .int .i64 ls.length]) (w' := w5) (by rfl) (wanted_none (by rfl) _) (by go_simp) ?_)
    (try simp only [Act.put, List.setIfInBounds_toArray, List.set_cons_zero, List.set_cons_succ])
    refine wpS_only (i := 10) (by kernel_rfl) (wpOp_enter (fn := 69) (args := #[.agg #[.int .i64 back, .int .i64 ls.length]]) (by rfl) (by rfl) (by go_simp) ((vclamped _ _ _ w5 (by omega) Hk.out).mono ?_))
    rintro e w6 ⟨rfl, hs6⟩
    have S6 := Lib.hid (S5.out.trans hs6)
    have D6 := Lib.hid (D5.out.sees hs6)
    clear hs6
    refine ⟨_, rfl, ?_⟩
    (try simp only [Act.put, List.setIfInBounds_toArray, List.set_cons_zero, List.set_cons_succ])
    obtain ⟨q0, q1⟩ := D6.out.c
    have fr := D6.out.fr
    refine wpS_take (i := 11) (v := .pointer (some ⟨b, 0, none⟩)) hB (by rfl) (by kernel_rfl) (fun _ _ _ _ _ h => h) (wanted_none (by rfl) _) (fun W => by go_simp) ?_; (try simp only [Act.put, List.setIfInBounds_toArray, List.set_cons_zero, List.set_cons_succ])
    refine wpS_take (i := 12) (v := .pointer (some ⟨b, 0, none⟩)) hB (by rfl) (by kernel_rfl) (fun _ _ _ _ _ h => h) (wanted_none (by rfl) _) (fun W => by go_simp) ?_; (try simp only [Act.put, List.setIfInBounds_toArray, List.set_cons_zero, List.set_cons_succ])
    refine wpS_only (i := 13) (by kernel_rfl) (wpOp_skip (w' := w6.setCell ⟨b, 0, none⟩ (.int .i64 n)) (by rfl) (wanted_none (by rfl) _) (by go_simp) ?_)
    have E6 := D6.out.set0 n
    obtain ⟨q0, q1⟩ := E6.c
    have fr := E6.fr
    refine wpS_take (i := 14) (v := .pointer (some ⟨b, 0, none⟩)) hB (by rfl) (by kernel_rfl) (fun _ _ _ _ _ h => h) (wanted_none (by rfl) _) (fun W => by go_simp) ?_; (try simp only [Act.put, List.setIfInBounds_toArray, List.set_cons_zero, List.set_cons_succ])
    refine wpS_take (i := 15) (v := .pointer (some ⟨b, 1, none⟩)) hB (by rfl) (by kernel_rfl) (fun _ _ _ _ _ h => h) (wanted_none (by rfl) _) (fun W => by go_simp) ?_; (try simp only [Act.put, List.setIfInBounds_toArray, List.set_cons_zero, List.set_cons_succ])
    refine wpS_only (i := 16) (by kernel_rfl) (wpOp_skip (w' := (w6.setCell ⟨b, 0, none⟩ (.int .i64 n)).setCell ⟨b, 1, none⟩ (.int .i64 k)) (by rfl) (wanted_none (by rfl) _) (by go_simp) ?_)
    refine wpS_end (by kernel_rfl) ?_
    go_wp2
    go_ret
    exact ⟨by simp, (D6.out.set0 n).set1 k, ((Keeps.of_sees (F := fun c => c = b) S6.out).setCell (p := ⟨b, 0, none⟩) (fun _ => rfl) _).setCell (p := ⟨b, 1, none⟩) (fun _ => rfl) _⟩
end Go.Proofs.YtpicffaghoggdaaDoor
