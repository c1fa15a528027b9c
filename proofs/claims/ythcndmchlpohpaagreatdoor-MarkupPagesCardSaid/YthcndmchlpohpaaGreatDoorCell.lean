/- Cells: what the program's test of a cell answers. The tables hold what the program's text lays. -/
import Derived.Test.YthcndmchlpohpaaGreatDoorWidth
namespace Go.Proofs.YthcndmchlpohpaaGreatDoor
set_option linter.unusedVariables false
set_option linter.unusedSimpArgs false
open Go.RowKit

/-- A cell's sixteen parts. -/
structure Cell where
  (rune m0 m1 m2 width f0 f1 f2 f3 f4 b0 b1 b2 b3 b4 flags : Int)
  deriving DecidableEq

def Cell.vals (c : Cell) : List Value := [.int .i32 c.rune, .int .i32 c.m0, .int .i32 c.m1, .int .i32 c.m2, .int .i64 c.width, .int .i64 c.f0, .int .u8 c.f1, .int .u8 c.f2, .int .u8 c.f3, .int .u8 c.f4, .int .i64 c.b0, .int .u8 c.b1, .int .u8 c.b2, .int .u8 c.b3, .int .u8 c.b4, .int .u8 c.flags]
def Cell.val (c : Cell) : Value := .agg #[.int .i32 c.rune, .int .i32 c.m0, .int .i32 c.m1, .int .i32 c.m2, .int .i64 c.width, .int .i64 c.f0, .int .u8 c.f1, .int .u8 c.f2, .int .u8 c.f3, .int .u8 c.f4, .int .i64 c.b0, .int .u8 c.b1, .int .u8 c.b2, .int .u8 c.b3, .int .u8 c.b4, .int .u8 c.flags]

/-- One mark, and the one before it: what the loop's test asks. -/
def mkBad (i : Nat) (prev m : Int) : Bool := m != 0 && (wOf m != 0 || (decide (0 < i) && prev == 0))
def mkOk (m0 m1 m2 : Int) : Bool := !(mkBad 0 0 m0) && !(mkBad 1 m0 m1) && !(mkBad 2 m1 m2)
/-- What 'cell.Valid' answers. -/
def Cell.valid (c : Cell) : Bool :=
  vPen c.f0 c.f1 c.f2 c.f3 c.f4 c.b0 c.b1 c.b2 c.b3 c.b4 &&
  (if c.rune = 0 then (c.width == 0 || c.width == 1) && eq3 c.m0 c.m1 c.m2 0 0 0 else mkOk c.m0 c.m1 c.m2 && (decide (0 < c.width) && c.width == wOf c.rune))

set_option maxHeartbeats 400000 in
theorem cellValid_nopen (c : Cell) (w : World) (hp : vPen c.f0 c.f1 c.f2 c.f3 c.f4 c.b0 c.b1 c.b2 c.b3 c.b4 = false) :
    Calls Tryz.prog 36 #[c.val] w fun e w' => e = .returned (.bool c.valid) ∧ Sees w w' := by
  have Hf : Hid (c.valid = false) := by unfold Hid Cell.valid; rw [hp]; rfl
  have hv := penValid_any c.f0 c.f1 c.f2 c.f3 c.f4 c.b0 c.b1 c.b2 c.b3 c.b4 c.flags
  rw [hp] at hv
  have Hv := Lib.hid hv; clear hv hp
  unfold Cell.val
  go_enter Tryz.func36, Tryz.ntmps36
  go_wp2_with fail; refine (Hv.out _).mono ?_; rintro e w1 ⟨rfl, hs1⟩; have hcw1 := (hs1).cells
  go_wp2
  go_ret
  exact ⟨by rw [Hf.out]; rfl, ((Sees.refl _).alloc _).trans hs1⟩

set_option maxHeartbeats 400000 in
theorem cellValid_zero (c : Cell) (w : World) (hp : vPen c.f0 c.f1 c.f2 c.f3 c.f4 c.b0 c.b1 c.b2 c.b3 c.b4 = true) (h0 : c.rune = 0) :
    Calls Tryz.prog 36 #[c.val] w fun e w' => e = .returned (.bool c.valid) ∧ Sees w w' := by
  have Hf : c.valid = ((c.width == 0 || c.width == 1) && eq3 c.m0 c.m1 c.m2 0 0 0) := by unfold Cell.valid; rw [hp, if_pos h0]; rfl
  have hv := penValid_any c.f0 c.f1 c.f2 c.f3 c.f4 c.b0 c.b1 c.b2 c.b3 c.b4 c.flags
  rw [hp] at hv
  have Hv := Lib.hid hv; clear hv hp
  have hq := eqlMarks
  unfold Cell.val
  rw [h0]
  clear h0
  rcases (show c.width = 0 ∨ c.width = 1 ∨ ((c.width == 0) = false ∧ (c.width == 1) = false) by simp; omega) with h | h | ⟨h1, h2⟩
  · rw [h] at Hf ⊢
    replace Hf := Lib.hid Hf; clear h
    go_enter Tryz.func36, Tryz.ntmps36
    go_wp2_with fail; refine (Hv.out _).mono ?_; rintro e w1 ⟨rfl, hs1⟩; have hcw1 := (hs1).cells
    go_wp2
    go_ret
    exact ⟨by rw [Hf.out]; rfl, ((Sees.refl _).alloc _).trans hs1⟩
  · rw [h] at Hf ⊢
    replace Hf := Lib.hid Hf; clear h
    go_enter Tryz.func36, Tryz.ntmps36
    go_wp2_with fail; refine (Hv.out _).mono ?_; rintro e w1 ⟨rfl, hs1⟩; have hcw1 := (hs1).cells
    go_wp2
    go_ret
    exact ⟨by rw [Hf.out]; rfl, ((Sees.refl _).alloc _).trans hs1⟩
  · rw [h1, h2] at Hf
    replace Hf := Lib.hid Hf
    go_enter Tryz.func36, Tryz.ntmps36
    go_wp2_with fail; refine (Hv.out _).mono ?_; rintro e w1 ⟨rfl, hs1⟩; have hcw1 := (hs1).cells
    go_wp2
    go_ret
    exact ⟨by rw [Hf.out]; rfl, ((Sees.refl _).alloc _).trans hs1⟩

/-- The marks before the k-th are as they must be. -/
def marksTo (c : Cell) : Nat → Bool
  | 0 => true
  | 1 => !(mkBad 0 0 c.m0)
  | 2 => !(mkBad 0 0 c.m0) && !(mkBad 1 c.m0 c.m1)
  | _ => mkOk c.m0 c.m1 c.m2

theorem bad_zero {i : Nat} {p m : Int} (h : m = 0) : mkBad i p m = false := by simp [mkBad, h]
theorem bad_wide {i : Nat} {p m : Int} (h : m ≠ 0) (h2 : (wOf m != 0) = true) : mkBad i p m = true := by simp [mkBad, h]; left; simpa using h2
theorem bad_gap {i : Nat} {p m : Int} (h : m ≠ 0) (hi : 0 < i) (hp : p = 0) : mkBad i p m = true := by simp [mkBad, h, hi, hp]
theorem bad_not {i : Nat} {p m : Int} (h2 : (wOf m != 0) = false) (hp : i = 0 ∨ p ≠ 0) : mkBad i p m = false := by
  have : wOf m = 0 := by simpa using h2
  rcases hp with rfl | hp <;> simp [mkBad, this]
  intro _ _; exact hp

set_option maxRecDepth 100000 in
set_option maxHeartbeats 2000000 in
theorem cellValid_rune (c : Cell) (w : World) (ht : Tabs w) (hp : vPen c.f0 c.f1 c.f2 c.f3 c.f4 c.b0 c.b1 c.b2 c.b3 c.b4 = true) (h0 : c.rune ≠ 0) :
    Calls Tryz.prog 36 #[c.val] w fun e w' => e = .returned (.bool c.valid) ∧ Sees w w' := by
  have Hf : Hid (c.valid = (mkOk c.m0 c.m1 c.m2 && (decide (0 < c.width) && c.width == wOf c.rune))) := by unfold Hid Cell.valid; rw [hp, if_neg h0]; rfl
  have hv := penValid_any c.f0 c.f1 c.f2 c.f3 c.f4 c.b0 c.b1 c.b2 c.b3 c.b4 c.flags
  rw [hp] at hv
  have Hv := Lib.hid hv; clear hv hp
  have Ht := Lib.hid ht; clear ht
  have hr : (c.rune == 0) = false := by simpa using h0
  clear h0
  unfold Cell.val
  go_enter Tryz.func36, Tryz.ntmps36
  go_wp2_with fail; refine (Hv.out _).mono ?_; rintro e w1 ⟨rfl, hs1⟩; have hcw1 := (hs1).cells
  have hz : w.heap.size < w1.heap.size := by have := hs1.size; simp at this; omega
  have hbox : ∀ W, Sees w1 W → ∀ j, W.cell? ⟨w.heap.size, j, none⟩ = #[Value.int .i32 c.rune, .int .i32 c.m0, .int .i32 c.m1, .int .i32 c.m2, .int .i64 c.width, .int .i64 c.f0, .int .u8 c.f1, .int .u8 c.f2, .int .u8 c.f3, .int .u8 c.f4, .int .i64 c.b0, .int .u8 c.b1, .int .u8 c.b2, .int .u8 c.b3, .int .u8 c.b4, .int .u8 c.flags][j]? := by
    intro W hW j
    rw [hW.cells _ _ hz, hcw1 _ _ (by simp)]
    simp
  have hS1 : Sees w w1 := ((Sees.refl _).alloc _).trans hs1
  have Ht1 : Hid (Tabs w1) := Ht.out.sees hS1
  have HS1 := Lib.hid hS1
  clear hs1 hcw1 hS1
  have hw1 := Sees.refl w1
  have i0 : ∀ w, (Instr.index 34 (.agg #[.int .i32 c.m0, .int .i32 c.m1, .int .i32 c.m2]) (.int .i64 0)).run Tryz.prog w = .ok (.int .i32 c.m0) w := fun _ => by kernel_rfl
  have i1 : ∀ w, (Instr.index 34 (.agg #[.int .i32 c.m0, .int .i32 c.m1, .int .i32 c.m2]) (.int .i64 1)).run Tryz.prog w = .ok (.int .i32 c.m1) w := fun _ => by kernel_rfl
  have i2 : ∀ w, (Instr.index 34 (.agg #[.int .i32 c.m0, .int .i32 c.m1, .int .i32 c.m2]) (.int .i64 2)).run Tryz.prog w = .ok (.int .i32 c.m2) w := fun _ => by kernel_rfl
  go_wp2
  go_loopw [28] (fun i wr => ∃ k : Nat, k ≤ 3 ∧ i = .int .i64 k ∧ marksTo c k = true ∧ Sees w1 wr) (fun i _ => 3 - (intOf i).toNat)
  case atStart => exact ⟨0, by omega, rfl, rfl, Sees.refl _⟩
  case round =>
    obtain ⟨k, hk, rfl, hm, hS⟩ := hrel
    clear hw1
    have Hm := Lib.hid hm; clear hm
    have hz2 := hS.size
    rcases (show k = 0 ∨ k = 1 ∨ k = 2 ∨ k = 3 by omega) with rfl | rfl | rfl | rfl
    · by_cases e0 : c.m0 = 0
      · have hb : Hid (mkBad 0 0 c.m0 = false) := bad_zero e0
        have e1 : (c.m0 != 0) = false := by simpa using e0
        clear e0
        go_wp2
        go_roundw
        case rel => exact ⟨1, by omega, by go_num, (by simp [marksTo, hb.out]), hS⟩
        case measure => simp [intOf]
      have e1 : (c.m0 != 0) = true := by simpa using e0
      have hv := widthOf_any c.m0
      rcases (show (wOf c.m0 != 0) = true ∨ (wOf c.m0 != 0) = false by cases (wOf c.m0 != 0) <;> simp) with e2 | e2
      · have hb : Hid (mkBad 0 0 c.m0 = true) := bad_wide e0 e2
        generalize wOf c.m0 = wm at hv e2
        have Hv2 := Lib.hid hv; clear hv e0
        go_wp2_with fail; refine (Hv2.out _ (Ht1.out.sees hS)).mono ?_; rintro e w2 ⟨rfl, hs2⟩; have hcw2 := (hs2).cells
        go_wp2
        go_ret
        exact ⟨by rw [Hf.out, show mkOk c.m0 c.m1 c.m2 = false from (by simp [mkOk, hb.out])]; rfl, (HS1.out.trans hS).trans hs2⟩
      · have hb : Hid (mkBad 0 0 c.m0 = false) := bad_not e2 (.inl rfl)
        generalize wOf c.m0 = wm at hv e2
        have Hv2 := Lib.hid hv; clear hv e0
        go_wp2_with fail; refine (Hv2.out _ (Ht1.out.sees hS)).mono ?_; rintro e w2 ⟨rfl, hs2⟩; have hcw2 := (hs2).cells
        go_wp2
        go_roundw
        case rel => exact ⟨1, by omega, by go_num, (by simp [marksTo, hb.out]), hS.trans hs2⟩
        case measure => simp [intOf]
    · by_cases e0 : c.m1 = 0
      · have hb : Hid (mkBad 1 c.m0 c.m1 = false) := bad_zero e0
        have e1 : (c.m1 != 0) = false := by simpa using e0
        clear e0
        go_wp2
        go_roundw
        case rel => exact ⟨2, by omega, by go_num, (by have := Hm.out; simp [marksTo] at this ⊢; exact ⟨this, hb.out⟩), hS⟩
        case measure => simp [intOf]
      have e1 : (c.m1 != 0) = true := by simpa using e0
      have hv := widthOf_any c.m1
      rcases (show (wOf c.m1 != 0) = true ∨ (wOf c.m1 != 0) = false by cases (wOf c.m1 != 0) <;> simp) with e2 | e2
      · have hb : Hid (mkBad 1 c.m0 c.m1 = true) := bad_wide e0 e2
        generalize wOf c.m1 = wm at hv e2
        have Hv2 := Lib.hid hv; clear hv e0
        go_wp2_with fail; refine (Hv2.out _ (Ht1.out.sees hS)).mono ?_; rintro e w2 ⟨rfl, hs2⟩; have hcw2 := (hs2).cells
        go_wp2
        go_ret
        exact ⟨by rw [Hf.out, show mkOk c.m0 c.m1 c.m2 = false from (by simp [mkOk, hb.out])]; rfl, (HS1.out.trans hS).trans hs2⟩
      · by_cases e3 : c.m0 = 0
        · have hb : Hid (mkBad 1 c.m0 c.m1 = true) := bad_gap e0 (by omega) e3
          have e4 : (c.m0 == 0) = true := by simpa using e3
          generalize wOf c.m1 = wm at hv e2
          have Hv2 := Lib.hid hv; clear hv e0 e3
          go_wp2_with fail; refine (Hv2.out _ (Ht1.out.sees hS)).mono ?_; rintro e w2 ⟨rfl, hs2⟩; have hcw2 := (hs2).cells
          have hS2 := hS.trans hs2
          go_wp2
          go_ret
          exact ⟨by rw [Hf.out, show mkOk c.m0 c.m1 c.m2 = false from (by simp [mkOk, hb.out])]; rfl, (HS1.out.trans hS).trans hs2⟩
        · have hb : Hid (mkBad 1 c.m0 c.m1 = false) := bad_not e2 (.inr e3)
          have e4 : (c.m0 == 0) = false := by simpa using e3
          generalize wOf c.m1 = wm at hv e2
          have Hv2 := Lib.hid hv; clear hv e0 e3
          go_wp2_with fail; refine (Hv2.out _ (Ht1.out.sees hS)).mono ?_; rintro e w2 ⟨rfl, hs2⟩; have hcw2 := (hs2).cells
          have hS2 := hS.trans hs2
          go_wp2
          go_roundw
          case rel => exact ⟨2, by omega, by go_num, (by have := Hm.out; simp [marksTo] at this ⊢; exact ⟨this, hb.out⟩), hS.trans hs2⟩
          case measure => simp [intOf]
    · by_cases e0 : c.m2 = 0
      · have hb : Hid (mkBad 2 c.m1 c.m2 = false) := bad_zero e0
        have e1 : (c.m2 != 0) = false := by simpa using e0
        clear e0
        go_wp2
        go_roundw
        case rel => exact ⟨3, by omega, by go_num, (by have := Hm.out; simp [marksTo, mkOk] at this ⊢; exact ⟨⟨this.1, this.2⟩, hb.out⟩), hS⟩
        case measure => simp [intOf]
      have e1 : (c.m2 != 0) = true := by simpa using e0
      have hv := widthOf_any c.m2
      rcases (show (wOf c.m2 != 0) = true ∨ (wOf c.m2 != 0) = false by cases (wOf c.m2 != 0) <;> simp) with e2 | e2
      · have hb : Hid (mkBad 2 c.m1 c.m2 = true) := bad_wide e0 e2
        generalize wOf c.m2 = wm at hv e2
        have Hv2 := Lib.hid hv; clear hv e0
        go_wp2_with fail; refine (Hv2.out _ (Ht1.out.sees hS)).mono ?_; rintro e w2 ⟨rfl, hs2⟩; have hcw2 := (hs2).cells
        go_wp2
        go_ret
        exact ⟨by rw [Hf.out, show mkOk c.m0 c.m1 c.m2 = false from (by simp [mkOk, hb.out])]; rfl, (HS1.out.trans hS).trans hs2⟩
      · by_cases e3 : c.m1 = 0
        · have hb : Hid (mkBad 2 c.m1 c.m2 = true) := bad_gap e0 (by omega) e3
          have e4 : (c.m1 == 0) = true := by simpa using e3
          generalize wOf c.m2 = wm at hv e2
          have Hv2 := Lib.hid hv; clear hv e0 e3
          go_wp2_with fail; refine (Hv2.out _ (Ht1.out.sees hS)).mono ?_; rintro e w2 ⟨rfl, hs2⟩; have hcw2 := (hs2).cells
          have hS2 := hS.trans hs2
          go_wp2
          go_ret
          exact ⟨by rw [Hf.out, show mkOk c.m0 c.m1 c.m2 = false from (by simp [mkOk, hb.out])]; rfl, (HS1.out.trans hS).trans hs2⟩
        · have hb : Hid (mkBad 2 c.m1 c.m2 = false) := bad_not e2 (.inr e3)
          have e4 : (c.m1 == 0) = false := by simpa using e3
          generalize wOf c.m2 = wm at hv e2
          have Hv2 := Lib.hid hv; clear hv e0 e3
          go_wp2_with fail; refine (Hv2.out _ (Ht1.out.sees hS)).mono ?_; rintro e w2 ⟨rfl, hs2⟩; have hcw2 := (hs2).cells
          have hS2 := hS.trans hs2
          go_wp2
          go_roundw
          case rel => exact ⟨3, by omega, by go_num, (by have := Hm.out; simp [marksTo, mkOk] at this ⊢; exact ⟨⟨this.1, this.2⟩, hb.out⟩), hS.trans hs2⟩
          case measure => simp [intOf]
    · have hmk : mkOk c.m0 c.m1 c.m2 = true := by have := Hm.out; simpa [marksTo] using this
      have hf := Hf.out
      rw [hmk] at hf
      clear Hf hmk
      by_cases hw : 0 < c.width
      · have Hf : Hid (c.valid = (c.width == wOf c.rune)) := by unfold Hid; rw [hf]; simp [hw]
        have hwd : decide (0 < c.width) = true := by simpa using hw
        clear hf
        go_wp2
        refine wp_region_sees (by kernel_rfl) (by kernel_rfl) ?_
        repeat (first | (refine wpQuiet_val (fun K hK => ⟨?_, ?_⟩); (focus (go_simp; done)); apply Exists.intro; refine ⟨fun W hW => ?_, ?_⟩; (focus (have hc := hW.cells; have hSW := hS.trans hW; go_simp; first | done | rfl)); go_simp; refine hK _ ?_; clear hK K) | (refine wpQuiet_off (fun K hK => ⟨?_, ?_⟩); (focus (go_simp; done)); go_simp; refine hK _ ?_; clear hK K))
        refine wpQuiet_enter 57 #[.int .i32 c.rune] (fun K hK => ⟨?_, fun W hW => ?_, ?_⟩); (focus (go_simp; done)); (focus (have hc := hW.cells; have hSW := hS.trans hW; go_simp; done)); apply Exists.intro; refine ⟨fun W hW => (widthOf_any _ _ ((Ht1.out.sees hS).sees hW)).mono fun e w'' ⟨he, hb⟩ => ⟨he, hW.trans hb⟩, ?_⟩; go_simp; refine hK _ ?_; clear hK K
        repeat (first | (refine wpQuiet_val (fun K hK => ⟨?_, ?_⟩); (focus (go_simp; done)); apply Exists.intro; refine ⟨fun W hW => ?_, ?_⟩; (focus (have hc := hW.cells; have hSW := hS.trans hW; go_simp; first | done | rfl)); go_simp; refine hK _ ?_; clear hK K) | (refine wpQuiet_off (fun K hK => ⟨?_, ?_⟩); (focus (go_simp; done)); go_simp; refine hK _ ?_; clear hK K))
        refine wpQuiet_nil ?_; intro w2 hw2
        go_wp2
        go_ret
        exact ⟨by rw [Hf.out]; rfl, (HS1.out.trans hS).trans hw2⟩
      · have Hf : Hid (c.valid = false) := by unfold Hid; rw [hf]; simp [hw]
        have hwd : decide (0 < c.width) = false := by simpa using hw
        clear hf hw
        go_wp2
        refine wp_region_sees (by kernel_rfl) (by kernel_rfl) ?_
        repeat (first | (refine wpQuiet_val (fun K hK => ⟨?_, ?_⟩); (focus (go_simp; done)); apply Exists.intro; refine ⟨fun W hW => ?_, ?_⟩; (focus (have hc := hW.cells; have hSW := hS.trans hW; go_simp; first | done | rfl)); go_simp; refine hK _ ?_; clear hK K) | (refine wpQuiet_off (fun K hK => ⟨?_, ?_⟩); (focus (go_simp; done)); go_simp; refine hK _ ?_; clear hK K))
        refine wpQuiet_nil ?_; intro w2 hw2
        go_wp2
        go_ret
        exact ⟨by rw [Hf.out]; rfl, (HS1.out.trans hS).trans hw2⟩

theorem cellValid_any (c : Cell) (w : World) (ht : Tabs w) : Calls Tryz.prog 36 #[c.val] w fun e w' => e = .returned (.bool c.valid) ∧ Sees w w' := by
  rcases (show vPen c.f0 c.f1 c.f2 c.f3 c.f4 c.b0 c.b1 c.b2 c.b3 c.b4 = false ∨ vPen c.f0 c.f1 c.f2 c.f3 c.f4 c.b0 c.b1 c.b2 c.b3 c.b4 = true by cases vPen c.f0 c.f1 c.f2 c.f3 c.f4 c.b0 c.b1 c.b2 c.b3 c.b4 <;> simp) with hp | hp
  · exact cellValid_nopen c w hp
  by_cases h0 : c.rune = 0
  · exact cellValid_zero c w hp h0
  · exact cellValid_rune c w ht hp h0
end Go.Proofs.YthcndmchlpohpaaGreatDoor
