/- Pens and colors: what the program's and the reference's tests of them answer. No condition. -/
import Derived.Test.YthcndmchlpohpaaGreatDoorBase
import Derived.ChangeKeysEq
namespace Go.Proofs.YthcndmchlpohpaaGreatDoor
set_option linter.unusedVariables false
set_option linter.unusedSimpArgs false
open Go.RowKit

def eq3 (a0 a1 a2 b0 b1 b2 : Int) : Bool := a0 == b0 && a1 == b1 && a2 == b2
def eq5 (a0 a1 a2 a3 a4 b0 b1 b2 b3 b4 : Int) : Bool := a0 == b0 && a1 == b1 && a2 == b2 && a3 == b3 && a4 == b4
def eq11 (a0 a1 a2 a3 a4 a5 a6 a7 a8 a9 a10 b0 b1 b2 b3 b4 b5 b6 b7 b8 b9 b10 : Int) : Bool := eq5 a0 a1 a2 a3 a4 b0 b1 b2 b3 b4 && eq5 a5 a6 a7 a8 a9 b5 b6 b7 b8 b9 && a10 == b10
def eq16 (a0 a1 a2 a3 a4 a5 a6 a7 a8 a9 a10 a11 a12 a13 a14 a15 b0 b1 b2 b3 b4 b5 b6 b7 b8 b9 b10 b11 b12 b13 b14 b15 : Int) : Bool :=
  a0 == b0 && eq3 a1 a2 a3 b1 b2 b3 && a4 == b4 && eq11 a5 a6 a7 a8 a9 a10 a11 a12 a13 a14 a15 b5 b6 b7 b8 b9 b10 b11 b12 b13 b14 b15

theorem ite_ok {α : Type} {c : Prop} [Decidable c] {x y : Bool} {W : World} {f : Bool → α} : (if c then Result.ok (f x) W else Result.ok (f y) W) = Result.ok (f (if c then x else y)) W := by split <;> rfl
theorem ite_ok0 {c : Prop} [Decidable c] {x y : Bool} {W : World} : (if c then Result.ok x W else Result.ok y W) = Result.ok (if c then x else y) W := by split <;> rfl
theorem eq_arm (a b : Int) (r : Bool) : (if a = b then r else false) = (a == b && r) := by by_cases h : a = b <;> simp [h]

theorem eqlColor (a0 a1 a2 a3 a4 b0 b1 b2 b3 b4 : Int) (W : World) :
   (binOp .eql 37 (.agg #[.int .i64 a0, .int .u8 a1, .int .u8 a2, .int .u8 a3, .int .u8 a4]) (.agg #[.int .i64 b0, .int .u8 b1, .int .u8 b2, .int .u8 b3, .int .u8 b4])).run Tryz.prog W
    = .ok (.bool (eq5 a0 a1 a2 a3 a4 b0 b1 b2 b3 b4)) W := by
  unfold eq5
  go_simp
  simp only [ite_ok (f := Value.bool), Result.ok.injEq, Value.bool.injEq, and_true, eq_arm]
  by_cases h : a4 = b4 <;> simp [h, Bool.and_assoc]

theorem equalMarks (d : Nat) (a0 a1 a2 b0 b1 b2 : Int) (W : World) :
   (Op.equalIn (d + 2) 34 (.agg #[.int .i32 a0, .int .i32 a1, .int .i32 a2]) (.agg #[.int .i32 b0, .int .i32 b1, .int .i32 b2])).run Tryz.prog W = .ok (eq3 a0 a1 a2 b0 b1 b2) W := by
  have hr : List.range 3 = [0, 1, 2] := rfl
  obtain ⟨i, hi, _⟩ := info_parts (show (Tryz.prog.info? 21).map (fun i => (i.zero, i.size, i.bytes)) = some (some (.int .i32 0), 1, 4) by kernel_rfl)
  rw [run_equalIn_array W (d + 1) _ _ Tryz.underlying34 hi, hr]
  unfold eq3
  have hc : Tryz.prog.cellsOf 21 = 1 := by kernel_rfl
  simp only [Op.eqItems, hc]
  go_simp
  simp only [ite_ok0, Result.ok.injEq, and_true, eq_arm]
  by_cases h : a2 = b2 <;> simp [h, Bool.and_assoc]
theorem eqlMarks (a0 a1 a2 b0 b1 b2 : Int) (W : World) :
   (binOp .eql 34 (.agg #[.int .i32 a0, .int .i32 a1, .int .i32 a2]) (.agg #[.int .i32 b0, .int .i32 b1, .int .i32 b2])).run Tryz.prog W
    = .ok (.bool (eq3 a0 a1 a2 b0 b1 b2)) W := by
  have h := equalMarks 9998 a0 a1 a2 b0 b1 b2
  go_simp

theorem eqlPen (a0 a1 a2 a3 a4 a5 a6 a7 a8 a9 a10 b0 b1 b2 b3 b4 b5 b6 b7 b8 b9 b10 : Int) (W : World) :
   (binOp .eql 40 (.agg #[.int .i64 a0, .int .u8 a1, .int .u8 a2, .int .u8 a3, .int .u8 a4, .int .i64 a5, .int .u8 a6, .int .u8 a7, .int .u8 a8, .int .u8 a9, .int .u8 a10])
      (.agg #[.int .i64 b0, .int .u8 b1, .int .u8 b2, .int .u8 b3, .int .u8 b4, .int .i64 b5, .int .u8 b6, .int .u8 b7, .int .u8 b8, .int .u8 b9, .int .u8 b10])).run Tryz.prog W
    = .ok (.bool (eq11 a0 a1 a2 a3 a4 a5 a6 a7 a8 a9 a10 b0 b1 b2 b3 b4 b5 b6 b7 b8 b9 b10)) W := by
  unfold eq11 eq5
  go_simp
  simp only [ite_ok (f := Value.bool), Result.ok.injEq, Value.bool.injEq, and_true, eq_arm]
  simp [Bool.and_assoc]
theorem eqlCell (a0 a1 a2 a3 a4 a5 a6 a7 a8 a9 a10 a11 a12 a13 a14 a15 b0 b1 b2 b3 b4 b5 b6 b7 b8 b9 b10 b11 b12 b13 b14 b15 : Int) (W : World) :
   (binOp .eql 42 (.agg #[.int .i32 a0, .int .i32 a1, .int .i32 a2, .int .i32 a3, .int .i64 a4, .int .i64 a5, .int .u8 a6, .int .u8 a7, .int .u8 a8, .int .u8 a9, .int .i64 a10, .int .u8 a11, .int .u8 a12, .int .u8 a13, .int .u8 a14, .int .u8 a15])
      (.agg #[.int .i32 b0, .int .i32 b1, .int .i32 b2, .int .i32 b3, .int .i64 b4, .int .i64 b5, .int .u8 b6, .int .u8 b7, .int .u8 b8, .int .u8 b9, .int .i64 b10, .int .u8 b11, .int .u8 b12, .int .u8 b13, .int .u8 b14, .int .u8 b15])).run Tryz.prog W
    = .ok (.bool (eq16 a0 a1 a2 a3 a4 a5 a6 a7 a8 a9 a10 a11 a12 a13 a14 a15 b0 b1 b2 b3 b4 b5 b6 b7 b8 b9 b10 b11 b12 b13 b14 b15)) W := by
  have hm := fun d => equalMarks d a1 a2 a3 b1 b2 b3
  unfold eq16 eq11 eq5
  go_simp
  simp only [ite_ok (f := Value.bool), Result.ok.injEq, Value.bool.injEq, and_true, eq_arm]
  cases eq3 a1 a2 a3 b1 b2 b3 <;> simp [Bool.and_assoc]
theorem eq5_iff {a0 a1 a2 a3 a4 b0 b1 b2 b3 b4 : Int} : eq5 a0 a1 a2 a3 a4 b0 b1 b2 b3 b4 = true ↔ a0 = b0 ∧ a1 = b1 ∧ a2 = b2 ∧ a3 = b3 ∧ a4 = b4 := by
  simp [eq5, and_assoc]
theorem eq3_iff {a0 a1 a2 b0 b1 b2 : Int} : eq3 a0 a1 a2 b0 b1 b2 = true ↔ a0 = b0 ∧ a1 = b1 ∧ a2 = b2 := by
  simp [eq3, and_assoc]

/-- What 'ValidColor' answers of a color's five parts. -/
def vColor (k i r g b : Int) : Bool :=
  if k = 0 then eq5 k i r g b 0 0 0 0 0 else if k = 1 then eq5 k i r g b 1 i 0 0 0 else if k = 2 then eq5 k i r g b 2 0 r g b else false

set_option maxHeartbeats 400000 in
theorem index_any (i : Int) (w : World) :
    Calls Tryz.prog 42 #[.int .u8 i] w fun e w' => e = .returned (.agg #[.int .i64 1, .int .u8 i, .int .u8 0, .int .u8 0, .int .u8 0]) ∧ Sees w w' := by
  go_enter Tryz.func42, Tryz.ntmps42
  go_wp2
  exact bodyPost_ret (v := .agg #[.int .i64 1, .int .u8 i, .int .u8 0, .int .u8 0, .int .u8 0]) (by simp [results, Tryz.results42, go_sem]) rfl ⟨rfl, (Sees.refl _).alloc _⟩
set_option maxHeartbeats 400000 in
theorem true_any (r g b : Int) (w : World) :
    Calls Tryz.prog 43 #[.int .u8 r, .int .u8 g, .int .u8 b] w fun e w' => e = .returned (.agg #[.int .i64 2, .int .u8 0, .int .u8 r, .int .u8 g, .int .u8 b]) ∧ Sees w w' := by
  go_enter Tryz.func43, Tryz.ntmps43
  go_wp2
  exact bodyPost_ret (v := .agg #[.int .i64 2, .int .u8 0, .int .u8 r, .int .u8 g, .int .u8 b]) (by simp [results, Tryz.results43, go_sem]) rfl ⟨rfl, (Sees.refl _).alloc _⟩

set_option maxHeartbeats 400000 in
theorem validColor_any (k i r g b : Int) (w : World) :
    Calls Tryz.prog 28 #[.agg #[.int .i64 k, .int .u8 i, .int .u8 r, .int .u8 g, .int .u8 b]] w fun e w' => e = .returned (.bool (vColor k i r g b)) ∧ Sees w w' := by
  unfold vColor
  have hq := eqlColor
  by_cases h0 : k = 0
  · subst h0
    go_enter Tryz.func28, Tryz.ntmps28
    go_wp2
    go_ret
    exact ⟨by simp, (Sees.refl _).alloc _⟩
  by_cases h1 : k = 1
  · subst h1
    go_enter Tryz.func28, Tryz.ntmps28
    go_wp2
    refine wp_region_sees (by kernel_rfl) (by kernel_rfl) ?_
    repeat (first | (refine wpQuiet_val (fun K hK => ⟨?_, ?_⟩); (focus (go_simp; done)); apply Exists.intro; refine ⟨fun W hW => ?_, ?_⟩; (focus (have hc := hW.cells;  go_simp; first | done | rfl)); go_simp; refine hK _ ?_; clear hK K) | (refine wpQuiet_off (fun K hK => ⟨?_, ?_⟩); (focus (go_simp; done)); go_simp; refine hK _ ?_; clear hK K))
    refine wpQuiet_enter 42 #[.int .u8 i] (fun K hK => ⟨?_, fun W hW => ?_, ?_⟩); (focus (go_simp; done)); (focus (have hc := hW.cells;  go_simp; done)); apply Exists.intro; refine ⟨fun W hW => (index_any _ _).mono fun e w'' ⟨he, hb⟩ => ⟨he, hW.trans hb⟩, ?_⟩; go_simp; refine hK _ ?_; clear hK K
    repeat (first | (refine wpQuiet_val (fun K hK => ⟨?_, ?_⟩); (focus (go_simp; done)); apply Exists.intro; refine ⟨fun W hW => ?_, ?_⟩; (focus (have hc := hW.cells;  go_simp; first | done | rfl)); go_simp; refine hK _ ?_; clear hK K) | (refine wpQuiet_off (fun K hK => ⟨?_, ?_⟩); (focus (go_simp; done)); go_simp; refine hK _ ?_; clear hK K))
    refine wpQuiet_nil ?_; intro w2 hw2
    go_wp2
    go_ret
    exact ⟨by simp, ((Sees.refl _).alloc _).trans hw2⟩
  by_cases h2 : k = 2
  · subst h2
    go_enter Tryz.func28, Tryz.ntmps28
    go_wp2
    refine wp_region_sees (by kernel_rfl) (by kernel_rfl) ?_
    repeat (first | (refine wpQuiet_val (fun K hK => ⟨?_, ?_⟩); (focus (go_simp; done)); apply Exists.intro; refine ⟨fun W hW => ?_, ?_⟩; (focus (have hc := hW.cells;  go_simp; first | done | rfl)); go_simp; refine hK _ ?_; clear hK K) | (refine wpQuiet_off (fun K hK => ⟨?_, ?_⟩); (focus (go_simp; done)); go_simp; refine hK _ ?_; clear hK K))
    refine wpQuiet_enter 43 #[.int .u8 r, .int .u8 g, .int .u8 b] (fun K hK => ⟨?_, fun W hW => ?_, ?_⟩); (focus (go_simp; done)); (focus (have hc := hW.cells;  go_simp; done)); apply Exists.intro; refine ⟨fun W hW => (true_any _ _ _ _).mono fun e w'' ⟨he, hb⟩ => ⟨he, hW.trans hb⟩, ?_⟩; go_simp; refine hK _ ?_; clear hK K
    repeat (first | (refine wpQuiet_val (fun K hK => ⟨?_, ?_⟩); (focus (go_simp; done)); apply Exists.intro; refine ⟨fun W hW => ?_, ?_⟩; (focus (have hc := hW.cells;  go_simp; first | done | rfl)); go_simp; refine hK _ ?_; clear hK K) | (refine wpQuiet_off (fun K hK => ⟨?_, ?_⟩); (focus (go_simp; done)); go_simp; refine hK _ ?_; clear hK K))
    refine wpQuiet_nil ?_; intro w2 hw2
    go_wp2
    go_ret
    exact ⟨by simp, ((Sees.refl _).alloc _).trans hw2⟩
  · go_enter Tryz.func28, Tryz.ntmps28
    go_wp2
    go_ret
    exact ⟨by simp [h0, h1, h2], (Sees.refl _).alloc _⟩

/-- What 'pen.Valid' answers of a pen's eleven parts. -/
def vPen (a0 a1 a2 a3 a4 a5 a6 a7 a8 a9 : Int) : Bool := vColor a0 a1 a2 a3 a4 && vColor a5 a6 a7 a8 a9

set_option maxHeartbeats 400000 in
theorem penValid_any (a0 a1 a2 a3 a4 a5 a6 a7 a8 a9 a10 : Int) (w : World) :
    Calls Tryz.prog 15 #[.agg #[.int .i64 a0, .int .u8 a1, .int .u8 a2, .int .u8 a3, .int .u8 a4, .int .i64 a5, .int .u8 a6, .int .u8 a7, .int .u8 a8, .int .u8 a9, .int .u8 a10]] w
      fun e w' => e = .returned (.bool (vPen a0 a1 a2 a3 a4 a5 a6 a7 a8 a9)) ∧ Sees w w' := by
  unfold vPen
  by_cases h : vColor a0 a1 a2 a3 a4 = true
  · have hv := validColor_any a0 a1 a2 a3 a4
    rw [h] at hv ⊢
    have H := Lib.hid hv; clear h hv
    go_enter Tryz.func15, Tryz.ntmps15
    go_wp2_with fail; refine (H.out _).mono ?_; rintro e w1 ⟨rfl, hs1⟩; have hcw1 := (hs1).cells
    go_wp2_with fail; refine (validColor_any _ _ _ _ _ _).mono ?_; rintro e w2 ⟨rfl, hs2⟩; have hcw2 := (hs2).cells
    go_wp2
    go_ret
    exact ⟨by simp, (((Sees.refl _).alloc _).trans hs1).trans hs2⟩
  · have hv := validColor_any a0 a1 a2 a3 a4
    rw [Bool.not_eq_true] at h
    rw [h] at hv ⊢
    have H := Lib.hid hv; clear h hv
    go_enter Tryz.func15, Tryz.ntmps15
    go_wp2_with fail; refine (H.out _).mono ?_; rintro e w1 ⟨rfl, hs1⟩; have hcw1 := (hs1).cells
    go_wp2
    go_ret
    exact ⟨by simp, (((Sees.refl _).alloc _).trans hs1)⟩
end Go.Proofs.YthcndmchlpohpaaGreatDoor
