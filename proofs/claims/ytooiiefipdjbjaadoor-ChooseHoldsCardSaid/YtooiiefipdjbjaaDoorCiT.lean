/- What ChooseHolds rests on: the plain law of texts and of rows before (41). The tables hold what the program's text lays. -/
import Derived.Test.YtooiiefipdjbjaaDoorCiS
namespace Go.Proofs.YtooiiefipdjbjaaDoor
set_option linter.unusedVariables false
set_option linter.unusedSimpArgs false
open Go.RowKit Go.Shelf
attribute [local go_sem] Oper.semAt_some

theorem textL_swap (ls : List Ln) (kd : Int) (x y : Nat) : textL ls kd y x = textL ls kd x y := by
  have e1 : spP ls kd y x = spP ls kd x y := by
    funext k
    unfold spP spPc spF spT rawF rawT
    simp only [Nat.min_comm y x, Nat.max_comm y x, Nat.min_comm (y % cols ls) (x % cols ls), Nat.max_comm (y % cols ls) (x % cols ls)]
  have e2 : spO ls kd y x = spO ls kd x y := by
    funext k
    unfold spO
    simp only [Nat.min_comm y x]
  unfold textL
  rw [e1, e2, Nat.min_comm y x, Nat.max_comm y x]
theorem pcF_ext {p p' : Nat → List UInt8} {o o' : Nat → Bool} : ∀ m, (∀ k, k ≤ m → p k = p' k) → (∀ k, k ≤ m → o k = o' k) → pcF p o m = pcF p' o' m
  | 0, hp, _ => by unfold pcF; rw [hp 0 (Nat.le_refl _)]
  | m + 1, hp, ho => by
    unfold pcF
    rw [pcF_ext m (fun k hk => hp k (by omega)) (fun k hk => ho k (by omega)), hp (m + 1) (Nat.le_refl _), ho m (by omega)]
theorem text_of_spans {ls : List Ln} {first kd ke : Int} {x y x2 y2 : Nat} (hx : x < ls.length * cols ls) (hy : y < ls.length * cols ls) (hx2 : x2 < ls.length * cols ls) (hy2 : y2 < ls.length * cols ls) (h1 : kd ≠ 4) (h2 : ke ≠ 4) (h : spansL ls first kd x y = spansL ls first ke x2 y2) : textL ls kd x y = textL ls ke x2 y2 := by
  have a1 := (ch_rows (kd := kd) hx hy).2.2.2.2.1
  have a2 := (ch_rows (kd := ke) hx2 hy2).2.2.2.2.1
  have hl := congrArg List.length h
  rw [spansL_len, spansL_len] at hl
  obtain ⟨A, hA⟩ : ∃ A, A = chA ls kd (min x y) / cols ls := ⟨_, rfl⟩
  obtain ⟨B, hB⟩ : ∃ B, B = chB ls kd (max x y) / cols ls := ⟨_, rfl⟩
  obtain ⟨A2, hA2⟩ : ∃ A2, A2 = chA ls ke (min x2 y2) / cols ls := ⟨_, rfl⟩
  obtain ⟨B2, hB2⟩ : ∃ B2, B2 = chB ls ke (max x2 y2) / cols ls := ⟨_, rfl⟩
  have hat : ∀ k, k ≤ B - A → (⟨first + ((A + k : Nat) : Int), (spF ls kd (chA ls kd (min x y)) (A + k) (x % cols ls) (y % cols ls) : Nat), (spT ls kd (chB ls kd (max x y)) (A + k) (x % cols ls) (y % cols ls) : Nat)⟩ : Sn) = ⟨first + ((A2 + k : Nat) : Int), (spF ls ke (chA ls ke (min x2 y2)) (A2 + k) (x2 % cols ls) (y2 % cols ls) : Nat), (spT ls ke (chB ls ke (max x2 y2)) (A2 + k) (x2 % cols ls) (y2 % cols ls) : Nat)⟩ := fun k hk => by
    have e1 := spansL_at (ls := ls) (first := first) (kd := kd) (x := x) (y := y) (r := A + k) (by rw [← hA]; omega) (by rw [← hB]; omega)
    have e2 := spansL_at (ls := ls) (first := first) (kd := ke) (x := x2) (y := y2) (r := A2 + k) (by rw [← hA2]; omega) (by rw [← hB2]; omega)
    rw [← hA, Nat.add_sub_cancel_left, h] at e1
    rw [← hA2, Nat.add_sub_cancel_left, e1] at e2
    exact Option.some.inj e2
  have hAA : A = A2 := by
    have := congrArg Sn.row (hat 0 (Nat.zero_le _))
    simp only at this
    omega
  unfold textL txtOf
  have hm : chB ls kd (max x y) / cols ls - chA ls kd (min x y) / cols ls = chB ls ke (max x2 y2) / cols ls - chA ls ke (min x2 y2) / cols ls := by omega
  rw [← hm]
  rw [pcF_ext (p := spP ls kd x y) (o := spO ls kd x y) (p' := spP ls ke x2 y2) (o' := spO ls ke x2 y2) _ (fun k hk => ?_) (fun k hk => ?_)]
  · have hk' : k ≤ B - A := by omega
    have e := hat k hk'
    have ef := congrArg Sn.f e
    have et := congrArg Sn.t e
    simp only [Int.natCast_inj] at ef et
    unfold spP spPc
    rw [← hA, ← hA2, ef, et, hAA]
  · unfold spO
    rw [← hA, ← hA2, hAA, bne_iff_ne.2 h1, bne_iff_ne.2 h2]
theorem whole_text {ls : List Ln} {i : Nat} (hi : i < ls.length * cols ls) (kd : Int) (hk : kd = 1 ∨ kd = 2) : textL ls kd (topI ls (i / cols ls) * cols ls) (botI ls (i / cols ls) * cols ls + (cols ls - 1)) = textL ls 3 (topI ls (i / cols ls) * cols ls) (botI ls (i / cols ls) * cols ls) := by
  have hM : 0 < cols ls := by
    rcases Nat.eq_zero_or_pos (cols ls) with h2 | h2
    · rw [h2] at hi; omega
    · exact h2
  have hr := dm_row hM hi
  have ht := topI_lt hr
  have hb := botI_lt hr
  have k1 : (topI ls (i / cols ls) + 1) * cols ls ≤ ls.length * cols ls := Nat.mul_le_mul_right _ ht
  have k2 : (botI ls (i / cols ls) + 1) * cols ls ≤ ls.length * cols ls := Nat.mul_le_mul_right _ hb
  rw [Nat.succ_mul] at k1 k2
  exact text_of_spans (first := 0) (by omega) (by omega) (by omega) (by omega) (by omega) (by decide) (whole_line 0 hi kd hk)
theorem pre_rows {pre ls : List Ln} {first : Int} (hr : rowsOk ls first = true) (hp : ∀ x ∈ pre, x.cells.length = cols ls ∧ lnOk x.cells = true) (hc : 0 < cols ls) (h6 : (pre.length : Int) ≤ first) : rowsOk (pre ++ ls) (first - (pre.length : Int)) = true := by
  obtain ⟨h1, h2, h3⟩ := rowsOk_ok hr
  have ec : cols (pre ++ ls) = cols ls := by
    cases pre with
    | nil => rfl
    | cons x r => exact (hp x (by simp)).1
  have e : scrB (pre ++ ls) = true := by
    unfold scrB
    rw [ec, List.all_eq_true]
    intro x hx
    have hx2 : x.cells.length = cols ls ∧ lnOk x.cells = true ∧ 0 < x.cells.length := by
      rcases List.mem_append.1 hx with hx | hx
      · have := hp x hx; exact ⟨this.1, this.2, by omega⟩
      · exact h1 x hx
    have h0 : x.cells ≠ [] := fun e => by rw [e] at hx2; simp at hx2
    simp [scrAt, hx2.1, hx2.2.1]
    first | omega | exact h0 | (intro e; omega) | (intro e; exact h0 e)
  unfold rowsOk
  rw [e, decide_eq_true (by omega), decide_eq_true (by omega)]
  rfl
set_option maxHeartbeats 1000000 in
theorem lineValid_all (v : Value) (cs : List Cell) (soft : Bool) (w : World) (ht : Tabs w) (ha : RdCells w v cs) :
    Calls Tryd.prog 28 #[.agg #[v, .bool soft]] w fun e w' => e = .returned (.bool (lnOk cs)) ∧ Sees w w' := by
  rcases Nat.lt_or_ge 1000 cs.length with hl | hl
  · have Hf : Hid (lnOk cs = false) := by unfold Hid lnOk; rw [decide_eq_false (by omega)]; rfl
    obtain ⟨ao, ca, hv, hh⟩ := ha
    subst hv
    clear hh ht
    generalize hnc : cs.length = n at *
    clear hnc
    go_enter Tryd.func28, Tryd.ntmps28
    go_wp2
    go_ret
    exact ⟨by rw [Hf.out]; rfl, (Sees.refl w).alloc _⟩
  · exact lineValid_any v cs soft w ht ha (by omega)
end Go.Proofs.YtooiiefipdjbjaaDoor
