/- The reference's text of a place; its reading of a text as a plain function, and when it finds a place. No condition. -/
import Derived.Test.YtoljdfaghomjkaaDoorPlR
namespace Go.Proofs.YtoljdfaghomjkaaDoor
set_option linter.unusedVariables false
set_option linter.unusedSimpArgs false
open Go.RowKit

theorem number_int (n : Int) (h : 0 ≤ n ∧ n < 2000000000000) (w : World) :
    Calls Tryd.prog 34 #[.int .i64 n] w fun e w' => e = .returned (.string ⟨(Lib.itoa n).toArray⟩) ∧ Sees w w' := by
  obtain ⟨u, rfl⟩ := Int.eq_ofNat_of_zero_le h.1
  have e : Lib.itoa (u : Int) = Lib.decDigits u := by
    unfold Lib.itoa
    rw [if_neg (by omega)]
    rfl
  rw [e]
  exact number_any u (by omega) w
set_option maxHeartbeats 1000000 in
theorem rtext_ok (l c : Int) (h : vP l c = true) (w : World) :
    Calls Tryd.prog 23 #[pl l c] w fun e w' => e = .returned (.string (txt l c)) ∧ Sees w w' := by
  have hw := Sees.refl w
  have hb : (0 ≤ l ∧ l ≤ 1099511627776) ∧ 0 ≤ c ∧ c ≤ 1000 := by
    unfold vP at h
    simp at h
    omega
  have z1 : (Lib.itoa l).length ≤ 21 := Lib.itoa_length_le l (by omega) (by omega)
  have z2 : (Lib.itoa c).length ≤ 21 := Lib.itoa_length_le c (by omega) (by omega)
  have z3 : (Lib.itoa l).length ≤ 9223372036854775806 := by omega
  have z4 : (Lib.itoa l).length + 1 + (Lib.itoa c).length ≤ 9223372036854775807 := by omega
  have hl : 0 ≤ l ∧ l < 2000000000000 := by omega
  have hc : 0 ≤ c ∧ c < 2000000000000 := by omega
  clear hb
  go_enter Tryd.func23, Tryd.ntmps23
  go_wp2_with fail
  refine wp_world (fun w1 hw1 => ?_)
  have hS : Sees w w1 := by rw [hw1]; exact hw.alloc _
  have R : PlAt w1 w.heap.size l c := by rw [hw1]; exact PlAt.new w l c
  have HC : Hid (∀ W, Sees w1 W → W.cell? ⟨w.heap.size, 0, none⟩ = some (.int .i64 l) ∧ W.cell? ⟨w.heap.size, 1, none⟩ = some (.int .i64 c)) := Lib.hid fun W h => (R.sees h).cs
  clear hw1 R
  refine wpFrom_go (by kernel_rfl) (by kernel_rfl) (fun hB w2 hw2 => ?_)
  have hst2 : segStay (Sees w2) [.is (.pointer (some ⟨w.heap.size, 0, none⟩)), .is (.int .i64 l), .is (.string ⟨(Lib.itoa l).toArray⟩), .is (.string (⟨(Lib.itoa l).toArray⟩ ++ ⟨#[58]⟩)),
      .is (.pointer (some ⟨w.heap.size, 1, none⟩)), .is (.int .i64 c), .is (.string ⟨(Lib.itoa c).toArray⟩)] := trivial
  have hval : ∀ x v, (Spec.is x).val v = x := fun _ _ => rfl
  refine wpFrom_any 7 _ hB (by kernel_rfl) rfl hst2 (by simp only [List.cons_append, List.nil_append, List.drop_succ_cons, List.drop_zero, List.take_succ_cons, List.take_zero, Nat.reduceSub]; rfl) ?_
  refine ⟨fun vs W hI hV => .inl ⟨by go_simp, .inl (by go_simp)⟩, ?_⟩
  refine ⟨fun vs W hI hV => .inl ⟨by go_simp, .inl (by have q := HC.out _ (hw2.trans hI); obtain ⟨q0, q1⟩ := q; clear hI hV; go_simp)⟩, ?_⟩
  refine ⟨fun vs W hI hV => .inl ⟨by clear hV; go_simp, .inr (.inr ⟨34, #[.int .i64 l], by clear hI hV; go_simp, number_int l hl W⟩)⟩, ?_⟩
  refine ⟨fun vs W hI hV => .inl ⟨by go_simp, .inl (by go_simp)⟩, ?_⟩
  refine ⟨fun vs W hI hV => .inl ⟨by go_simp, .inl (by go_simp)⟩, ?_⟩
  refine ⟨fun vs W hI hV => .inl ⟨by go_simp, .inl (by have q := HC.out _ (hw2.trans hI); obtain ⟨q0, q1⟩ := q; clear hI hV; go_simp)⟩, ?_⟩
  refine ⟨fun vs W hI hV => .inl ⟨by clear hV; go_simp, .inr (.inr ⟨34, #[.int .i64 c], by clear hI hV; go_simp, number_int c hc W⟩)⟩, ?_⟩
  intro vs w3 hI hV
  have hS3 := hS.trans (hw2.trans hI)
  clear hI hV hst2
  go_simp
  refine wpFrom_to 9 hB (fun _ _ _ _ _ h => h) (by kernel_rfl) (by simp only [List.cons_append, List.nil_append, List.drop_succ_cons, List.drop_zero, List.take_succ_cons, List.take_zero, Nat.reduceSub]; rfl) ?_
  go_wp2
  refine wpFrom_end rfl ?_; go_wp2
  go_ret
  exact ⟨rfl, hS3⟩

/-- One byte read: the part, and the two numbers. -/
def rpStep (st : Nat × Nat × Nat) (b : UInt8) : Option (Nat × Nat × Nat) :=
  if b = 58 then (if st.1 + 1 > 1 then none else some (st.1 + 1, st.2))
  else if b < 48 ∨ b > 57 ∨ (if st.1 = 0 then st.2.1 else st.2.2) > 1099511627776 then none
  else if st.1 = 0 then some (0, 10 * st.2.1 + (b.toNat - 48), st.2.2) else some (st.1, st.2.1, 10 * st.2.2 + (b.toNat - 48))
def rp : List UInt8 → Nat × Nat × Nat → Option (Nat × Nat × Nat)
  | [], st => some st
  | b :: r, st => (rpStep st b).bind (rp r)
theorem rp_app : ∀ (l r : List UInt8) (st : Nat × Nat × Nat), rp (l ++ r) st = (rp l st).bind (rp r)
  | [], r, st => rfl
  | b :: l, r, st => by
    show (rpStep st b).bind (rp (l ++ r)) = ((rpStep st b).bind (rp l)).bind (rp r)
    cases rpStep st b with
    | none => rfl
    | some x => exact rp_app l r x
theorem rpStep_digit0 {d n m : Nat} (hd : d < 10) (hn : n ≤ 1099511627776) : rpStep (0, n, m) (UInt8.ofNat (48 + d)) = some (0, 10 * n + d, m) := by
  have e := dig_toNat hd
  generalize UInt8.ofNat (48 + d) = x at e
  have h1 : ¬ x = 58 := fun h => by rw [h] at e; have : (58 : UInt8).toNat = 58 := rfl; omega
  have h2 : ¬ (x < 48 ∨ x > 57 ∨ n > 1099511627776) := by
    rw [UInt8.lt_iff_toNat_lt, gt_iff_lt, UInt8.lt_iff_toNat_lt, e]
    have : (48 : UInt8).toNat = 48 := rfl
    have : (57 : UInt8).toNat = 57 := rfl
    omega
  unfold rpStep
  simp only [if_neg h1, if_true]
  rw [if_neg h2, e]
  congr 3
  omega
theorem rpStep_digit1 {d n m : Nat} (hd : d < 10) (hn : m ≤ 1099511627776) : rpStep (1, n, m) (UInt8.ofNat (48 + d)) = some (1, n, 10 * m + d) := by
  have e := dig_toNat hd
  generalize UInt8.ofNat (48 + d) = x at e
  have h1 : ¬ x = 58 := fun h => by rw [h] at e; have : (58 : UInt8).toNat = 58 := rfl; omega
  have h2 : ¬ (x < 48 ∨ x > 57 ∨ m > 1099511627776) := by
    rw [UInt8.lt_iff_toNat_lt, gt_iff_lt, UInt8.lt_iff_toNat_lt, e]
    have : (48 : UInt8).toNat = 48 := rfl
    have : (57 : UInt8).toNat = 57 := rfl
    omega
  unfold rpStep
  simp only [if_neg h1, Nat.one_ne_zero, if_false]
  rw [if_neg h2, e]
  congr 4
  omega
theorem rp_dec0 (u m : Nat) (hu : u ≤ 1099511627776) : rp (Lib.decDigits u) (0, 0, m) = some (0, u, m) := by
  induction u using Nat.strongRecOn with
  | _ u ih =>
    rw [Lib.decDigits]
    by_cases h : u < 10
    · rw [dif_pos h]
      show (rpStep _ _).bind (rp []) = _
      rw [rpStep_digit0 h (by omega)]
      show some (0, 10 * 0 + u, m) = _
      congr 3
      omega
    · rw [dif_neg h, rp_app, ih (u / 10) (by omega) (by omega)]
      show (rpStep _ _).bind (rp []) = _
      rw [rpStep_digit0 (Nat.mod_lt _ (by decide)) (by omega)]
      show some (0, 10 * (u / 10) + u % 10, m) = _
      congr 3
      omega
theorem rp_dec1 (u n : Nat) (hu : u ≤ 1099511627776) : rp (Lib.decDigits u) (1, n, 0) = some (1, n, u) := by
  induction u using Nat.strongRecOn with
  | _ u ih =>
    rw [Lib.decDigits]
    by_cases h : u < 10
    · rw [dif_pos h]
      show (rpStep _ _).bind (rp []) = _
      rw [rpStep_digit1 h (by omega)]
      show some (1, n, 10 * 0 + u) = _
      congr 3
      omega
    · rw [dif_neg h, rp_app, ih (u / 10) (by omega) (by omega)]
      show (rpStep _ _).bind (rp []) = _
      rw [rpStep_digit1 (Nat.mod_lt _ (by decide)) (by omega)]
      show some (1, n, 10 * (u / 10) + u % 10) = _
      congr 3
      omega
/-- A text with a place is read. -/
theorem rp_has {s : ByteArray} {l c : Int} (h : HasPl s l c) : rp s.data.toList (0, 0, 0) = some (1, l.toNat, c.toNat) ∧ vP l c = true ∧ txt l c = s := by
  obtain ⟨_, _, h3, h4⟩ := h
  refine ⟨?_, h3, h4⟩
  have hb : (0 ≤ l ∧ l ≤ 1099511627776) ∧ 0 ≤ c ∧ c ≤ 1000 := by
    unfold vP at h3
    simp at h3
    omega
  have hd : (txt l c).data.toList = Lib.itoa l ++ 58 :: Lib.itoa c := by
    unfold txt
    simp
  have e1 : Lib.itoa l = Lib.decDigits l.toNat := by unfold Lib.itoa; rw [if_neg (by omega)]
  have e2 : Lib.itoa c = Lib.decDigits c.toNat := by unfold Lib.itoa; rw [if_neg (by omega)]
  rw [← h4, hd, e1, e2, rp_app, rp_dec0 _ _ (by omega)]
  show (rpStep (0, l.toNat, 0) 58).bind (rp (Lib.decDigits c.toNat)) = _
  have e3 : rpStep (0, l.toNat, 0) 58 = some (1, l.toNat, 0) := by
    unfold rpStep
    simp
  rw [e3]
  exact rp_dec1 _ _ (by omega)
end Go.Proofs.YtoljdfaghomjkaaDoor
