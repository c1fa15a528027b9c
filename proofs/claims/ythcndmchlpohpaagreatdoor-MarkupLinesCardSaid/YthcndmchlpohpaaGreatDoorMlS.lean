/- A text with other bytes at one place says no more than 200 cells, if it is a markup (48), in plain Lean. No condition. -/
import Derived.Test.YthcndmchlpohpaaGreatDoorMlR
namespace Go.Proofs.YthcndmchlpohpaaGreatDoor
set_option linter.unusedVariables false
set_option linter.unusedSimpArgs false
open Go.RowKit Go.Shelf

/-- Where the reading stands behind some bytes. -/
def runM : Nat → List UInt8 → Nat
  | q, [] => q
  | 0, b :: t => if b = 91 then runM 1 t else if b = 92 then runM 2 t else runM 0 t
  | 1, b :: t => if b = 93 then runM 0 t else runM 1 t
  | _, _ :: t => runM 0 t
/-- What some bytes count, before others. -/
def cntP : Nat → List UInt8 → List UInt8 → Nat
  | _, [], _ => 0
  | 0, b :: t, R => if b = 91 then cntP 1 t R else if b = 92 then cntP 2 t R else wt b (t ++ R) + cntP 0 t R
  | 1, b :: t, R => if b = 93 then cntP 0 t R else cntP 1 t R
  | _, b :: t, R => wt b (t ++ R) + cntP 0 t R
theorem cnt_two (b : UInt8) (t : List UInt8) (q : Nat) : cnt (q + 2) (b :: t) = wt b t + cnt 0 t := rfl
theorem cnt_app : ∀ (A : List UInt8) (q : Nat) (R : List UInt8), q ≤ 2 → cnt q (A ++ R) = cntP q A R + cnt (runM q A) R
  | [], q, R, _ => by
    match q with
    | 0 => rw [cntP, runM, Nat.zero_add]; rfl
    | 1 => rw [cntP, runM, Nat.zero_add]; rfl
    | 2 => rw [cntP, runM, Nat.zero_add]; rfl
  | b :: t, 0, R, _ => by
    show (if b = 91 then cnt 1 (t ++ R) else if b = 92 then cnt 2 (t ++ R) else wt b (t ++ R) + cnt 0 (t ++ R)) = (if b = 91 then cntP 1 t R else if b = 92 then cntP 2 t R else wt b (t ++ R) + cntP 0 t R) + cnt (if b = 91 then runM 1 t else if b = 92 then runM 2 t else runM 0 t) R
    rw [cnt_app t 1 R (by omega), cnt_app t 2 R (by omega), cnt_app t 0 R (by omega)]
    split
    · rfl
    · split
      · rfl
      · omega
  | b :: t, 1, R, _ => by
    show (if b = 93 then cnt 0 (t ++ R) else cnt 1 (t ++ R)) = (if b = 93 then cntP 0 t R else cntP 1 t R) + cnt (if b = 93 then runM 0 t else runM 1 t) R
    rw [cnt_app t 1 R (by omega), cnt_app t 0 R (by omega)]
    split <;> rfl
  | b :: t, 2, R, _ => by
    show wt b (t ++ R) + cnt 0 (t ++ R) = wt b (t ++ R) + cntP 0 t R + cnt (runM 0 t) R
    rw [cnt_app t 0 R (by omega)]; omega
theorem runM_le : ∀ (A : List UInt8) (q : Nat), q ≤ 2 → runM q A ≤ 2
  | [], q, h => by
    match q, h with
    | 0, _ => exact Nat.zero_le _
    | 1, _ => exact (by decide : (1 : Nat) ≤ 2)
    | 2, _ => exact Nat.le_refl _
  | b :: t, 0, _ => by
    show (if b = 91 then runM 1 t else if b = 92 then runM 2 t else runM 0 t) ≤ 2
    split
    · exact runM_le t 1 (by omega)
    · split
      · exact runM_le t 2 (by omega)
      · exact runM_le t 0 (by omega)
  | b :: t, 1, _ => by
    show (if b = 93 then runM 0 t else runM 1 t) ≤ 2
    split
    · exact runM_le t 0 (by omega)
    · exact runM_le t 1 (by omega)
  | b :: t, 2, _ => runM_le t 0 (by omega)
theorem okM_app : ∀ (A : List UInt8) (q : Nat) (R : List UInt8), q ≤ 2 → okM q (A ++ R) = true → okM (runM q A) R = true
  | [], q, R, h, e => by
    match q, h, e with
    | 0, _, e => exact e
    | 1, _, e => exact e
    | 2, _, e => exact e
  | b :: t, 0, R, _, e => by
    replace e : (if b = 91 then okM 1 (t ++ R) else if b = 92 then okM 2 (t ++ R) else (b != 93 && okM 0 (t ++ R))) = true := e
    show okM (if b = 91 then runM 1 t else if b = 92 then runM 2 t else runM 0 t) R = true
    split
    · rename_i h; rw [if_pos h] at e; exact okM_app t 1 R (by omega) e
    · rename_i h
      rw [if_neg h] at e
      split
      · rename_i h2; rw [if_pos h2] at e; exact okM_app t 2 R (by omega) e
      · rename_i h2
        rw [if_neg h2, Bool.and_eq_true] at e
        exact okM_app t 0 R (by omega) e.2
  | b :: t, 1, R, _, e => by
    replace e : (if b = 93 then okM 0 (t ++ R) else (b != 91 && (b != 92 && okM 1 (t ++ R)))) = true := e
    show okM (if b = 93 then runM 0 t else runM 1 t) R = true
    split
    · rename_i h; rw [if_pos h] at e; exact okM_app t 0 R (by omega) e
    · rename_i h
      rw [if_neg h, Bool.and_eq_true, Bool.and_eq_true] at e
      exact okM_app t 1 R (by omega) e.2.2
  | b :: t, 2, R, _, e => okM_app t 0 R (by omega) e
theorem cntP_le : ∀ (A : List UInt8) (q : Nat) (R : List UInt8), q ≤ 2 → cntP q A R ≤ 2 * A.length
  | [], q, R, h => by
    match q, h with
    | 0, _ => exact Nat.zero_le _
    | 1, _ => exact Nat.zero_le _
    | 2, _ => exact Nat.zero_le _
  | b :: t, 0, R, _ => by
    show (if b = 91 then cntP 1 t R else if b = 92 then cntP 2 t R else wt b (t ++ R) + cntP 0 t R) ≤ 2 * (t.length + 1)
    have h0 := cntP_le t 0 R (by omega)
    have h1 := cntP_le t 1 R (by omega)
    have h2 := cntP_le t 2 R (by omega)
    have hw := wt_le b (t ++ R)
    split
    · omega
    · split <;> omega
  | b :: t, 1, R, _ => by
    show (if b = 93 then cntP 0 t R else cntP 1 t R) ≤ 2 * (t.length + 1)
    have h0 := cntP_le t 0 R (by omega)
    have h1 := cntP_le t 1 R (by omega)
    split <;> omega
  | b :: t, 2, R, _ => by
    show wt b (t ++ R) + cntP 0 t R ≤ 2 * (t.length + 1)
    have h0 := cntP_le t 0 R (by omega)
    have hw := wt_le b (t ++ R)
    omega
theorem decodeN_four (n a b c d : Nat) (h : 4 ≤ n) : Lib.decodeN n a b c d = Lib.decodeN 4 a b c d := by
  have h1 : (1 < n) = True := eq_true (by omega)
  have h2 : (2 < n) = True := eq_true (by omega)
  have h3 : (3 < n) = True := eq_true (by omega)
  have g1 : (1 < 4) = True := eq_true (by omega)
  have g2 : (2 < 4) = True := eq_true (by omega)
  have g3 : (3 < 4) = True := eq_true (by omega)
  unfold Lib.decodeN
  simp only [h1, h2, h3, g1, g2, g3]
theorem getD_app {l R : List UInt8} {k : Nat} (h : k < l.length) : (l ++ R).getD k 0 = l.getD k 0 := by
  rw [List.getD_eq_getElem?_getD, List.getElem?_append_left h, List.getD_eq_getElem?_getD]
/-- Behind four bytes the decoder looks at no more. -/
theorem wt_far (b : UInt8) (t R R' : List UInt8) (h : 3 ≤ t.length) : wt b (t ++ R) = wt b (t ++ R') := by
  have key : ∀ R, Lib.decodeL (b :: (t ++ R)) = Lib.decodeN 4 ((b :: t).getD 0 0).toNat ((b :: t).getD 1 0).toNat ((b :: t).getD 2 0).toNat ((b :: t).getD 3 0).toNat := fun R => by
    have e : b :: (t ++ R) = (b :: t) ++ R := rfl
    rw [e, Lib.decodeL_N, getD_app (by simp), getD_app (by simp; omega), getD_app (by simp; omega), getD_app (by simp; omega), decodeN_four _ _ _ _ _ (by rw [List.length_append, List.length_cons]; omega)]
  unfold wt
  rw [key R, key R']
theorem cntP_other : ∀ (A : List UInt8) (q : Nat) (R R' : List UInt8), q ≤ 2 → cntP q A R ≤ cntP q A R' + 2 * min 3 A.length
  | [], q, R, R', h => by
    match q, h with
    | 0, _ => exact Nat.zero_le _
    | 1, _ => exact Nat.zero_le _
    | 2, _ => exact Nat.zero_le _
  | b :: t, q, R, R', hq => by
    have h0 := cntP_other t 0 R R' (by omega)
    have h1 := cntP_other t 1 R R' (by omega)
    have h2 := cntP_other t 2 R R' (by omega)
    have hw : wt b (t ++ R) + 2 * min 3 t.length ≤ wt b (t ++ R') + 2 * min 3 (t.length + 1) := by
      rcases Nat.lt_or_ge t.length 3 with h | h
      · have := wt_le b (t ++ R)
        rw [Nat.min_eq_right (by omega), Nat.min_eq_right (by omega)]
        omega
      · rw [wt_far b t R R' h, Nat.min_eq_left (by omega), Nat.min_eq_left (by omega)]
        exact Nat.le_refl _
    have hm : 2 * min 3 t.length ≤ 2 * min 3 (t.length + 1) := by omega
    match q, hq with
    | 0, _ =>
      show (if b = 91 then cntP 1 t R else if b = 92 then cntP 2 t R else wt b (t ++ R) + cntP 0 t R) ≤ (if b = 91 then cntP 1 t R' else if b = 92 then cntP 2 t R' else wt b (t ++ R') + cntP 0 t R') + 2 * min 3 (t.length + 1)
      split
      · omega
      · split <;> omega
    | 1, _ =>
      show (if b = 93 then cntP 0 t R else cntP 1 t R) ≤ (if b = 93 then cntP 0 t R' else cntP 1 t R') + 2 * min 3 (t.length + 1)
      split <;> omega
    | 2, _ =>
      show wt b (t ++ R) + cntP 0 t R ≤ wt b (t ++ R') + cntP 0 t R' + 2 * min 3 (t.length + 1)
      omega
theorem no01 : ∀ C : List UInt8, okM 0 C = true → okM 1 C = true → False
  | [], _, h => by cases h
  | b :: t, h0, h1 => by
    replace h0 : (if b = 91 then okM 1 t else if b = 92 then okM 2 t else (b != 93 && okM 0 t)) = true := h0
    replace h1 : (if b = 93 then okM 0 t else (b != 91 && (b != 92 && okM 1 t))) = true := h1
    by_cases e3 : b = 93
    · subst e3; simp at h0
    · rw [if_neg e3] at h1
      simp only [Bool.and_eq_true, bne_iff_ne] at h1
      rw [if_neg h1.1, if_neg h1.2.1, Bool.and_eq_true] at h0
      exact no01 t h0.2 h1.2.2
theorem wt_92 (t : List UInt8) : wt 92 t = 1 := by
  have := wt_rune (r := 92) (by decide +kernel) (b := 92) (t := []) (by decide +kernel) t
  rw [List.nil_append] at this
  rw [this]; decide +kernel
theorem sync02 : ∀ C : List UInt8, okM 0 C = true → okM 2 C = true → cnt 0 C ≤ cnt 2 C ∧ cnt 2 C ≤ cnt 0 C + 1
  | [], _, _ => ⟨Nat.le_refl _, Nat.le_succ _⟩
  | b :: t, h0, h2 => by
    replace h0 : (if b = 91 then okM 1 t else if b = 92 then okM 2 t else (b != 93 && okM 0 t)) = true := h0
    replace h2 : okM 0 t = true := h2
    show (if b = 91 then cnt 1 t else if b = 92 then cnt 2 t else wt b t + cnt 0 t) ≤ wt b t + cnt 0 t ∧ wt b t + cnt 0 t ≤ (if b = 91 then cnt 1 t else if b = 92 then cnt 2 t else wt b t + cnt 0 t) + 1
    by_cases e1 : b = 91
    · rw [if_pos e1] at h0; exact (no01 t h2 h0).elim
    · rw [if_neg e1] at h0 ⊢
      by_cases e2 : b = 92
      · rw [if_pos e2] at h0 ⊢
        obtain ⟨i1, i2⟩ := sync02 t h2 h0
        rw [e2, wt_92]
        omega
      · rw [if_neg e2] at ⊢
        omega
theorem sync : ∀ (C : List UInt8) (q q' : Nat), q ≤ 2 → q' ≤ 2 → okM q C = true → okM q' C = true → cnt q C ≤ cnt q' C + 2
  | C, q, q', h, h', e, e' => by
    have w12 : okM 1 C = true → okM 2 C = true → cnt 1 C ≤ cnt 2 C + 2 ∧ cnt 2 C ≤ cnt 1 C + 2 := fun a b => by
      cases C with
      | nil => cases a
      | cons x t =>
        replace a : (if x = 93 then okM 0 t else (x != 91 && (x != 92 && okM 1 t))) = true := a
        replace b : okM 0 t = true := b
        show (if x = 93 then cnt 0 t else cnt 1 t) ≤ wt x t + cnt 0 t + 2 ∧ wt x t + cnt 0 t ≤ (if x = 93 then cnt 0 t else cnt 1 t) + 2
        have hw := wt_le x t
        by_cases e3 : x = 93
        · rw [if_pos e3]; omega
        · rw [if_neg e3] at a
          simp only [Bool.and_eq_true] at a
          exact (no01 t b a.2.2).elim
    rcases (show q = 0 ∨ q = 1 ∨ q = 2 by omega) with rfl | rfl | rfl <;> rcases (show q' = 0 ∨ q' = 1 ∨ q' = 2 by omega) with rfl | rfl | rfl
    · omega
    · exact (no01 C e e').elim
    · have := sync02 C e e'; omega
    · exact (no01 C e' e).elim
    · omega
    · exact (w12 e e').1
    · have := sync02 C e' e; omega
    · exact (w12 e' e).2
    · omega
/-- Other bytes in a good text: at most 8 and two a byte more, if it is good again. -/
theorem cnt_turned (A B M C : List UInt8) (h : okM 0 (A ++ (B ++ C)) = true) (h' : okM 0 (A ++ (M ++ C)) = true) : cnt 0 (A ++ (M ++ C)) ≤ cnt 0 (A ++ (B ++ C)) + 2 * M.length + 8 := by
  have q1 := runM_le A 0 (by omega)
  have q2 := runM_le M (runM 0 A) q1
  have q3 := runM_le B (runM 0 A) q1
  rw [cnt_app A 0 _ (by omega), cnt_app M _ _ q1, cnt_app A 0 _ (by omega), cnt_app B _ _ q1]
  have k1 := okM_app A 0 _ (by omega) h
  have k2 := okM_app A 0 _ (by omega) h'
  have k3 := okM_app B _ _ q1 k1
  have k4 := okM_app M _ _ q1 k2
  have s := sync C _ _ q2 q3 k4 k3
  have p := cntP_other A 0 (M ++ C) (B ++ C) (by omega)
  have m := cntP_le M (runM 0 A) C q1
  have hm : min 3 A.length ≤ 3 := Nat.min_le_left _ _
  omega
end Go.Proofs.YthcndmchlpohpaaGreatDoor
