/- How many cells a text with other bytes may say (48), in plain Lean. A text with other bytes at one place says no more than 200 cells, if it is a markup (48), in plain Lean. Lines with blank cells at their end; what Line says of a markup, and of one with other bytes (48), in plain Lean. No condition. -/
import Derived.Test.YthcndmchlpohpaaGreatDoorMlC
namespace Go.Proofs.YthcndmchlpohpaaGreatDoor
set_option linter.unusedVariables false
set_option linter.unusedSimpArgs false
open Go.RowKit Go.Shelf

/-- How many columns the rune that begins here has; none within a rune. -/
def wt (b : UInt8) (t : List UInt8) : Nat := if 128 ≤ b.toNat ∧ b.toNat < 192 then 0 else (wOf ((Lib.decodeL (b :: t)).1 : Int)).toNat
/-- Cells that a text says, read outside of tags (0), in them (1), behind a backslash (2). -/
def cnt : Nat → List UInt8 → Nat
  | _, [] => 0
  | 0, b :: t => if b = 91 then cnt 1 t else if b = 92 then cnt 2 t else wt b t + cnt 0 t
  | 1, b :: t => if b = 93 then cnt 0 t else cnt 1 t
  | _, b :: t => wt b t + cnt 0 t
/-- May a text be a markup, by its brackets? -/
def okM : Nat → List UInt8 → Bool
  | 1, [] => false
  | _, [] => true
  | 0, b :: t => if b = 91 then okM 1 t else if b = 92 then okM 2 t else (b != 93 && okM 0 t)
  | 1, b :: t => if b = 93 then okM 0 t else (b != 91 && (b != 92 && okM 1 t))
  | _, b :: t => okM 0 t
theorem wOf_le (r : Int) : wOf r ≤ 2 := by rcases wOf_ways r with h | h | h | h <;> rw [h] <;> decide
theorem wt_le (b : UInt8) (t : List UInt8) : wt b t ≤ 2 := by
  unfold wt
  split
  · omega
  · have := wOf_le ((Lib.decodeL (b :: t)).1 : Int)
    omega
theorem wt_rune {r : Nat} (hr : wOf (r : Int) ≠ -1) {b : UInt8} {t : List UInt8} (hb : encL (r : Int) = b :: t) (S : List UInt8) : wt b (t ++ S) = (wOf (r : Int)).toNat := by
  have hv : r < 55296 ∨ (57344 ≤ r ∧ r ≤ 1114111) := by have := wOf_prn hr; omega
  obtain ⟨b', t', e, h1, h2, _⟩ := encL_head r hv
  rw [hb] at e
  obtain ⟨rfl, rfl⟩ := List.cons.inj e
  have hd := dec_encL r hv S
  rw [hb, List.cons_append] at hd
  unfold wt
  rw [hd, if_neg]
  rcases Nat.lt_or_ge r 128 with h | h
  · have := (h1 h).1; omega
  · have := h2 h; omega
theorem cnt_cont : ∀ (t S : List UInt8), (∀ x ∈ t, 128 ≤ x.toNat ∧ x.toNat < 192) → cnt 0 (t ++ S) = cnt 0 S ∧ okM 0 (t ++ S) = okM 0 S
  | [], _, _ => ⟨rfl, rfl⟩
  | x :: t, S, h => by
    have hx := h x (List.mem_cons_self ..)
    have ih := cnt_cont t S (fun y hy => h y (List.mem_cons_of_mem _ hy))
    have n1 : x ≠ 91 := by rintro rfl; simp at hx
    have n2 : x ≠ 92 := by rintro rfl; simp at hx
    have n3 : x ≠ 93 := by rintro rfl; simp at hx
    constructor
    · rw [List.cons_append, cnt, if_neg n1, if_neg n2, ih.1]
      unfold wt
      rw [if_pos hx, Nat.zero_add]
    · rw [List.cons_append, okM, if_neg n1, if_neg n2, ih.2]
      simp [n3]
/-- A rune's bytes outside of tags, and behind a backslash. -/
theorem cnt_rune {r : Nat} (hr : wOf (r : Int) ≠ -1) (he : escB (r : Int) = false) (S : List UInt8) : cnt 0 (encL (r : Int) ++ S) = (wOf (r : Int)).toNat + cnt 0 S ∧ okM 0 (encL (r : Int) ++ S) = okM 0 S := by
  have hv : r < 55296 ∨ (57344 ≤ r ∧ r ≤ 1114111) := by have := wOf_prn hr; omega
  obtain ⟨b, t, hb, h1, h2, h3⟩ := encL_head r hv
  have hn : b ≠ 91 ∧ b ≠ 92 ∧ b ≠ 93 := by
    unfold escB at he
    simp only [Bool.or_eq_false_iff, beq_eq_false_iff_ne] at he
    rcases Nat.lt_or_ge r 128 with h | h
    · have := (h1 h).1
      refine ⟨?_, ?_, ?_⟩ <;> rintro rfl <;> simp at this <;> omega
    · have := h2 h
      refine ⟨?_, ?_, ?_⟩ <;> rintro rfl <;> simp at this
  have hw := wt_rune hr hb S
  obtain ⟨c1, c2⟩ := cnt_cont t S h3
  rw [hb, List.cons_append]
  constructor
  · rw [cnt, if_neg hn.1, if_neg hn.2.1, hw, c1]
  · rw [okM, if_neg hn.1, if_neg hn.2.1, c2]
    simp [hn.2.2]
theorem esc_small {r : Nat} (he : escB (r : Int) = true) : r < 128 ∧ (wOf (r : Int)).toNat = 1 := by
  unfold escB at he
  simp only [Bool.or_eq_true, beq_iff_eq] at he
  rcases (show r = 92 ∨ r = 91 ∨ r = 93 ∨ r = 95 by omega) with rfl | rfl | rfl | rfl <;> exact ⟨by omega, by decide +kernel⟩
theorem cnt_esc {r : Nat} (he : escB (r : Int) = true) (S : List UInt8) : cnt 0 (92 :: (encL (r : Int) ++ S)) = (wOf (r : Int)).toNat + cnt 0 S ∧ okM 0 (92 :: (encL (r : Int) ++ S)) = okM 0 S := by
  obtain ⟨h, hw⟩ := esc_small he
  have hr : wOf (r : Int) ≠ -1 := fun e => by rw [e] at hw; cases hw
  obtain ⟨b, t, hb, h1, _, _⟩ := encL_head r (by omega)
  obtain ⟨_, rfl⟩ := h1 h
  have hwt := wt_rune hr hb S
  rw [hb]
  constructor
  · show cnt 2 (b :: S) = _
    rw [cnt, ← hwt]
    · rfl
    · intro e; cases e
    · intro e; cases e
  · rfl
theorem cnt_mark {m : Int} (hm : m ≠ 0 → wOf m = 0) (S : List UInt8) : cnt 0 (mkTxt m ++ S) = cnt 0 S ∧ okM 0 (mkTxt m ++ S) = okM 0 S := by
  unfold mkTxt
  by_cases h : m = 0
  · rw [if_pos h]; exact ⟨rfl, rfl⟩
  · rw [if_neg h]
    obtain ⟨n, rfl, _, _⟩ := wOf_nat (r := m) (by rw [hm h]; decide)
    have hb := mark_big (hm h)
    have he : escB (n : Int) = false := by
      unfold escB
      simp only [Bool.or_eq_false_iff, beq_eq_false_iff_ne]
      omega
    have := cnt_rune (r := n) (by rw [hm h]; decide) he S
    rwa [hm h, Int.toNat_zero, Nat.zero_add] at this
set_option maxRecDepth 100000 in
theorem cnt_cell {c : Cell} (hv : c.valid = true) (hw : c.width ≠ 0) (S : List UInt8) : cnt 0 (mkC c ++ S) = c.width.toNat + cnt 0 S ∧ okM 0 (mkC c ++ S) = okM 0 S := by
  unfold Cell.valid at hv
  simp only [Bool.and_eq_true] at hv
  obtain ⟨_, hv⟩ := hv
  unfold mkC Cell.txt
  by_cases h0 : c.rune = 0
  · rw [if_pos h0] at hv
    simp only [Bool.and_eq_true, Bool.or_eq_true, beq_iff_eq] at hv
    have h1 : c.width = 1 := by omega
    rw [if_pos ⟨by omega, h0⟩, h1]
    have : wt 95 S = 1 := by
      have := wt_rune (r := 95) (by decide +kernel) (b := 95) (t := []) (by decide +kernel) S
      rw [List.nil_append] at this
      rw [this]; decide +kernel
    constructor
    · show wt 95 S + cnt 0 S = _
      rw [this]; rfl
    · rfl
  · rw [if_neg h0] at hv
    simp only [Bool.and_eq_true, decide_eq_true_eq, beq_iff_eq] at hv
    obtain ⟨hm, hpos, hwd⟩ := hv
    rw [if_neg (fun h => h0 h.2), if_neg hw, if_neg h0]
    obtain ⟨n, hn, _, _⟩ := wOf_nat (r := c.rune) (by omega)
    simp only [mkOk, mkBad, Bool.and_eq_true, Bool.not_eq_true', Bool.and_eq_false_iff, Bool.or_eq_false_iff, bne_eq_false_iff_eq, decide_eq_false_iff_not, beq_eq_false_iff_ne] at hm
    obtain ⟨⟨k0, k1⟩, k2⟩ := hm
    have hm0 : c.m0 ≠ 0 → wOf c.m0 = 0 := fun h => by rcases k0 with e | e; exact absurd e h; exact e.1
    have hm1 : c.m1 ≠ 0 → wOf c.m1 = 0 := fun h => by rcases k1 with e | e; exact absurd e h; exact e.1
    have hm2 : c.m2 ≠ 0 → wOf c.m2 = 0 := fun h => by rcases k2 with e | e; exact absurd e h; exact e.1
    have a0 := cnt_mark hm0 (mkTxt c.m1 ++ (mkTxt c.m2 ++ S))
    have a1 := cnt_mark hm1 (mkTxt c.m2 ++ S)
    have a2 := cnt_mark hm2 S
    have hr : wOf c.rune ≠ -1 := by omega
    rw [hn] at hwd hr ⊢
    rw [hwd]
    cases he : escB (n : Int) with
    | true =>
      obtain ⟨e1, e2⟩ := cnt_esc he (mkTxt c.m0 ++ (mkTxt c.m1 ++ (mkTxt c.m2 ++ S)))
      rw [if_pos rfl]
      have e : (92 :: (encL (n : Int) ++ mkTxt c.m0 ++ mkTxt c.m1 ++ mkTxt c.m2)) ++ S = 92 :: (encL (n : Int) ++ (mkTxt c.m0 ++ (mkTxt c.m1 ++ (mkTxt c.m2 ++ S)))) := by simp
      rw [e]
      exact ⟨by rw [e1, a0.1, a1.1, a2.1], by rw [e2, a0.2, a1.2, a2.2]⟩
    | false =>
      obtain ⟨e1, e2⟩ := cnt_rune hr he (mkTxt c.m0 ++ (mkTxt c.m1 ++ (mkTxt c.m2 ++ S)))
      rw [if_neg (by simp)]
      have e : (encL (n : Int) ++ mkTxt c.m0 ++ mkTxt c.m1 ++ mkTxt c.m2) ++ S = encL (n : Int) ++ (mkTxt c.m0 ++ (mkTxt c.m1 ++ (mkTxt c.m2 ++ S))) := by simp
      rw [e]
      exact ⟨by rw [e1, a0.1, a1.1, a2.1], by rw [e2, a0.2, a1.2, a2.2]⟩
theorem flags_no : ∀ m : Fin 256, ∀ x ∈ flagL m.val, x ≠ 91 ∧ x ≠ 92 := by decide +kernel
theorem hex_no : ∀ m : Fin 16, hexD m.val ≠ 91 ∧ hexD m.val ≠ 92 := by decide +kernel
theorem tagC_no (sg : UInt8) (hs : sg ≠ 91 ∧ sg ≠ 92) {k i r g b : Int} (hi : 0 ≤ i ∧ i < 256) (hr : 0 ≤ r ∧ r < 256) (hg : 0 ≤ g ∧ g < 256) (hb : 0 ≤ b ∧ b < 256) : ∀ x ∈ tagC sg k i r g b, x ≠ 91 ∧ x ≠ 92 := fun x hx => by
  have hd : ∀ n, n < 256 → ∀ x ∈ decN n, x ≠ 91 ∧ x ≠ 92 := fun n hn x hx => by
    have h := (dec_all ⟨n, hn⟩).2.2.2 x hx
    constructor <;> rintro rfl <;> simp at h
  have hh : ∀ n, n < 256 → ∀ x ∈ hexL n, x ≠ 91 ∧ x ≠ 92 := fun n hn x hx => by
    simp only [hexL, List.mem_cons, List.not_mem_nil, or_false] at hx
    rcases hx with rfl | rfl
    · exact hex_no ⟨n / 16, by omega⟩
    · exact hex_no ⟨n % 16, by omega⟩
  unfold tagC at hx
  split at hx
  · rcases List.mem_cons.1 hx with rfl | hx
    · exact hs
    · exact hd _ (by omega) x hx
  · split at hx
    · simp only [List.mem_cons, List.mem_append] at hx
      rcases hx with rfl | rfl | (hx | hx) | hx
      · exact hs
      · exact ⟨by decide, by decide⟩
      · exact hh _ (by omega) x hx
      · exact hh _ (by omega) x hx
      · exact hh _ (by omega) x hx
    · cases hx
theorem tagsL_no (c : Cell) (hb : c.Bd) : ∀ x ∈ tagsL c, x ≠ 91 ∧ x ≠ 92 ∧ x ≠ 93 := fun x hx => by
  have h93 := tagsL_no93 c hb x hx
  unfold tagsL at hx
  simp only [List.mem_append] at hx
  have : x ≠ 91 ∧ x ≠ 92 := by
    rcases hx with (hx | hx) | hx
    · exact flags_no ⟨c.flags.toNat, by have := hb.fl; omega⟩ x hx
    · exact tagC_no 43 (by decide) hb.f1 hb.f2 hb.f3 hb.f4 x hx
    · exact tagC_no 45 (by decide) hb.b1 hb.b2 hb.b3 hb.b4 x hx
  exact ⟨this.1, this.2, h93⟩
theorem cnt_in (S : List UInt8) : ∀ T : List UInt8, (∀ x ∈ T, x ≠ 91 ∧ x ≠ 92 ∧ x ≠ 93) → cnt 1 (T ++ 93 :: S) = cnt 0 S ∧ okM 1 (T ++ 93 :: S) = okM 0 S
  | [], _ => ⟨rfl, rfl⟩
  | x :: T, h => by
    have hx := h x (List.mem_cons_self ..)
    have ih := cnt_in S T (fun y hy => h y (List.mem_cons_of_mem _ hy))
    constructor
    · rw [List.cons_append, cnt, if_neg hx.2.2, ih.1]
    · have e1 : (x != 91) = true := by simpa using hx.1
      have e2 : (x != 92) = true := by simpa using hx.2.1
      rw [List.cons_append]
      show (if x = 93 then okM 0 (T ++ 93 :: S) else (x != 91 && (x != 92 && okM 1 (T ++ 93 :: S)))) = _
      rw [if_neg hx.2.2, e1, e2, ih.2]
      rfl
theorem cnt_tag {c : Cell} (hb : c.Bd) (S : List UInt8) : cnt 0 (91 :: (tagsL c ++ [93]) ++ S) = cnt 0 S ∧ okM 0 (91 :: (tagsL c ++ [93]) ++ S) = okM 0 S := by
  have e : 91 :: (tagsL c ++ [93]) ++ S = 91 :: (tagsL c ++ 93 :: S) := by simp
  rw [e]
  exact cnt_in S (tagsL c) (tagsL_no c hb)
/-- The markup of cells says as many cells. -/
theorem cnt_from {U : List Cell} (h : Good U) : (∀ c ∈ U, c.Bd) → ∀ (p : Option (List Int)) (S : List UInt8), cnt 0 (mkFrom p U ++ S) = U.length + cnt 0 S ∧ okM 0 (mkFrom p U ++ S) = okM 0 S := by
  induction h with
  | nil => intro _ p S; exact ⟨(Nat.zero_add _).symm, rfl⟩
  | one c rest hv hw h2 _ ih =>
    intro hb p S
    have hb0 := hb c (List.mem_cons_self ..)
    obtain ⟨i1, i2⟩ := ih (fun d hd => hb d (List.mem_cons_of_mem _ hd)) (some (penOf c)) S
    obtain ⟨c1, c2⟩ := cnt_cell hv hw (mkFrom (some (penOf c)) rest ++ S)
    have hw1 : c.width.toNat = 1 := by
      unfold Cell.valid at hv
      simp only [Bool.and_eq_true] at hv
      obtain ⟨_, hv⟩ := hv
      by_cases h0 : c.rune = 0
      · rw [if_pos h0] at hv
        simp only [Bool.and_eq_true, Bool.or_eq_true, beq_iff_eq] at hv; omega
      · rw [if_neg h0] at hv
        simp only [Bool.and_eq_true, decide_eq_true_eq, beq_iff_eq] at hv
        have := wOf_le c.rune
        omega
    rw [mkFrom, List.append_assoc]
    split
    · rw [List.nil_append, List.append_assoc, c1, c2, i1, i2, hw1, List.length_cons]
      exact ⟨by omega, rfl⟩
    · obtain ⟨t1, t2⟩ := cnt_tag hb0 (mkC c ++ mkFrom (some (penOf c)) rest ++ S)
      rw [t1, t2, List.append_assoc, c1, c2, i1, i2, hw1, List.length_cons]
      exact ⟨by omega, rfl⟩
  | two c rest hv h2 _ ih =>
    intro hb p S
    have hb0 := hb c (List.mem_cons_self ..)
    obtain ⟨i1, i2⟩ := ih (fun d hd => hb d (List.mem_cons_of_mem _ (List.mem_cons_of_mem _ hd))) (some (penOf c)) S
    have e : mkFrom (some (penOf c)) (c.spacer :: rest) = mkFrom (some (penOf c)) rest := by
      rw [mkFrom, if_pos (by rw [penOf_spacer]), mkC_spacer, List.nil_append, List.nil_append, penOf_spacer]
    obtain ⟨c1, c2⟩ := cnt_cell hv (by omega) (mkFrom (some (penOf c)) rest ++ S)
    have hw2 : c.width.toNat = 2 := by omega
    rw [mkFrom, List.append_assoc, e]
    split
    · rw [List.nil_append, List.append_assoc, c1, c2, i1, i2, hw2, List.length_cons, List.length_cons]
      exact ⟨by omega, rfl⟩
    · obtain ⟨t1, t2⟩ := cnt_tag hb0 (mkC c ++ mkFrom (some (penOf c)) rest ++ S)
      rw [t1, t2, List.append_assoc, c1, c2, i1, i2, hw2, List.length_cons, List.length_cons]
      exact ⟨by omega, rfl⟩
theorem cnt_mk {cs : List Cell} (h : lnOk cs = true) (hb : ∀ c ∈ cs, c.Bd) (so : Bool) : cnt 0 (mkL cs so) = usedN cs ∧ okM 0 (mkL cs so) = true := by
  obtain ⟨e1, e2⟩ := cnt_from (good_used h) (fun c hc => hb c (List.mem_of_mem_take hc)) none (if so then [92] else [])
  have hl : (cs.take (usedN cs)).length = usedN cs := by rw [List.length_take, Nat.min_eq_left (usedN_le cs)]
  unfold mkL
  rw [e1, e2, hl]
  cases so <;> exact ⟨rfl, rfl⟩
end Go.Proofs.YthcndmchlpohpaaGreatDoor

namespace Go.Proofs.YthcndmchlpohpaaGreatDoor
set_option linter.unusedVariables false
set_option linter.unusedSimpArgs false
open Go.RowKit Go.Shelf

/-- Where the reading stands behind some bytes. -/
def runM : Nat → List UInt8 → Nat
  | q, [] => q
  | 0, b :: t => if b = 91 then runM 1 t else if b = 92 then runM 2 t else runM 0 t
  | 1, b :: t => if b = 93 then runM 0 t else runM 1 t
  | _, _ :: t => runM 0 t
/-- What some bytes count, before others. -/
def cntP : Nat → List UInt8 → List UInt8 → Nat
  | _, [], _ => 0
  | 0, b :: t, R => if b = 91 then cntP 1 t R else if b = 92 then cntP 2 t R else wt b (t ++ R) + cntP 0 t R
  | 1, b :: t, R => if b = 93 then cntP 0 t R else cntP 1 t R
  | _, b :: t, R => wt b (t ++ R) + cntP 0 t R
theorem cnt_two (b : UInt8) (t : List UInt8) (q : Nat) : cnt (q + 2) (b :: t) = wt b t + cnt 0 t := rfl
theorem cnt_app : ∀ (A : List UInt8) (q : Nat) (R : List UInt8), q ≤ 2 → cnt q (A ++ R) = cntP q A R + cnt (runM q A) R
  | [], q, R, _ => by
    match q with
    | 0 => rw [cntP, runM, Nat.zero_add]; rfl
    | 1 => rw [cntP, runM, Nat.zero_add]; rfl
    | 2 => rw [cntP, runM, Nat.zero_add]; rfl
  | b :: t, 0, R, _ => by
    show (if b = 91 then cnt 1 (t ++ R) else if b = 92 then cnt 2 (t ++ R) else wt b (t ++ R) + cnt 0 (t ++ R)) = (if b = 91 then cntP 1 t R else if b = 92 then cntP 2 t R else wt b (t ++ R) + cntP 0 t R) + cnt (if b = 91 then runM 1 t else if b = 92 then runM 2 t else runM 0 t) R
    rw [cnt_app t 1 R (by omega), cnt_app t 2 R (by omega), cnt_app t 0 R (by omega)]
    split
    · rfl
    · split
      · rfl
      · omega
  | b :: t, 1, R, _ => by
    show (if b = 93 then cnt 0 (t ++ R) else cnt 1 (t ++ R)) = (if b = 93 then cntP 0 t R else cntP 1 t R) + cnt (if b = 93 then runM 0 t else runM 1 t) R
    rw [cnt_app t 1 R (by omega), cnt_app t 0 R (by omega)]
    split <;> rfl
  | b :: t, 2, R, _ => by
    show wt b (t ++ R) + cnt 0 (t ++ R) = wt b (t ++ R) + cntP 0 t R + cnt (runM 0 t) R
    rw [cnt_app t 0 R (by omega)]; omega
theorem runM_le : ∀ (A : List UInt8) (q : Nat), q ≤ 2 → runM q A ≤ 2
  | [], q, h => by
    match q, h with
    | 0, _ => exact Nat.zero_le _
    | 1, _ => exact (by decide : (1 : Nat) ≤ 2)
    | 2, _ => exact Nat.le_refl _
  | b :: t, 0, _ => by
    show (if b = 91 then runM 1 t else if b = 92 then runM 2 t else runM 0 t) ≤ 2
    split
    · exact runM_le t 1 (by omega)
    · split
      · exact runM_le t 2 (by omega)
      · exact runM_le t 0 (by omega)
  | b :: t, 1, _ => by
    show (if b = 93 then runM 0 t else runM 1 t) ≤ 2
    split
    · exact runM_le t 0 (by omega)
    · exact runM_le t 1 (by omega)
  | b :: t, 2, _ => runM_le t 0 (by omega)
theorem okM_app : ∀ (A : List UInt8) (q : Nat) (R : List UInt8), q ≤ 2 → okM q (A ++ R) = true → okM (runM q A) R = true
  | [], q, R, h, e => by
    match q, h, e with
    | 0, _, e => exact e
    | 1, _, e => exact e
    | 2, _, e => exact e
  | b :: t, 0, R, _, e => by
    replace e : (if b = 91 then okM 1 (t ++ R) else if b = 92 then okM 2 (t ++ R) else (b != 93 && okM 0 (t ++ R))) = true := e
    show okM (if b = 91 then runM 1 t else if b = 92 then runM 2 t else runM 0 t) R = true
    split
    · rename_i h; rw [if_pos h] at e; exact okM_app t 1 R (by omega) e
    · rename_i h
      rw [if_neg h] at e
      split
      · rename_i h2; rw [if_pos h2] at e; exact okM_app t 2 R (by omega) e
      · rename_i h2
        rw [if_neg h2, Bool.and_eq_true] at e
        exact okM_app t 0 R (by omega) e.2
  | b :: t, 1, R, _, e => by
    replace e : (if b = 93 then okM 0 (t ++ R) else (b != 91 && (b != 92 && okM 1 (t ++ R)))) = true := e
    show okM (if b = 93 then runM 0 t else runM 1 t) R = true
    split
    · rename_i h; rw [if_pos h] at e; exact okM_app t 0 R (by omega) e
    · rename_i h
      rw [if_neg h, Bool.and_eq_true, Bool.and_eq_true] at e
      exact okM_app t 1 R (by omega) e.2.2
  | b :: t, 2, R, _, e => okM_app t 0 R (by omega) e
theorem cntP_le : ∀ (A : List UInt8) (q : Nat) (R : List UInt8), q ≤ 2 → cntP q A R ≤ 2 * A.length
  | [], q, R, h => by
    match q, h with
    | 0, _ => exact Nat.zero_le _
    | 1, _ => exact Nat.zero_le _
    | 2, _ => exact Nat.zero_le _
  | b :: t, 0, R, _ => by
    show (if b = 91 then cntP 1 t R else if b = 92 then cntP 2 t R else wt b (t ++ R) + cntP 0 t R) ≤ 2 * (t.length + 1)
    have h0 := cntP_le t 0 R (by omega)
    have h1 := cntP_le t 1 R (by omega)
    have h2 := cntP_le t 2 R (by omega)
    have hw := wt_le b (t ++ R)
    split
    · omega
    · split <;> omega
  | b :: t, 1, R, _ => by
    show (if b = 93 then cntP 0 t R else cntP 1 t R) ≤ 2 * (t.length + 1)
    have h0 := cntP_le t 0 R (by omega)
    have h1 := cntP_le t 1 R (by omega)
    split <;> omega
  | b :: t, 2, R, _ => by
    show wt b (t ++ R) + cntP 0 t R ≤ 2 * (t.length + 1)
    have h0 := cntP_le t 0 R (by omega)
    have hw := wt_le b (t ++ R)
    omega
theorem decodeN_four (n a b c d : Nat) (h : 4 ≤ n) : Lib.decodeN n a b c d = Lib.decodeN 4 a b c d := by
  have h1 : (1 < n) = True := eq_true (by omega)
  have h2 : (2 < n) = True := eq_true (by omega)
  have h3 : (3 < n) = True := eq_true (by omega)
  have g1 : (1 < 4) = True := eq_true (by omega)
  have g2 : (2 < 4) = True := eq_true (by omega)
  have g3 : (3 < 4) = True := eq_true (by omega)
  unfold Lib.decodeN
  simp only [h1, h2, h3, g1, g2, g3]
theorem getD_app {l R : List UInt8} {k : Nat} (h : k < l.length) : (l ++ R).getD k 0 = l.getD k 0 := by
  rw [List.getD_eq_getElem?_getD, List.getElem?_append_left h, List.getD_eq_getElem?_getD]
/-- Behind four bytes the decoder looks at no more. -/
theorem wt_far (b : UInt8) (t R R' : List UInt8) (h : 3 ≤ t.length) : wt b (t ++ R) = wt b (t ++ R') := by
  have key : ∀ R, Lib.decodeL (b :: (t ++ R)) = Lib.decodeN 4 ((b :: t).getD 0 0).toNat ((b :: t).getD 1 0).toNat ((b :: t).getD 2 0).toNat ((b :: t).getD 3 0).toNat := fun R => by
    have e : b :: (t ++ R) = (b :: t) ++ R := rfl
    rw [e, Lib.decodeL_N, getD_app (by simp), getD_app (by simp; omega), getD_app (by simp; omega), getD_app (by simp; omega), decodeN_four _ _ _ _ _ (by rw [List.length_append, List.length_cons]; omega)]
  unfold wt
  rw [key R, key R']
theorem cntP_other : ∀ (A : List UInt8) (q : Nat) (R R' : List UInt8), q ≤ 2 → cntP q A R ≤ cntP q A R' + 2 * min 3 A.length
  | [], q, R, R', h => by
    match q, h with
    | 0, _ => exact Nat.zero_le _
    | 1, _ => exact Nat.zero_le _
    | 2, _ => exact Nat.zero_le _
  | b :: t, q, R, R', hq => by
    have h0 := cntP_other t 0 R R' (by omega)
    have h1 := cntP_other t 1 R R' (by omega)
    have h2 := cntP_other t 2 R R' (by omega)
    have hw : wt b (t ++ R) + 2 * min 3 t.length ≤ wt b (t ++ R') + 2 * min 3 (t.length + 1) := by
      rcases Nat.lt_or_ge t.length 3 with h | h
      · have := wt_le b (t ++ R)
        rw [Nat.min_eq_right (by omega), Nat.min_eq_right (by omega)]
        omega
      · rw [wt_far b t R R' h, Nat.min_eq_left (by omega), Nat.min_eq_left (by omega)]
        exact Nat.le_refl _
    have hm : 2 * min 3 t.length ≤ 2 * min 3 (t.length + 1) := by omega
    match q, hq with
    | 0, _ =>
      show (if b = 91 then cntP 1 t R else if b = 92 then cntP 2 t R else wt b (t ++ R) + cntP 0 t R) ≤ (if b = 91 then cntP 1 t R' else if b = 92 then cntP 2 t R' else wt b (t ++ R') + cntP 0 t R') + 2 * min 3 (t.length + 1)
      split
      · omega
      · split <;> omega
    | 1, _ =>
      show (if b = 93 then cntP 0 t R else cntP 1 t R) ≤ (if b = 93 then cntP 0 t R' else cntP 1 t R') + 2 * min 3 (t.length + 1)
      split <;> omega
    | 2, _ =>
      show wt b (t ++ R) + cntP 0 t R ≤ wt b (t ++ R') + cntP 0 t R' + 2 * min 3 (t.length + 1)
      omega
theorem no01 : ∀ C : List UInt8, okM 0 C = true → okM 1 C = true → False
  | [], _, h => by cases h
  | b :: t, h0, h1 => by
    replace h0 : (if b = 91 then okM 1 t else if b = 92 then okM 2 t else (b != 93 && okM 0 t)) = true := h0
    replace h1 : (if b = 93 then okM 0 t else (b != 91 && (b != 92 && okM 1 t))) = true := h1
    by_cases e3 : b = 93
    · subst e3; simp at h0
    · rw [if_neg e3] at h1
      simp only [Bool.and_eq_true, bne_iff_ne] at h1
      rw [if_neg h1.1, if_neg h1.2.1, Bool.and_eq_true] at h0
      exact no01 t h0.2 h1.2.2
theorem wt_92 (t : List UInt8) : wt 92 t = 1 := by
  have := wt_rune (r := 92) (by decide +kernel) (b := 92) (t := []) (by decide +kernel) t
  rw [List.nil_append] at this
  rw [this]; decide +kernel
theorem sync02 : ∀ C : List UInt8, okM 0 C = true → okM 2 C = true → cnt 0 C ≤ cnt 2 C ∧ cnt 2 C ≤ cnt 0 C + 1
  | [], _, _ => ⟨Nat.le_refl _, Nat.le_succ _⟩
  | b :: t, h0, h2 => by
    replace h0 : (if b = 91 then okM 1 t else if b = 92 then okM 2 t else (b != 93 && okM 0 t)) = true := h0
    replace h2 : okM 0 t = true := h2
    show (if b = 91 then cnt 1 t else if b = 92 then cnt 2 t else wt b t + cnt 0 t) ≤ wt b t + cnt 0 t ∧ wt b t + cnt 0 t ≤ (if b = 91 then cnt 1 t else if b = 92 then cnt 2 t else wt b t + cnt 0 t) + 1
    by_cases e1 : b = 91
    · rw [if_pos e1] at h0; exact (no01 t h2 h0).elim
    · rw [if_neg e1] at h0 ⊢
      by_cases e2 : b = 92
      · rw [if_pos e2] at h0 ⊢
        obtain ⟨i1, i2⟩ := sync02 t h2 h0
        rw [e2, wt_92]
        omega
      · rw [if_neg e2] at ⊢
        omega
theorem sync : ∀ (C : List UInt8) (q q' : Nat), q ≤ 2 → q' ≤ 2 → okM q C = true → okM q' C = true → cnt q C ≤ cnt q' C + 2
  | C, q, q', h, h', e, e' => by
    have w12 : okM 1 C = true → okM 2 C = true → cnt 1 C ≤ cnt 2 C + 2 ∧ cnt 2 C ≤ cnt 1 C + 2 := fun a b => by
      cases C with
      | nil => cases a
      | cons x t =>
        replace a : (if x = 93 then okM 0 t else (x != 91 && (x != 92 && okM 1 t))) = true := a
        replace b : okM 0 t = true := b
        show (if x = 93 then cnt 0 t else cnt 1 t) ≤ wt x t + cnt 0 t + 2 ∧ wt x t + cnt 0 t ≤ (if x = 93 then cnt 0 t else cnt 1 t) + 2
        have hw := wt_le x t
        by_cases e3 : x = 93
        · rw [if_pos e3]; omega
        · rw [if_neg e3] at a
          simp only [Bool.and_eq_true] at a
          exact (no01 t b a.2.2).elim
    rcases (show q = 0 ∨ q = 1 ∨ q = 2 by omega) with rfl | rfl | rfl <;> rcases (show q' = 0 ∨ q' = 1 ∨ q' = 2 by omega) with rfl | rfl | rfl
    · omega
    · exact (no01 C e e').elim
    · have := sync02 C e e'; omega
    · exact (no01 C e' e).elim
    · omega
    · exact (w12 e e').1
    · have := sync02 C e' e; omega
    · exact (w12 e' e).2
    · omega
/-- Other bytes in a good text: at most 8 and two a byte more, if it is good again. -/
theorem cnt_turned (A B M C : List UInt8) (h : okM 0 (A ++ (B ++ C)) = true) (h' : okM 0 (A ++ (M ++ C)) = true) : cnt 0 (A ++ (M ++ C)) ≤ cnt 0 (A ++ (B ++ C)) + 2 * M.length + 8 := by
  have q1 := runM_le A 0 (by omega)
  have q2 := runM_le M (runM 0 A) q1
  have q3 := runM_le B (runM 0 A) q1
  rw [cnt_app A 0 _ (by omega), cnt_app M _ _ q1, cnt_app A 0 _ (by omega), cnt_app B _ _ q1]
  have k1 := okM_app A 0 _ (by omega) h
  have k2 := okM_app A 0 _ (by omega) h'
  have k3 := okM_app B _ _ q1 k1
  have k4 := okM_app M _ _ q1 k2
  have s := sync C _ _ q2 q3 k4 k3
  have p := cntP_other A 0 (M ++ C) (B ++ C) (by omega)
  have m := cntP_le M (runM 0 A) C q1
  have hm : min 3 A.length ≤ 3 := Nat.min_le_left _ _
  omega
end Go.Proofs.YthcndmchlpohpaaGreatDoor

namespace Go.Proofs.YthcndmchlpohpaaGreatDoor
set_option linter.unusedVariables false
set_option linter.unusedSimpArgs false
open Go.RowKit Go.Shelf

theorem usedTo_app (X Y : List Cell) : ∀ n, n ≤ X.length → usedTo (X ++ Y) n = usedTo X n
  | 0, _ => rfl
  | n + 1, h => by rw [usedTo, usedTo, List.getElem?_append_left (by omega), usedTo_app X Y n (by omega)]
theorem usedN_blanks (X : List Cell) (k : Nat) : usedN (X ++ List.replicate k blankC) = usedN X := by
  have h := usedTo_blanks X k
  unfold usedN
  rw [List.length_append, List.length_replicate, h, usedTo_app X _ _ (Nat.le_refl _)]
theorem mkL_blanks (X : List Cell) (k : Nat) (so : Bool) : mkL (X ++ List.replicate k blankC) so = mkL X so := by
  unfold mkL
  rw [usedN_blanks, List.take_append_of_le_length (usedN_le X)]
theorem usedN_take (cs : List Cell) : usedN (cs.take (usedN cs)) = usedN cs := by
  have key : ∀ n, n ≤ cs.length → usedTo cs n = n → usedTo (cs.take n) n = n := fun n hn h => by
    have := usedTo_app (cs.take n) (cs.drop n) n (by rw [List.length_take]; omega)
    rw [List.take_append_drop] at this
    rw [← this, h]
  have hu : ∀ n, n ≤ cs.length → usedTo cs (usedTo cs n) = usedTo cs n := by
    intro n
    induction n with
    | zero => intro _; rfl
    | succ n ih =>
      intro hn
      by_cases hb : cs[n]? = some blankC
      · rw [usedTo_blank hb]; exact ih (by omega)
      · rw [usedTo_not hb, usedTo_not hb]
  have h1 := usedN_le cs
  have h2 := key (usedN cs) h1 (hu cs.length (Nat.le_refl _))
  have h1' : usedTo cs cs.length ≤ cs.length := h1
  unfold usedN at h2 ⊢
  rw [List.length_take, Nat.min_eq_left h1']
  exact h2
theorem mkL_take (cs : List Cell) (so : Bool) : mkL (cs.take (usedN cs)) so = mkL cs so := by
  unfold mkL
  rw [usedN_take, List.take_take, Nat.min_self]
/-- A line that there may be, with blank cells behind it. -/
theorem lnOk_blanks {X : List Cell} {k : Nat} (h : lnOk X = true) (hk : X.length + k ≤ 1000) : lnOk (X ++ List.replicate k blankC) = true := by
  unfold lnOk at h ⊢
  simp only [Bool.and_eq_true] at h
  have hr : ∀ j, j < X.length → rowBad X j = false := fun j hj => by
    have := h.2
    unfold rowOk at this
    rw [List.all_eq_true] at this
    simpa using this j (List.mem_range.2 hj)
  rw [Bool.and_eq_true]
  refine ⟨decide_eq_true (by rw [List.length_append, List.length_replicate]; exact hk), rowOk_all fun j hj => ?_⟩
  have hwide : ∀ j c, X[j]? = some c → j + 1 = X.length → c.width ≠ 2 := fun j c hc hl hw => by
    have hj := (List.getElem?_eq_some_iff.1 hc).1
    have := hr j hj
    unfold rowBad at this
    rw [hc] at this
    simp [cellBad, hw, hl] at this
  rcases Nat.lt_or_ge j X.length with hjx | hjx
  · have hb := hr j hjx
    have hc : X[j]? = some X[j] := List.getElem?_eq_getElem hjx
    have hc2 : (X ++ List.replicate k blankC)[j]? = some X[j] := by rw [List.getElem?_append_left hjx, hc]
    have hbe : behindAt (X ++ List.replicate k blankC) j = behindAt X j := by
      cases j with
      | zero => rfl
      | succ m => show (match (X ++ List.replicate k blankC)[m]? with | some p => p.width == 2 | none => false) = (match X[m]? with | some p => p.width == 2 | none => false); rw [List.getElem?_append_left (by omega)]
    have hpe : penAt (X ++ List.replicate k blankC) j = penAt X j := by
      cases j with
      | zero => rfl
      | succ m => show (match (X ++ List.replicate k blankC)[m]?, (X ++ List.replicate k blankC)[m + 1]? with | some p, some c => !penEq c p | _, _ => false) = (match X[m]?, X[m + 1]? with | some p, some c => !penEq c p | _, _ => false); rw [List.getElem?_append_left (by omega), List.getElem?_append_left hjx]
    unfold rowBad at hb ⊢
    rw [hc] at hb
    rw [hc2, hbe, hpe]
    simp only [cellBad, Bool.or_eq_false_iff, Bool.and_eq_false_iff, beq_eq_false_iff_ne] at hb ⊢
    refine ⟨hb.1, ?_⟩
    rcases hb.2 with e | e
    · exact .inl e
    · by_cases hl : j + 1 = X.length
      · exact absurd hl e
      · rw [List.length_append, List.length_replicate]
        by_cases hw : X[j].width = 2
        · refine .inr ?_
          intro e2
          have h1 : k = 0 ∨ 0 < k := Nat.eq_zero_or_pos k
          omega
        · exact .inl hw
  · have hc2 : (X ++ List.replicate k blankC)[j]? = some blankC := by
      rw [List.getElem?_append_right hjx]
      rw [List.length_append, List.length_replicate] at hj
      exact List.getElem?_replicate_of_lt (by omega)
    have hbe : behindAt (X ++ List.replicate k blankC) j = false := by
      cases j with
      | zero => rfl
      | succ m =>
        show (match (X ++ List.replicate k blankC)[m]? with | some p => p.width == 2 | none => false) = false
        rcases Nat.lt_or_ge m X.length with hm | hm
        · have hcm : X[m]? = some X[m] := List.getElem?_eq_getElem hm
          rw [List.getElem?_append_left hm, hcm]
          have := hwide m _ hcm (by omega)
          simpa using this
        · rw [List.getElem?_append_right hm]
          rw [List.length_append, List.length_replicate] at hj
          rw [List.getElem?_replicate_of_lt (by omega)]
          rfl
    rw [bad_here hbe hc2]
    have hv : blankC.valid = true := by decide
    rw [hv]
    simp [blankC]
theorem lnOk_len {cs : List Cell} (h : lnOk cs = true) : cs.length ≤ 1000 := by unfold lnOk at h; simp at h; exact h.1
/-- The used cells of a line that there may be are such a line. -/
theorem lnOk_used {cs : List Cell} (h : lnOk cs = true) : lnOk (cs.take (usedN cs)) = true := by
  have hl := lnOk_len h
  unfold lnOk at h ⊢
  simp only [Bool.and_eq_true] at h ⊢
  have hr : ∀ j, j < cs.length → rowBad cs j = false := fun j hj => by
    have := h.2
    unfold rowOk at this
    rw [List.all_eq_true] at this
    simpa using this j (List.mem_range.2 hj)
  have hU := usedN_le cs
  have hln : (cs.take (usedN cs)).length = usedN cs := by rw [List.length_take, Nat.min_eq_left hU]
  refine ⟨decide_eq_true (by omega), rowOk_all fun j hj => ?_⟩
  rw [hln] at hj
  have hc : cs[j]? = some cs[j] := List.getElem?_eq_getElem (by omega)
  have hc2 : (cs.take (usedN cs))[j]? = some cs[j] := by rw [List.getElem?_take, if_pos hj, hc]
  have hb := hr j (by omega)
  have hbe : behindAt (cs.take (usedN cs)) j = behindAt cs j := by
    cases j with
    | zero => rfl
    | succ m => show (match (cs.take (usedN cs))[m]? with | some p => p.width == 2 | none => false) = (match cs[m]? with | some p => p.width == 2 | none => false); rw [List.getElem?_take, if_pos (by omega)]
  have hpe : penAt (cs.take (usedN cs)) j = penAt cs j := by
    cases j with
    | zero => rfl
    | succ m => show (match (cs.take (usedN cs))[m]?, (cs.take (usedN cs))[m + 1]? with | some p, some c => !penEq c p | _, _ => false) = (match cs[m]?, cs[m + 1]? with | some p, some c => !penEq c p | _, _ => false); rw [List.getElem?_take, if_pos (by omega), List.getElem?_take, if_pos hj]
  have hlast : ∀ c, cs[j]? = some c → c.width = 2 → j + 1 ≠ usedN cs := fun c hcc hw e => by
    rcases Nat.lt_or_ge (j + 1) cs.length with h1 | h1
    · obtain ⟨d, hd⟩ : ∃ d, cs[j + 1]? = some d := ⟨_, List.getElem?_eq_getElem h1⟩
      have hs : d = c.spacer := by
        rcases Decidable.em (d = c.spacer) with e2 | e2
        · exact e2
        · have := bad_next hcc hd hw e2
          rw [hr _ h1] at this; cases this
      rw [e] at hd
      have e3 := usedN_at hd
      rw [hs] at e3
      have e4 := congrArg Cell.width e3
      cases e4
    · have hbb := hr j (by omega)
      unfold rowBad at hbb
      rw [hcc] at hbb
      have h2 := (List.getElem?_eq_some_iff.1 hcc).1
      have h3 : j + 1 = cs.length := by omega
      simp [cellBad, hw, h3] at hbb
  unfold rowBad at hb ⊢
  rw [hc] at hb
  rw [hc2, hbe, hpe, hln]
  simp only [cellBad, Bool.or_eq_false_iff, Bool.and_eq_false_iff, beq_eq_false_iff_ne] at hb ⊢
  refine ⟨hb.1, ?_⟩
  by_cases hw : cs[j].width = 2
  · exact .inr (hlast _ hc hw)
  · exact .inl hw
theorem blank_bd : blankC.Bd := by constructor <;> decide
theorem bd_pad {X : List Cell} (h : ∀ c ∈ X, c.Bd) (k : Nat) : ∀ c ∈ X ++ List.replicate k blankC, c.Bd := fun c hc => by
  rcases List.mem_append.1 hc with hc | hc
  · exact h c hc
  · rw [List.eq_of_mem_replicate hc]; exact blank_bd
theorem mkL_len (cs : List Cell) (so : Bool) : (mkL cs so).length ≤ cs.length * 43 + 1 := by
  unfold mkL
  have h1 := mkFrom_len none (cs.take (usedN cs))
  have h2 : (cs.take (usedN cs)).length ≤ cs.length := by rw [List.length_take]; omega
  rw [List.length_append]
  split
  · simp only [List.length_singleton]; omega
  · simp only [List.length_nil]; omega
/-- What Line says of the markup of a line. -/
theorem line_mk {cs : List Cell} (h : lnOk cs = true) (hb : ∀ c ∈ cs, c.Bd) (so : Bool) (N : Int) :
    lineB (mkL cs so) N = if N < 0 ∨ 1000 < N then ([], false, 2) else if N < usedN cs then ([], false, 3) else (cs.take (usedN cs) ++ List.replicate (N.toNat - usedN cs) blankC, so, 0) := by
  have hl := lnOk_len h
  have hm := mkL_len cs so
  have hln : (cs.take (usedN cs)).length = usedN cs := by rw [List.length_take, Nat.min_eq_left (usedN_le cs)]
  unfold lineB
  rw [read_mk h hb so]
  simp only
  by_cases h1 : N < 0 ∨ 1000 < N
  · rw [if_pos h1, if_pos h1]
  · rw [if_neg h1, if_neg h1, if_neg (by omega), if_neg (by simp), if_neg (by rw [lnOk_used h, mkL_take]; simp), hln]
/-- Blank cells behind the used ones: the whole line again. -/
theorem used_blank {cs : List Cell} : ∀ j, usedN cs ≤ j → ∀ c, cs[j]? = some c → c = blankC := by
  have key : ∀ n, n ≤ cs.length → ∀ j, usedTo cs n ≤ j → j < n → cs[j]? = some blankC := by
    intro n
    induction n with
    | zero => intro _ j _ h; omega
    | succ n ih =>
      intro hn j h1 h2
      by_cases hb : cs[n]? = some blankC
      · rw [usedTo_blank hb] at h1
        rcases Nat.lt_or_eq_of_le (Nat.le_of_lt_succ h2) with h3 | h3
        · exact ih (by omega) j h1 h3
        · rw [h3]; exact hb
      · rw [usedTo_not hb] at h1; omega
  intro j hj c hc
  have h := key cs.length (Nat.le_refl _) j hj (List.getElem?_eq_some_iff.1 hc).1
  rw [hc] at h
  exact Option.some.inj h
theorem used_pad (cs : List Cell) (N : Nat) (hN : cs.length ≤ N) : cs.take (usedN cs) ++ List.replicate (N - usedN cs) blankC = cs ++ List.replicate (N - cs.length) blankC := by
  have hU := usedN_le cs
  apply List.ext_getElem?
  intro j
  have hln : (cs.take (usedN cs)).length = usedN cs := by rw [List.length_take, Nat.min_eq_left hU]
  rcases Nat.lt_or_ge j (usedN cs) with h1 | h1
  · rw [List.getElem?_append_left (by omega), List.getElem?_append_left (by omega), List.getElem?_take, if_pos h1]
  · rw [List.getElem?_append_right (by omega), hln]
    rcases Nat.lt_or_ge j cs.length with h2 | h2
    · rw [List.getElem?_append_left h2, List.getElem?_replicate_of_lt (by omega)]
      have hc : cs[j]? = some cs[j] := List.getElem?_eq_getElem h2
      rw [hc, used_blank j h1 _ hc]
    · rw [List.getElem?_append_right h2]
      rcases Nat.lt_or_ge j N with h3 | h3
      · rw [List.getElem?_replicate_of_lt (by omega), List.getElem?_replicate_of_lt (by omega)]
      · rw [List.getElem?_eq_none (by rw [List.length_replicate]; omega), List.getElem?_eq_none (by rw [List.length_replicate]; omega)]
theorem used_all (cs : List Cell) : cs.take (usedN cs) ++ List.replicate (cs.length - usedN cs) blankC = cs := by
  have := used_pad cs cs.length (Nat.le_refl _)
  rwa [Nat.sub_self, List.replicate_zero, List.append_nil] at this
/-- What Line says of any text: nothing, or a line of which it is the markup. -/
theorem line_good {l : List UInt8} {N : Int} (h : (lineB l N).2.2 = 0) : lnOk (lineB l N).1 = true ∧ mkL (lineB l N).1 (lineB l N).2.1 = l ∧ (lineB l N).1.length = N.toNat ∧ ∀ c ∈ (lineB l N).1, c.Bd := by
  have hbd := readB_bd l
  unfold lineB at h ⊢
  split at h
  · cases h
  · rename_i h1
    rw [if_neg h1]
    split at h
    · cases h
    · rename_i h2
      rw [if_neg h2]
      split at h
      · cases h
      · rename_i h3
        rw [if_neg h3]
        split at h
        · cases h
        · rename_i h4
          rw [if_neg h4]
          split at h
          · cases h
          · rename_i h5
            rw [if_neg h5]
            simp only [Decidable.not_not] at h4
            refine ⟨lnOk_blanks h4.1 (by omega), by rw [mkL_blanks]; exact h4.2, by simp only [List.length_append, List.length_replicate]; omega, bd_pad hbd _⟩
/-- What Line says of a markup with other bytes at one place. -/
theorem line_turned {cs : List Cell} (h : lnOk cs = true) (hb : ∀ c ∈ cs, c.Bd) (hn : cs.length ≤ 40) (so : Bool) (A B M C : List UInt8) (hs : mkL cs so = A ++ (B ++ C)) (hM : M.length ≤ 20) :
    (lineB (A ++ (M ++ C)) 200).2.2 ≠ 0 → lineB (A ++ (M ++ C)) 200 = ([], false, 6) ∧ A ++ (M ++ C) ≠ mkL cs so := by
  intro he
  have hl := mkL_len cs so
  have hlen : (A ++ (M ++ C)).length ≤ 2000 := by
    have : (mkL cs so).length = A.length + (B.length + C.length) := by rw [hs, List.length_append, List.length_append]
    rw [List.length_append, List.length_append]; omega
  refine ⟨?_, fun e => ?_⟩
  · have hbd := readB_bd (A ++ (M ++ C))
    unfold lineB at he ⊢
    rw [if_neg (by omega), if_neg (by omega)] at he ⊢
    by_cases h3 : (readB (A ++ (M ++ C))).2.2 = false
    · rw [if_pos h3]
    · rw [if_neg h3] at he ⊢
      by_cases h4 : lnOk (readB (A ++ (M ++ C))).1 = true ∧ mkL (readB (A ++ (M ++ C))).1 (readB (A ++ (M ++ C))).2.1 = A ++ (M ++ C)
      · rw [if_neg (by simpa using h4)] at he ⊢
        obtain ⟨k1, k2⟩ := h4
        have hx := congrArg Prod.fst (read_mk k1 hbd (readB (A ++ (M ++ C))).2.1)
        rw [k2] at hx
        simp only at hx
        have hxl : (readB (A ++ (M ++ C))).1.length ≤ usedN (readB (A ++ (M ++ C))).1 := by
          have := congrArg List.length hx
          rw [List.length_take] at this
          omega
        obtain ⟨c1, c2⟩ := cnt_mk k1 hbd (readB (A ++ (M ++ C))).2.1
        rw [k2] at c1 c2
        obtain ⟨d1, d2⟩ := cnt_mk h hb so
        rw [hs] at d1 d2
        have ht := cnt_turned A B M C d2 c2
        have hu := usedN_le cs
        rw [if_neg (by omega)] at he
        exact absurd rfl he
      · rw [if_pos h4]
  · rw [e] at he
    have hu := usedN_le cs
    rw [line_mk h hb so 200, if_neg (by omega), if_neg (by omega)] at he
    exact he rfl
end Go.Proofs.YthcndmchlpohpaaGreatDoor
