/- How many cells a text with other bytes may say (48), in plain Lean. No condition. -/
import Derived.Test.YthcndmchlpohpaaGreatDoorMlC
namespace Go.Proofs.YthcndmchlpohpaaGreatDoor
set_option linter.unusedVariables false
set_option linter.unusedSimpArgs false
open Go.RowKit Go.Shelf

/-- How many columns the rune that begins here has; none within a rune. -/
def wt (b : UInt8) (t : List UInt8) : Nat := if 128 ≤ b.toNat ∧ b.toNat < 192 then 0 else (wOf ((Lib.decodeL (b :: t)).1 : Int)).toNat
/-- Cells that a text says, read outside of tags (0), in them (1), behind a backslash (2). -/
def cnt : Nat → List UInt8 → Nat
  | _, [] => 0
  | 0, b :: t => if b = 91 then cnt 1 t else if b = 92 then cnt 2 t else wt b t + cnt 0 t
  | 1, b :: t => if b = 93 then cnt 0 t else cnt 1 t
  | _, b :: t => wt b t + cnt 0 t
/-- May a text be a markup, by its brackets? -/
def okM : Nat → List UInt8 → Bool
  | 1, [] => false
  | _, [] => true
  | 0, b :: t => if b = 91 then okM 1 t else if b = 92 then okM 2 t else (b != 93 && okM 0 t)
  | 1, b :: t => if b = 93 then okM 0 t else (b != 91 && (b != 92 && okM 1 t))
  | _, b :: t => okM 0 t
theorem wOf_le (r : Int) : wOf r ≤ 2 := by rcases wOf_ways r with h | h | h | h <;> rw [h] <;> decide
theorem wt_le (b : UInt8) (t : List UInt8) : wt b t ≤ 2 := by
  unfold wt
  split
  · omega
  · have := wOf_le ((Lib.decodeL (b :: t)).1 : Int)
    omega
theorem wt_rune {r : Nat} (hr : wOf (r : Int) ≠ -1) {b : UInt8} {t : List UInt8} (hb : encL (r : Int) = b :: t) (S : List UInt8) : wt b (t ++ S) = (wOf (r : Int)).toNat := by
  have hv : r < 55296 ∨ (57344 ≤ r ∧ r ≤ 1114111) := by have := wOf_prn hr; omega
  obtain ⟨b', t', e, h1, h2, _⟩ := encL_head r hv
  rw [hb] at e
  obtain ⟨rfl, rfl⟩ := List.cons.inj e
  have hd := dec_encL r hv S
  rw [hb, List.cons_append] at hd
  unfold wt
  rw [hd, if_neg]
  rcases Nat.lt_or_ge r 128 with h | h
  · have := (h1 h).1; omega
  · have := h2 h; omega
theorem cnt_cont : ∀ (t S : List UInt8), (∀ x ∈ t, 128 ≤ x.toNat ∧ x.toNat < 192) → cnt 0 (t ++ S) = cnt 0 S ∧ okM 0 (t ++ S) = okM 0 S
  | [], _, _ => ⟨rfl, rfl⟩
  | x :: t, S, h => by
    have hx := h x (List.mem_cons_self ..)
    have ih := cnt_cont t S (fun y hy => h y (List.mem_cons_of_mem _ hy))
    have n1 : x ≠ 91 := by rintro rfl; simp at hx
    have n2 : x ≠ 92 := by rintro rfl; simp at hx
    have n3 : x ≠ 93 := by rintro rfl; simp at hx
    constructor
    · rw [List.cons_append, cnt, if_neg n1, if_neg n2, ih.1]
      unfold wt
      rw [if_pos hx, Nat.zero_add]
    · rw [List.cons_append, okM, if_neg n1, if_neg n2, ih.2]
      simp [n3]
/-- A rune's bytes outside of tags, and behind a backslash. -/
theorem cnt_rune {r : Nat} (hr : wOf (r : Int) ≠ -1) (he : escB (r : Int) = false) (S : List UInt8) : cnt 0 (encL (r : Int) ++ S) = (wOf (r : Int)).toNat + cnt 0 S ∧ okM 0 (encL (r : Int) ++ S) = okM 0 S := by
  have hv : r < 55296 ∨ (57344 ≤ r ∧ r ≤ 1114111) := by have := wOf_prn hr; omega
  obtain ⟨b, t, hb, h1, h2, h3⟩ := encL_head r hv
  have hn : b ≠ 91 ∧ b ≠ 92 ∧ b ≠ 93 := by
    unfold escB at he
    simp only [Bool.or_eq_false_iff, beq_eq_false_iff_ne] at he
    rcases Nat.lt_or_ge r 128 with h | h
    · have := (h1 h).1
      refine ⟨?_, ?_, ?_⟩ <;> rintro rfl <;> simp at this <;> omega
    · have := h2 h
      refine ⟨?_, ?_, ?_⟩ <;> rintro rfl <;> simp at this
  have hw := wt_rune hr hb S
  obtain ⟨c1, c2⟩ := cnt_cont t S h3
  rw [hb, List.cons_append]
  constructor
  · rw [cnt, if_neg hn.1, if_neg hn.2.1, hw, c1]
  · rw [okM, if_neg hn.1, if_neg hn.2.1, c2]
    simp [hn.2.2]
theorem esc_small {r : Nat} (he : escB (r : Int) = true) : r < 128 ∧ (wOf (r : Int)).toNat = 1 := by
  unfold escB at he
  simp only [Bool.or_eq_true, beq_iff_eq] at he
  rcases (show r = 92 ∨ r = 91 ∨ r = 93 ∨ r = 95 by omega) with rfl | rfl | rfl | rfl <;> exact ⟨by omega, by decide +kernel⟩
theorem cnt_esc {r : Nat} (he : escB (r : Int) = true) (S : List UInt8) : cnt 0 (92 :: (encL (r : Int) ++ S)) = (wOf (r : Int)).toNat + cnt 0 S ∧ okM 0 (92 :: (encL (r : Int) ++ S)) = okM 0 S := by
  obtain ⟨h, hw⟩ := esc_small he
  have hr : wOf (r : Int) ≠ -1 := fun e => by rw [e] at hw; cases hw
  obtain ⟨b, t, hb, h1, _, _⟩ := encL_head r (by omega)
  obtain ⟨_, rfl⟩ := h1 h
  have hwt := wt_rune hr hb S
  rw [hb]
  constructor
  · show cnt 2 (b :: S) = _
    rw [cnt, ← hwt]
    · rfl
    · intro e; cases e
    · intro e; cases e
  · rfl
theorem cnt_mark {m : Int} (hm : m ≠ 0 → wOf m = 0) (S : List UInt8) : cnt 0 (mkTxt m ++ S) = cnt 0 S ∧ okM 0 (mkTxt m ++ S) = okM 0 S := by
  unfold mkTxt
  by_cases h : m = 0
  · rw [if_pos h]; exact ⟨rfl, rfl⟩
  · rw [if_neg h]
    obtain ⟨n, rfl, _, _⟩ := wOf_nat (r := m) (by rw [hm h]; decide)
    have hb := mark_big (hm h)
    have he : escB (n : Int) = false := by
      unfold escB
      simp only [Bool.or_eq_false_iff, beq_eq_false_iff_ne]
      omega
    have := cnt_rune (r := n) (by rw [hm h]; decide) he S
    rwa [hm h, Int.toNat_zero, Nat.zero_add] at this
set_option maxRecDepth 100000 in
theorem cnt_cell {c : Cell} (hv : c.valid = true) (hw : c.width ≠ 0) (S : List UInt8) : cnt 0 (mkC c ++ S) = c.width.toNat + cnt 0 S ∧ okM 0 (mkC c ++ S) = okM 0 S := by
  unfold Cell.valid at hv
  simp only [Bool.and_eq_true] at hv
  obtain ⟨_, hv⟩ := hv
  unfold mkC Cell.txt
  by_cases h0 : c.rune = 0
  · rw [if_pos h0] at hv
    simp only [Bool.and_eq_true, Bool.or_eq_true, beq_iff_eq] at hv
    have h1 : c.width = 1 := by omega
    rw [if_pos ⟨by omega, h0⟩, h1]
    have : wt 95 S = 1 := by
      have := wt_rune (r := 95) (by decide +kernel) (b := 95) (t := []) (by decide +kernel) S
      rw [List.nil_append] at this
      rw [this]; decide +kernel
    constructor
    · show wt 95 S + cnt 0 S = _
      rw [this]; rfl
    · rfl
  · rw [if_neg h0] at hv
    simp only [Bool.and_eq_true, decide_eq_true_eq, beq_iff_eq] at hv
    obtain ⟨hm, hpos, hwd⟩ := hv
    rw [if_neg (fun h => h0 h.2), if_neg hw, if_neg h0]
    obtain ⟨n, hn, _, _⟩ := wOf_nat (r := c.rune) (by omega)
    simp only [mkOk, mkBad, Bool.and_eq_true, Bool.not_eq_true', Bool.and_eq_false_iff, Bool.or_eq_false_iff, bne_eq_false_iff_eq, decide_eq_false_iff_not, beq_eq_false_iff_ne] at hm
    obtain ⟨⟨k0, k1⟩, k2⟩ := hm
    have hm0 : c.m0 ≠ 0 → wOf c.m0 = 0 := fun h => by rcases k0 with e | e; exact absurd e h; exact e.1
    have hm1 : c.m1 ≠ 0 → wOf c.m1 = 0 := fun h => by rcases k1 with e | e; exact absurd e h; exact e.1
    have hm2 : c.m2 ≠ 0 → wOf c.m2 = 0 := fun h => by rcases k2 with e | e; exact absurd e h; exact e.1
    have a0 := cnt_mark hm0 (mkTxt c.m1 ++ (mkTxt c.m2 ++ S))
    have a1 := cnt_mark hm1 (mkTxt c.m2 ++ S)
    have a2 := cnt_mark hm2 S
    have hr : wOf c.rune ≠ -1 := by omega
    rw [hn] at hwd hr ⊢
    rw [hwd]
    cases he : escB (n : Int) with
    | true =>
      obtain ⟨e1, e2⟩ := cnt_esc he (mkTxt c.m0 ++ (mkTxt c.m1 ++ (mkTxt c.m2 ++ S)))
      rw [if_pos rfl]
      have e : (92 :: (encL (n : Int) ++ mkTxt c.m0 ++ mkTxt c.m1 ++ mkTxt c.m2)) ++ S = 92 :: (encL (n : Int) ++ (mkTxt c.m0 ++ (mkTxt c.m1 ++ (mkTxt c.m2 ++ S)))) := by simp
      rw [e]
      exact ⟨by rw [e1, a0.1, a1.1, a2.1], by rw [e2, a0.2, a1.2, a2.2]⟩
    | false =>
      obtain ⟨e1, e2⟩ := cnt_rune hr he (mkTxt c.m0 ++ (mkTxt c.m1 ++ (mkTxt c.m2 ++ S)))
      rw [if_neg (by simp)]
      have e : (encL (n : Int) ++ mkTxt c.m0 ++ mkTxt c.m1 ++ mkTxt c.m2) ++ S = encL (n : Int) ++ (mkTxt c.m0 ++ (mkTxt c.m1 ++ (mkTxt c.m2 ++ S))) := by simp
      rw [e]
      exact ⟨by rw [e1, a0.1, a1.1, a2.1], by rw [e2, a0.2, a1.2, a2.2]⟩
theorem flags_no : ∀ m : Fin 256, ∀ x ∈ flagL m.val, x ≠ 91 ∧ x ≠ 92 := by decide +kernel
theorem hex_no : ∀ m : Fin 16, hexD m.val ≠ 91 ∧ hexD m.val ≠ 92 := by decide +kernel
theorem tagC_no (sg : UInt8) (hs : sg ≠ 91 ∧ sg ≠ 92) {k i r g b : Int} (hi : 0 ≤ i ∧ i < 256) (hr : 0 ≤ r ∧ r < 256) (hg : 0 ≤ g ∧ g < 256) (hb : 0 ≤ b ∧ b < 256) : ∀ x ∈ tagC sg k i r g b, x ≠ 91 ∧ x ≠ 92 := fun x hx => by
  have hd : ∀ n, n < 256 → ∀ x ∈ decN n, x ≠ 91 ∧ x ≠ 92 := fun n hn x hx => by
    have h := (dec_all ⟨n, hn⟩).2.2.2 x hx
    constructor <;> rintro rfl <;> simp at h
  have hh : ∀ n, n < 256 → ∀ x ∈ hexL n, x ≠ 91 ∧ x ≠ 92 := fun n hn x hx => by
    simp only [hexL, List.mem_cons, List.not_mem_nil, or_false] at hx
    rcases hx with rfl | rfl
    · exact hex_no ⟨n / 16, by omega⟩
    · exact hex_no ⟨n % 16, by omega⟩
  unfold tagC at hx
  split at hx
  · rcases List.mem_cons.1 hx with rfl | hx
    · exact hs
    · exact hd _ (by omega) x hx
  · split at hx
    · simp only [List.mem_cons, List.mem_append] at hx
      rcases hx with rfl | rfl | (hx | hx) | hx
      · exact hs
      · exact ⟨by decide, by decide⟩
      · exact hh _ (by omega) x hx
      · exact hh _ (by omega) x hx
      · exact hh _ (by omega) x hx
    · cases hx
theorem tagsL_no (c : Cell) (hb : c.Bd) : ∀ x ∈ tagsL c, x ≠ 91 ∧ x ≠ 92 ∧ x ≠ 93 := fun x hx => by
  have h93 := tagsL_no93 c hb x hx
  unfold tagsL at hx
  simp only [List.mem_append] at hx
  have : x ≠ 91 ∧ x ≠ 92 := by
    rcases hx with (hx | hx) | hx
    · exact flags_no ⟨c.flags.toNat, by have := hb.fl; omega⟩ x hx
    · exact tagC_no 43 (by decide) hb.f1 hb.f2 hb.f3 hb.f4 x hx
    · exact tagC_no 45 (by decide) hb.b1 hb.b2 hb.b3 hb.b4 x hx
  exact ⟨this.1, this.2, h93⟩
theorem cnt_in (S : List UInt8) : ∀ T : List UInt8, (∀ x ∈ T, x ≠ 91 ∧ x ≠ 92 ∧ x ≠ 93) → cnt 1 (T ++ 93 :: S) = cnt 0 S ∧ okM 1 (T ++ 93 :: S) = okM 0 S
  | [], _ => ⟨rfl, rfl⟩
  | x :: T, h => by
    have hx := h x (List.mem_cons_self ..)
    have ih := cnt_in S T (fun y hy => h y (List.mem_cons_of_mem _ hy))
    constructor
    · rw [List.cons_append, cnt, if_neg hx.2.2, ih.1]
    · have e1 : (x != 91) = true := by simpa using hx.1
      have e2 : (x != 92) = true := by simpa using hx.2.1
      rw [List.cons_append]
      show (if x = 93 then okM 0 (T ++ 93 :: S) else (x != 91 && (x != 92 && okM 1 (T ++ 93 :: S)))) = _
      rw [if_neg hx.2.2, e1, e2, ih.2]
      rfl
theorem cnt_tag {c : Cell} (hb : c.Bd) (S : List UInt8) : cnt 0 (91 :: (tagsL c ++ [93]) ++ S) = cnt 0 S ∧ okM 0 (91 :: (tagsL c ++ [93]) ++ S) = okM 0 S := by
  have e : 91 :: (tagsL c ++ [93]) ++ S = 91 :: (tagsL c ++ 93 :: S) := by simp
  rw [e]
  exact cnt_in S (tagsL c) (tagsL_no c hb)
/-- The markup of cells says as many cells. -/
theorem cnt_from {U : List Cell} (h : Good U) : (∀ c ∈ U, c.Bd) → ∀ (p : Option (List Int)) (S : List UInt8), cnt 0 (mkFrom p U ++ S) = U.length + cnt 0 S ∧ okM 0 (mkFrom p U ++ S) = okM 0 S := by
  induction h with
  | nil => intro _ p S; exact ⟨(Nat.zero_add _).symm, rfl⟩
  | one c rest hv hw h2 _ ih =>
    intro hb p S
    have hb0 := hb c (List.mem_cons_self ..)
    obtain ⟨i1, i2⟩ := ih (fun d hd => hb d (List.mem_cons_of_mem _ hd)) (some (penOf c)) S
    obtain ⟨c1, c2⟩ := cnt_cell hv hw (mkFrom (some (penOf c)) rest ++ S)
    have hw1 : c.width.toNat = 1 := by
      unfold Cell.valid at hv
      simp only [Bool.and_eq_true] at hv
      obtain ⟨_, hv⟩ := hv
      by_cases h0 : c.rune = 0
      · rw [if_pos h0] at hv
        simp only [Bool.and_eq_true, Bool.or_eq_true, beq_iff_eq] at hv; omega
      · rw [if_neg h0] at hv
        simp only [Bool.and_eq_true, decide_eq_true_eq, beq_iff_eq] at hv
        have := wOf_le c.rune
        omega
    rw [mkFrom, List.append_assoc]
    split
    · rw [List.nil_append, List.append_assoc, c1, c2, i1, i2, hw1, List.length_cons]
      exact ⟨by omega, rfl⟩
    · obtain ⟨t1, t2⟩ := cnt_tag hb0 (mkC c ++ mkFrom (some (penOf c)) rest ++ S)
      rw [t1, t2, List.append_assoc, c1, c2, i1, i2, hw1, List.length_cons]
      exact ⟨by omega, rfl⟩
  | two c rest hv h2 _ ih =>
    intro hb p S
    have hb0 := hb c (List.mem_cons_self ..)
    obtain ⟨i1, i2⟩ := ih (fun d hd => hb d (List.mem_cons_of_mem _ (List.mem_cons_of_mem _ hd))) (some (penOf c)) S
    have e : mkFrom (some (penOf c)) (c.spacer :: rest) = mkFrom (some (penOf c)) rest := by
      rw [mkFrom, if_pos (by rw [penOf_spacer]), mkC_spacer, List.nil_append, List.nil_append, penOf_spacer]
    obtain ⟨c1, c2⟩ := cnt_cell hv (by omega) (mkFrom (some (penOf c)) rest ++ S)
    have hw2 : c.width.toNat = 2 := by omega
    rw [mkFrom, List.append_assoc, e]
    split
    · rw [List.nil_append, List.append_assoc, c1, c2, i1, i2, hw2, List.length_cons, List.length_cons]
      exact ⟨by omega, rfl⟩
    · obtain ⟨t1, t2⟩ := cnt_tag hb0 (mkC c ++ mkFrom (some (penOf c)) rest ++ S)
      rw [t1, t2, List.append_assoc, c1, c2, i1, i2, hw2, List.length_cons, List.length_cons]
      exact ⟨by omega, rfl⟩
theorem cnt_mk {cs : List Cell} (h : lnOk cs = true) (hb : ∀ c ∈ cs, c.Bd) (so : Bool) : cnt 0 (mkL cs so) = usedN cs ∧ okM 0 (mkL cs so) = true := by
  obtain ⟨e1, e2⟩ := cnt_from (good_used h) (fun c hc => hb c (List.mem_of_mem_take hc)) none (if so then [92] else [])
  have hl : (cs.take (usedN cs)).length = usedN cs := by rw [List.length_take, Nat.min_eq_left (usedN_le cs)]
  unfold mkL
  rw [e1, e2, hl]
  cases so <;> exact ⟨rfl, rfl⟩
end Go.Proofs.YthcndmchlpohpaaGreatDoor
