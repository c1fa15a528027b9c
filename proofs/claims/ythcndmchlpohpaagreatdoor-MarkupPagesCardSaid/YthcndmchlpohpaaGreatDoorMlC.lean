/- What a markup says, read again (48), in plain Lean. The markup of a line, read again, is the line (48), in plain Lean. The cells that a markup says: how many, and what pens they have (48), in plain Lean; what Line answers. No condition. -/
import Derived.Test.YthcndmchlpohpaaGreatDoorMkU
import Derived.Laws.Cover4
import Derived.Stop.FmtQuoteTie
namespace Go.Proofs.YthcndmchlpohpaaGreatDoor
set_option linter.unusedVariables false
set_option linter.unusedSimpArgs false
open Go.RowKit Go.Shelf
open Go.Extern.FmtText (enc1 enc2 enc3 enc4)

theorem b_nat (n : Nat) (h : n < 256) : (UInt8.ofNat n).toNat = n := by simp; omega
set_option maxRecDepth 100000 in
theorem dec_encL (r : Nat) (hv : r < 55296 ∨ (57344 ≤ r ∧ r ≤ 1114111)) (t : List UInt8) : Lib.decodeL (encL (r : Int) ++ t) = (r, (encL (r : Int)).length) := by
  unfold encL
  rw [Lib.decodeL_N]
  have hval : Utf8.valid (r : Int) = true := by simp [Utf8.valid]; omega
  by_cases c1 : r < 128
  · rw [enc1 r c1]
    simp only [List.cons_append, List.nil_append, List.getD_cons_zero, List.length_cons, List.length_nil]
    rw [b_nat r (by omega)]
    unfold Lib.decodeN
    simp [c1]
  by_cases c2 : r < 2048
  · rw [enc2 r c1 c2]
    simp only [List.cons_append, List.nil_append, List.getD_cons_zero, List.getD_cons_succ, List.length_cons, List.length_nil]
    rw [b_nat (192 + r / 64) (by omega), b_nat (128 + r % 64) (by omega)]
    unfold Lib.decodeN
    have e1 : ¬ (192 + r / 64 < 128) := by omega
    have e2 : (192 + r / 64) / 32 = 6 := by omega
    have e3 : (128 + r % 64) / 64 = 2 := by omega
    have e4 : (192 + r / 64) % 32 * 64 + (128 + r % 64) % 64 = r := by omega
    have e5 : (192 + r / 64) % 32 * 64 + (128 + r) % 64 = r := by omega
    have e6 : 128 ≤ r := by omega
    simp [e1, e2, e3, e5, e6]
  by_cases c3 : r < 65536
  · rw [enc3 r c2 c3 (by omega)]
    simp only [List.cons_append, List.nil_append, List.getD_cons_zero, List.getD_cons_succ, List.length_cons, List.length_nil]
    rw [b_nat (224 + r / 4096) (by omega), b_nat (128 + r / 64 % 64) (by omega), b_nat (128 + r % 64) (by omega)]
    unfold Lib.decodeN
    have e1 : ¬ (224 + r / 4096 < 128) := by omega
    have e2 : ¬ ((224 + r / 4096) / 32 = 6) := by omega
    have e3 : (224 + r / 4096) / 16 = 14 := by omega
    have e4 : (128 + r / 64 % 64) / 64 = 2 := by omega
    have e5 : (128 + r % 64) / 64 = 2 := by omega
    have e6 : (224 + r / 4096) % 16 * 4096 + (128 + r / 64 % 64) % 64 * 64 + (128 + r % 64) % 64 = r := by omega
    have e7 : (224 + r / 4096) % 16 * 4096 + (128 + r / 64) % 64 * 64 + (128 + r) % 64 = r := by omega
    have e8 : 2048 ≤ r := by omega
    simp [e1, e2, e3, e4, e5, e7, e8]
    omega
  · rw [enc4 r c3 (by omega)]
    simp only [List.cons_append, List.nil_append, List.getD_cons_zero, List.getD_cons_succ, List.length_cons, List.length_nil]
    rw [b_nat (240 + r / 262144) (by omega), b_nat (128 + r / 4096 % 64) (by omega), b_nat (128 + r / 64 % 64) (by omega), b_nat (128 + r % 64) (by omega)]
    unfold Lib.decodeN
    have e1 : ¬ (240 + r / 262144 < 128) := by omega
    have e2 : ¬ ((240 + r / 262144) / 32 = 6) := by omega
    have e3 : ¬ ((240 + r / 262144) / 16 = 14) := by omega
    have e4 : (240 + r / 262144) / 8 = 30 := by omega
    have e5 : (128 + r / 4096 % 64) / 64 = 2 := by omega
    have e6 : (128 + r / 64 % 64) / 64 = 2 := by omega
    have e7 : (128 + r % 64) / 64 = 2 := by omega
    have e8 : (240 + r / 262144) % 8 * 262144 + (128 + r / 4096 % 64) % 64 * 4096 + (128 + r / 64 % 64) % 64 * 64 + (128 + r % 64) % 64 = r := by omega
    have e9 : (240 + r / 262144) % 8 * 262144 + (128 + r / 4096) % 64 * 4096 + (128 + r / 64) % 64 * 64 + (128 + r) % 64 = r := by omega
    have e10 : 65536 ≤ r := by omega
    simp [e1, e2, e3, e4, e5, e6, e7, e9, e10]
    omega
set_option maxRecDepth 100000 in
/-- The bytes of a rune: the first one tells whether there are more; the others are above 127. -/
theorem encL_head (r : Nat) (hv : r < 55296 ∨ (57344 ≤ r ∧ r ≤ 1114111)) : ∃ b t, encL (r : Int) = b :: t ∧ (r < 128 → b.toNat = r ∧ t = []) ∧ (128 ≤ r → 192 ≤ b.toNat) ∧ ∀ x ∈ t, 128 ≤ x.toNat ∧ x.toNat < 192 := by
  unfold encL
  by_cases c1 : r < 128
  · exact ⟨_, _, enc1 r c1, fun _ => ⟨b_nat r (by omega), rfl⟩, fun h => by omega, by simp⟩
  by_cases c2 : r < 2048
  · refine ⟨_, _, enc2 r c1 c2, fun h => by omega, fun h => by rw [b_nat _ (by omega)]; omega, ?_⟩
    intro x hx
    simp only [List.mem_cons, List.not_mem_nil, or_false] at hx
    rw [hx, b_nat _ (by omega)]; omega
  by_cases c3 : r < 65536
  · refine ⟨_, _, enc3 r c2 c3 (by omega), fun h => by omega, fun h => by rw [b_nat _ (by omega)]; omega, ?_⟩
    intro x hx
    simp only [List.mem_cons, List.not_mem_nil, or_false] at hx
    rcases hx with hx | hx <;> rw [hx, b_nat _ (by omega)] <;> omega
  · refine ⟨_, _, enc4 r c3 (by omega), fun h => by omega, fun h => by rw [b_nat _ (by omega)]; omega, ?_⟩
    intro x hx
    simp only [List.mem_cons, List.not_mem_nil, or_false] at hx
    rcases hx with hx | hx | hx <;> rw [hx, b_nat _ (by omega)] <;> omega
theorem wOf_prn {r : Int} (h : wOf r ≠ -1) : 32 ≤ r ∧ (r < 127 ∨ 160 ≤ r) ∧ (r < 55296 ∨ 57344 ≤ r) ∧ r ≤ 1114111 := by
  unfold wOf at h
  by_cases hp : prn r = true
  · simp [prn] at hp; omega
  · rw [if_neg hp] at h; exact absurd rfl h
theorem wOf_nat {r : Int} (h : wOf r ≠ -1) : ∃ n : Nat, r = n ∧ 32 ≤ n ∧ (n < 55296 ∨ (57344 ≤ n ∧ n ≤ 1114111)) := ⟨r.toNat, by have := wOf_prn h; omega, by have := wOf_prn h; omega, by have := wOf_prn h; omega⟩
theorem wOf_ascii : ∀ m : Fin 128, wOf ((m.val : Nat) : Int) ≠ 0 := by decide +kernel
theorem mark_big {m : Nat} (h : wOf (m : Int) = 0) : 128 ≤ m := by
  rcases Nat.lt_or_ge m 128 with h1 | h1
  · exact absurd h (wOf_ascii ⟨m, h1⟩)
  · exact h1
/-- What is read does not hang on the fuel. -/
def rd (l : List UInt8) (cs : List Cell) (q : Cell) : List Cell × Bool × Bool := readF l.length l cs q
theorem readF_fuel : ∀ (n m : Nat) (l : List UInt8) (cs : List Cell) (q : Cell), l.length ≤ n → l.length ≤ m → readF n l cs q = readF m l cs q
  | 0, m, l, cs, q, h, _ => by
    have : l = [] := List.eq_nil_of_length_eq_zero (by omega)
    subst this
    cases m <;> rfl
  | n + 1, m, [], cs, q, _, _ => by cases m <;> rfl
  | n + 1, 0, c :: t, cs, q, _, h => by simp at h
  | n + 1, m + 1, c :: t, cs, q, h, h' => by
    have ih := readF_fuel n m
    have h1 : t.length ≤ n := by simpa using h
    have h2 : t.length ≤ m := by simpa using h'
    rw [readF_cons, readF_cons]
    unfold readStep
    split
    · rfl
    · split
      · split
        · have := (cut_len t 93).1
          exact ih _ _ _ (by omega) (by omega)
        · rfl
      · split
        · exact ih _ _ _ h1 h2
        · cases putB cs ((Lib.decodeGo (strL (if c = 92 then t else c :: t))).1 : Int) q with
          | none => rfl
          | some ds =>
            rename_i g1 g2 g3
            have hne : (if c = 92 then t else c :: t) ≠ [] := by
              split
              · rename_i h; exact fun e => g1 ⟨h, e⟩
              · simp
            have hd := decGo_width _ hne
            have hle : (if c = 92 then t else c :: t).length ≤ t.length + 1 := by split <;> simp
            exact ih _ _ _ (by rw [List.length_drop]; omega) (by rw [List.length_drop]; omega)
theorem rd_nil (cs : List Cell) (q : Cell) : rd [] cs q = (cs, false, true) := rfl
theorem rd_cons (c : UInt8) (t : List UInt8) (cs : List Cell) (q : Cell) : rd (c :: t) cs q = readStep rd c t cs q := by
  unfold rd
  rw [List.length_cons, readF_cons]
  unfold readStep
  split
  · rfl
  · split
    · split
      · have := (cut_len t 93).1
        exact readF_fuel _ _ _ _ _ (by omega) (Nat.le_refl _)
      · rfl
    · split
      · rfl
      · cases putB cs ((Lib.decodeGo (strL (if c = 92 then t else c :: t))).1 : Int) q with
        | none => rfl
        | some ds =>
          rename_i g1 g2 g3
          have hne : (if c = 92 then t else c :: t) ≠ [] := by
            split
            · rename_i h; exact fun e => g1 ⟨h, e⟩
            · simp
          have hd := decGo_width _ hne
          have hle : (if c = 92 then t else c :: t).length ≤ t.length + 1 := by split <;> simp
          exact readF_fuel _ _ _ _ _ (by rw [List.length_drop]; omega) (Nat.le_refl _)
theorem readB_rd (l : List UInt8) : readB l = rd l [] zeroM := rfl
theorem rd_soft (cs : List Cell) (q : Cell) : rd [92] cs q = (cs, true, true) := by rw [rd_cons]; unfold readStep; rw [if_pos ⟨rfl, rfl⟩]
theorem rd_blank (S : List UInt8) (cs : List Cell) (q : Cell) : rd (95 :: S) cs q = rd S (cs ++ [q.blankP]) q := by
  rw [rd_cons]; unfold readStep
  rw [if_neg (by rintro ⟨h, _⟩; cases h), if_neg (by decide), if_pos rfl]
theorem decGo_encL (r : Nat) (hv : r < 55296 ∨ (57344 ≤ r ∧ r ≤ 1114111)) (t : List UInt8) : Lib.decodeGo (strL (encL (r : Int) ++ t)) = (r, (encL (r : Int)).length) := by
  have hl := encode_len (r : Int)
  unfold Lib.decodeGo
  rw [if_neg (by rw [strL_size, List.length_append]; omega), ← Lib.decodeL_drop, List.drop_zero, strL_list, dec_encL r hv]
set_option maxRecDepth 100000 in
/-- A rune is read. -/
theorem rd_rune (r : Nat) (hr : wOf (r : Int) ≠ -1) (S : List UInt8) (cs : List Cell) (q : Cell) :
    rd ((if escB (r : Int) then [92] else []) ++ (encL (r : Int) ++ S)) cs q = match putB cs (r : Int) q with | none => (cs, false, false) | some ds => rd S ds q := by
  have hv : r < 55296 ∨ (57344 ≤ r ∧ r ≤ 1114111) := by have := wOf_prn hr; omega
  obtain ⟨b, t, hb, hb1, hb2, _⟩ := encL_head r hv
  have hdg := decGo_encL r hv S
  have hdr : (encL (r : Int) ++ S).drop (encL (r : Int)).length = S := by simp
  cases he : escB (r : Int) with
  | true =>
    rw [if_pos rfl, List.singleton_append, rd_cons]; unfold readStep
    rw [if_neg (by rintro ⟨_, h⟩; rw [hb] at h; cases h), if_neg (by decide), if_neg (by decide), if_pos rfl, hdg]
    simp only
    rw [hdr]
    cases putB cs (r : Int) q <;> rfl
  | false =>
    rw [if_neg (by simp), List.nil_append]
    have hne : b ≠ 92 ∧ b ≠ 91 ∧ b ≠ 95 := by
      rcases Nat.lt_or_ge r 128 with h | h
      · obtain ⟨e1, _⟩ := hb1 h
        unfold escB at he
        simp only [Bool.or_eq_false_iff, beq_eq_false_iff_ne] at he
        refine ⟨?_, ?_, ?_⟩ <;> rintro rfl <;> simp at e1 <;> omega
      · have := hb2 h
        refine ⟨?_, ?_, ?_⟩ <;> rintro rfl <;> simp at this
    have e : encL (r : Int) ++ S = b :: (t ++ S) := by rw [hb]; rfl
    rw [e, rd_cons]; unfold readStep
    rw [if_neg (by rintro ⟨h, _⟩; exact hne.1 h), if_neg hne.2.1, if_neg hne.2.2, if_neg hne.1, ← e, hdg]
    simp only
    rw [hdr]
    cases putB cs (r : Int) q <;> rfl
/-- A mark is put on the last cell, be it narrow or wide. -/
theorem putB_mark (cs : List Cell) (c : Cell) (m : Int) (q : Cell) (hm : wOf m = 0) (he : markE c m = 0) (hw : c.width ≠ 0) (sp : List Cell) (hs : sp = [] ∨ ∃ d, sp = [d] ∧ d.width = 0) :
    putB (cs ++ c :: sp) m q = some (cs ++ markC c m :: sp) := by
  have hi : putI (cs ++ c :: sp) = cs.length := by
    unfold putI
    rcases hs with rfl | ⟨d, rfl, hd⟩
    · have e : (cs ++ [c])[(cs ++ [c]).length - 1]? = some c := by simp
      rw [e, if_neg (by rintro ⟨_, h⟩; simp at h; exact hw h)]
      simp
    · have e : (cs ++ [c, d])[(cs ++ [c, d]).length - 1]? = some d := by simp
      rw [e, if_pos ⟨by simp, by simp [hd]⟩]
      simp
  unfold putB
  rw [if_neg (by rw [hm]; decide), hi]
  have e : (cs ++ c :: sp)[cs.length]? = some c := by simp
  rw [e]
  simp only
  rw [if_pos he]
  simp
theorem rd_mark (m : Int) (hm : m ≠ 0 → wOf m = 0) (c c' : Cell) (h0 : m = 0 → c' = c) (h1 : m ≠ 0 → markE c m = 0 ∧ markC c m = c') (hw : c.width ≠ 0) (cs : List Cell) (q : Cell) (sp : List Cell) (hs : sp = [] ∨ ∃ d, sp = [d] ∧ d.width = 0) (S : List UInt8) :
    rd (mkTxt m ++ S) (cs ++ c :: sp) q = rd S (cs ++ c' :: sp) q := by
  unfold mkTxt
  by_cases h : m = 0
  · rw [if_pos h, h0 h]; rfl
  · rw [if_neg h]
    obtain ⟨n, rfl, _, _⟩ := wOf_nat (r := m) (by rw [hm h]; decide)
    have hb := mark_big (hm h)
    have he : escB (n : Int) = false := by
      unfold escB
      simp only [Bool.or_eq_false_iff, beq_eq_false_iff_ne]
      omega
    have := rd_rune n (by rw [hm h]; decide) S (cs ++ c :: sp) q
    rw [he, if_neg (by simp), List.nil_append, putB_mark cs c n q (hm h) (h1 h).1 hw sp hs, (h1 h).2] at this
    exact this
/-- A cell behind its pen is read. -/
def cellSp (c : Cell) : List Cell := if c.width = 2 then [c.spacer] else []
theorem penOf_eq {c d : Cell} (h : penOf c = penOf d) : c.f0 = d.f0 ∧ c.f1 = d.f1 ∧ c.f2 = d.f2 ∧ c.f3 = d.f3 ∧ c.f4 = d.f4 ∧ c.b0 = d.b0 ∧ c.b1 = d.b1 ∧ c.b2 = d.b2 ∧ c.b3 = d.b3 ∧ c.b4 = d.b4 ∧ c.flags = d.flags := by
  simpa [penOf] using h
set_option maxRecDepth 100000 in
theorem rd_cell (c : Cell) (hv : c.valid = true) (hw : c.width ≠ 0) (q : Cell) (hp : penOf q = penOf c) (cs : List Cell) (S : List UInt8) : rd (mkC c ++ S) cs q = rd S (cs ++ c :: cellSp c) q := by
  have hpo := valid_pOk hv
  obtain ⟨rune, m0, m1, m2, wd, f0, f1, f2, f3, f4, b0, b1, b2, b3, b4, fl⟩ := c
  obtain ⟨p1, p2, p3, p4, p5, p6, p7, p8, p9, p10, p11⟩ := penOf_eq hp
  simp only at p1 p2 p3 p4 p5 p6 p7 p8 p9 p10 p11 hw
  unfold Cell.valid at hv
  simp only [Bool.and_eq_true] at hv
  obtain ⟨hpen, hv⟩ := hv
  unfold mkC Cell.txt
  simp only
  by_cases h0 : rune = 0
  · rw [if_pos h0] at hv
    simp only [Bool.and_eq_true, Bool.or_eq_true, beq_iff_eq, eq3] at hv
    obtain ⟨h1, ⟨e0, e1⟩, e2⟩ := hv
    obtain rfl : wd = 1 := by omega
    subst h0 e0 e1 e2
    rw [if_pos ⟨by decide, rfl⟩]
    show rd (95 :: S) cs q = _
    rw [rd_blank]
    unfold Cell.blankP cellSp
    rw [p1, p2, p3, p4, p5, p6, p7, p8, p9, p10, p11]
    rfl
  · rw [if_neg h0] at hv
    simp only [Bool.and_eq_true, decide_eq_true_eq, beq_iff_eq] at hv
    obtain ⟨hm, hpos, hwd⟩ := hv
    rw [if_neg (fun h => h0 h.2), if_neg hw, if_neg h0]
    obtain ⟨n, rfl, _, _⟩ := wOf_nat (r := rune) (by omega)
    have hwne : wOf (n : Int) ≠ -1 := by omega
    simp only [mkOk, mkBad, Bool.and_eq_true, Bool.not_eq_true', Bool.and_eq_false_iff, Bool.or_eq_false_iff, bne_eq_false_iff_eq, decide_eq_false_iff_not, beq_eq_false_iff_ne] at hm
    obtain ⟨⟨k0, k1⟩, k2⟩ := hm
    have hm0 : m0 ≠ 0 → wOf m0 = 0 := fun h => by rcases k0 with e | e; exact absurd e h; exact e.1
    have hm1 : m1 ≠ 0 → wOf m1 = 0 ∧ m0 ≠ 0 := fun h => by
      rcases k1 with e | e
      · exact absurd e h
      · exact ⟨e.1, e.2.resolve_left (by decide)⟩
    have hm2 : m2 ≠ 0 → wOf m2 = 0 ∧ m1 ≠ 0 := fun h => by
      rcases k2 with e | e
      · exact absurd e h
      · exact ⟨e.1, e.2.resolve_left (by decide)⟩
    have hesc : (if escB (n : Int) = true then 92 :: (encL (n : Int) ++ mkTxt m0 ++ mkTxt m1 ++ mkTxt m2) else encL (n : Int) ++ mkTxt m0 ++ mkTxt m1 ++ mkTxt m2) ++ S = (if escB (n : Int) then [92] else []) ++ (encL (n : Int) ++ (mkTxt m0 ++ (mkTxt m1 ++ (mkTxt m2 ++ S)))) := by
      split <;> simp
    rw [hesc, rd_rune n hwne]
    have hput : putB cs (n : Int) q = some (cs ++ ofL (n : Int) q) := by
      unfold putB
      rw [if_pos (by omega), if_pos]
      unfold ofOk Cell.pOk
      rw [p1, p2, p3, p4, p5, p6, p7, p8, p9, p10, hpen, decide_eq_true (by omega)]
      rfl
    rw [hput]
    simp only
    have hof : ofL (n : Int) q = (⟨n, 0, 0, 0, wd, f0, f1, f2, f3, f4, b0, b1, b2, b3, b4, fl⟩ : Cell) :: cellSp ⟨n, m0, m1, m2, wd, f0, f1, f2, f3, f4, b0, b1, b2, b3, b4, fl⟩ := by
      unfold ofL ofC cellSp Cell.spacer
      simp only [p1, p2, p3, p4, p5, p6, p7, p8, p9, p10, p11, ← hwd]
    rw [hof]
    have hsp : cellSp ⟨n, m0, m1, m2, wd, f0, f1, f2, f3, f4, b0, b1, b2, b3, b4, fl⟩ = [] ∨ ∃ d, cellSp ⟨n, m0, m1, m2, wd, f0, f1, f2, f3, f4, b0, b1, b2, b3, b4, fl⟩ = [d] ∧ d.width = 0 := by
      unfold cellSp
      split
      · exact .inr ⟨_, rfl, rfl⟩
      · exact .inl rfl
    have hval : ∀ a b : Int, (a ≠ 0 → wOf a = 0) → (b ≠ 0 → wOf b = 0 ∧ a ≠ 0) → (⟨n, a, b, 0, wd, f0, f1, f2, f3, f4, b0, b1, b2, b3, b4, fl⟩ : Cell).valid = true := fun a b ha hb => by
      unfold Cell.valid
      simp only
      rw [if_neg h0, hpen]
      have q0 : mkBad 0 0 a = false := by
        by_cases h : a = 0
        · exact bad_zero h
        · simp [mkBad, ha h]
      have q1 : mkBad 1 a b = false := by
        by_cases h : b = 0
        · exact bad_zero h
        · simp [mkBad, (hb h).1, (hb h).2]
      simp [mkOk, q0, q1, bad_zero, hwd]
      omega
    rw [rd_mark m0 hm0 _ ⟨n, m0, 0, 0, wd, f0, f1, f2, f3, f4, b0, b1, b2, b3, b4, fl⟩ (fun h => by rw [h]) (fun h => ⟨by
        unfold markE
        rw [if_neg (by rw [hval 0 0 (fun h => absurd rfl h) (fun h => absurd rfl h), hm0 h]; simp), if_neg h0, if_pos (.inl rfl)], rfl⟩) hw cs q _ hsp]
    rw [rd_mark m1 (fun h => (hm1 h).1) _ ⟨n, m0, m1, 0, wd, f0, f1, f2, f3, f4, b0, b1, b2, b3, b4, fl⟩ (fun h => by rw [h]) (fun h => ⟨by
        unfold markE
        rw [if_neg (by rw [hval m0 0 hm0 (fun h => absurd rfl h), (hm1 h).1]; simp), if_neg h0, if_pos (.inr (.inl rfl))], by
        unfold markC
        rw [if_neg (hm1 h).2, if_pos rfl]⟩) hw cs q _ hsp]
    rw [rd_mark m2 (fun h => (hm2 h).1) _ ⟨n, m0, m1, m2, wd, f0, f1, f2, f3, f4, b0, b1, b2, b3, b4, fl⟩ (fun h => by rw [h]) (fun h => ⟨by
        unfold markE
        rw [if_neg (by rw [hval m0 m1 hm0 hm1, (hm2 h).1]; simp), if_neg h0, if_pos (.inr (.inr rfl))], by
        unfold markC
        rw [if_neg (hm1 (hm2 h).2).2, if_neg (hm2 h).2]⟩) hw cs q _ hsp]
end Go.Proofs.YthcndmchlpohpaaGreatDoor

namespace Go.Proofs.YthcndmchlpohpaaGreatDoor
set_option linter.unusedVariables false
set_option linter.unusedSimpArgs false
open Go.RowKit Go.Shelf

/-- Tags, read with enough fuel. -/
def td (l : List UInt8) (f b : Co) (fl : Int) : Cell := taggedF l.length l f b fl
theorem taggedF_cons (n : Nat) (c : UInt8) (t : List UInt8) (f b : Co) (fl : Int) : taggedF (n + 1) (c :: t) f b fl = if c = 43 then taggedF n (coloredB t).2 (coloredB t).1 b (flagOr fl c) else if c = 45 then taggedF n (coloredB t).2 f (coloredB t).1 (flagOr fl c) else taggedF n t f b (flagOr fl c) := rfl
theorem taggedF_fuel : ∀ (n m : Nat) (l : List UInt8) (f b : Co) (fl : Int), l.length ≤ n → l.length ≤ m → taggedF n l f b fl = taggedF m l f b fl
  | 0, m, l, f, b, fl, h, _ => by
    have : l = [] := List.eq_nil_of_length_eq_zero (by omega)
    subst this
    cases m <;> rfl
  | n + 1, m, [], f, b, fl, _, _ => by cases m <;> rfl
  | n + 1, 0, c :: t, f, b, fl, _, h => by simp at h
  | n + 1, m + 1, c :: t, f, b, fl, h, h' => by
    have ih := taggedF_fuel n m
    have h1 : t.length ≤ n := by simpa using h
    have h2 : t.length ≤ m := by simpa using h'
    have hc := coloredB_len t
    rw [taggedF_cons, taggedF_cons, ih _ _ _ _ (by omega) (by omega), ih _ _ _ _ (by omega) (by omega), ih _ _ _ _ h1 h2]
theorem td_cons (c : UInt8) (t : List UInt8) (f b : Co) (fl : Int) : td (c :: t) f b fl = if c = 43 then td (coloredB t).2 (coloredB t).1 b (flagOr fl c) else if c = 45 then td (coloredB t).2 f (coloredB t).1 (flagOr fl c) else td t f b (flagOr fl c) := by
  have hc := coloredB_len t
  unfold td
  rw [List.length_cons, taggedF_cons, taggedF_fuel t.length _ (coloredB t).2 _ _ _ hc (Nat.le_refl _), taggedF_fuel t.length _ (coloredB t).2 _ _ _ hc (Nat.le_refl _)]
theorem td_letters (R : List UInt8) (f b : Co) : ∀ (L : List UInt8) (fl : Int), (∀ x ∈ L, x ≠ 43 ∧ x ≠ 45) → td (L ++ R) f b fl = td R f b (L.foldl flagOr fl)
  | [], _, _ => rfl
  | c :: L, fl, h => by
    rw [List.cons_append, td_cons, if_neg (h c (List.mem_cons_self ..)).1, if_neg (h c (List.mem_cons_self ..)).2, td_letters R f b L _ (fun x hx => h x (List.mem_cons_of_mem _ hx))]
    rfl
theorem flags_all : ∀ m : Fin 256, (flagL m.val).foldl flagOr 0 = ((m.val : Nat) : Int) ∧ ∀ x ∈ flagL m.val, x ≠ 43 ∧ x ≠ 45 ∧ x ≠ 93 := by decide +kernel
theorem dec_all : ∀ m : Fin 256, (Lib.atoi (decN m.val)).getD 0 % 256 = ((m.val : Nat) : Int) ∧ (decN m.val).length ≤ 3 ∧ (decN m.val).length ≠ 0 ∧ ∀ x ∈ decN m.val, 48 ≤ x.toNat ∧ x.toNat ≤ 57 := by decide +kernel
theorem hex_all : ∀ m : Fin 16, hexQ (hexD m.val) = m.val ∧ hexD m.val ≠ 93 := by decide +kernel
theorem digK_none : ∀ (f : Nat) (R : List UInt8), (∀ x, R.head? = some x → ¬ (48 ≤ x.toNat ∧ x.toNat ≤ 57)) → digK f R = 0
  | 0, R, _ => by cases R <;> rfl
  | f + 1, [], _ => rfl
  | f + 1, c :: R, h => by rw [digK, if_neg (h c rfl)]
theorem digK_app : ∀ (L : List UInt8) (f : Nat) (R : List UInt8), (∀ x ∈ L, 48 ≤ x.toNat ∧ x.toNat ≤ 57) → L.length ≤ f → (∀ x, R.head? = some x → ¬ (48 ≤ x.toNat ∧ x.toNat ≤ 57)) → digK f (L ++ R) = L.length
  | [], f, R, _, _, h => digK_none f R h
  | c :: L, 0, R, _, h, _ => by simp at h
  | c :: L, f + 1, R, hd, hl, h => by
    rw [List.cons_append, digK, if_pos (hd c (List.mem_cons_self ..)), digK_app L f R (fun x hx => hd x (List.mem_cons_of_mem _ hx)) (by simpa using hl) h]
    rfl
theorem colored_dec (n : Nat) (hn : n < 256) (R : List UInt8) (h : ∀ x, R.head? = some x → ¬ (48 ≤ x.toNat ∧ x.toNat ≤ 57)) : coloredB (decN n ++ R) = (⟨1, n, 0, 0, 0⟩, R) := by
  obtain ⟨h1, h2, h3, h4⟩ := dec_all ⟨n, hn⟩
  simp only at h1 h2 h3 h4
  have hk := digK_app (decN n) 3 R h4 h2 h
  unfold coloredB
  rw [if_neg, hk, List.take_left' rfl, List.drop_left' rfl, h1]
  rintro ⟨e, _⟩
  cases hd : decN n with
  | nil => exact h3 (by rw [hd]; rfl)
  | cons x t =>
    rw [hd] at e
    have hx : x = 35 := by simpa using e
    have := h4 x (by rw [hd]; exact List.mem_cons_self ..)
    rw [hx] at this
    simp at this
theorem colored_hex (r g b : Nat) (hr : r < 256) (hg : g < 256) (hb : b < 256) (R : List UInt8) : coloredB (35 :: (hexL r ++ hexL g ++ hexL b) ++ R) = (⟨2, 0, r, g, b⟩, R) := by
  have q : ∀ k, k < 16 → hexQ (hexD k) = k := fun k hk => (hex_all ⟨k, hk⟩).1
  have e : 35 :: (hexL r ++ hexL g ++ hexL b) ++ R = 35 :: hexD (r / 16) :: hexD (r % 16) :: hexD (g / 16) :: hexD (g % 16) :: hexD (b / 16) :: hexD (b % 16) :: R := rfl
  rw [e]
  unfold coloredB
  rw [if_pos ⟨rfl, by simp⟩]
  have hx : hexN (35 :: hexD (r / 16) :: hexD (r % 16) :: hexD (g / 16) :: hexD (g % 16) :: hexD (b / 16) :: hexD (b % 16) :: R).tail = r * 65536 + g * 256 + b := by
    unfold hexN
    simp only [List.tail_cons, List.take_succ_cons, List.take_zero, hexF]
    rw [q _ (by omega), q _ (by omega), q _ (by omega), q _ (by omega), q _ (by omega), q _ (by omega), if_pos (by omega), if_pos (by omega), if_pos (by omega), if_pos (by omega), if_pos (by omega), if_pos (by omega)]
    simp only [Option.getD_some]
    omega
  rw [hx]
  have e1 : (r * 65536 + g * 256 + b) / 65536 % 256 = r := by omega
  have e2 : (r * 65536 + g * 256 + b) / 256 % 256 = g := by omega
  have e3 : (r * 65536 + g * 256 + b) % 256 = b := by omega
  rw [e1, e2, e3]
  rfl
/-- The five numbers of a color that there may be. -/
theorem color_ways {k i r g b : Int} (h : vColor k i r g b = true) : (k = 0 ∧ i = 0 ∧ r = 0 ∧ g = 0 ∧ b = 0) ∨ (k = 1 ∧ r = 0 ∧ g = 0 ∧ b = 0) ∨ (k = 2 ∧ i = 0) := by
  unfold vColor at h
  split at h
  · simp [eq5] at h; omega
  · split at h
    · simp [eq5] at h; omega
    · split at h
      · simp [eq5] at h; omega
      · cases h
theorem colored_tag {sg : UInt8} {k i r g b : Int} (h : vColor k i r g b = true) (hi : 0 ≤ i ∧ i < 256) (hr : 0 ≤ r ∧ r < 256) (hg : 0 ≤ g ∧ g < 256) (hb : 0 ≤ b ∧ b < 256) (R : List UInt8) (hR : ∀ x, R.head? = some x → ¬ (48 ≤ x.toNat ∧ x.toNat ≤ 57)) :
    (tagC sg k i r g b = [] ∧ (⟨k, i, r, g, b⟩ : Co) = zeroCo) ∨ ∃ T, tagC sg k i r g b = sg :: T ∧ coloredB (T ++ R) = (⟨k, i, r, g, b⟩, R) := by
  rcases color_ways h with ⟨rfl, rfl, rfl, rfl, rfl⟩ | ⟨rfl, rfl, rfl, rfl⟩ | ⟨rfl, rfl⟩
  · exact .inl ⟨rfl, rfl⟩
  · refine .inr ⟨decN i.toNat, rfl, ?_⟩
    rw [colored_dec i.toNat (by omega) R hR, Int.toNat_of_nonneg hi.1]
  · refine .inr ⟨35 :: (hexL r.toNat ++ hexL g.toNat ++ hexL b.toNat), rfl, ?_⟩
    rw [colored_hex r.toNat g.toNat b.toNat (by omega) (by omega) (by omega) R, Int.toNat_of_nonneg hr.1, Int.toNat_of_nonneg hg.1, Int.toNat_of_nonneg hb.1]
/-- Tags say their pen. -/
theorem tagged_tags (c : Cell) (hb : c.Bd) (hp : c.pOk = true) : penOf (taggedB (tagsL c)) = penOf c := by
  have hp2 : vColor c.f0 c.f1 c.f2 c.f3 c.f4 = true ∧ vColor c.b0 c.b1 c.b2 c.b3 c.b4 = true := by
    unfold Cell.pOk vPen at hp; simpa using hp
  obtain ⟨f1, f2⟩ := flags_all ⟨c.flags.toNat, by have := hb.fl; omega⟩
  simp only at f1 f2
  have hfl : ((c.flags.toNat : Nat) : Int) = c.flags := Int.toNat_of_nonneg hb.fl.1
  have i1 : flagOr c.flags 43 = c.flags := by unfold flagOr; rw [letL_signs.1]; rfl
  have i2 : flagOr c.flags 45 = c.flags := by unfold flagOr; rw [letL_signs.2]; rfl
  have hback : ∀ f : Co, td (tagC 45 c.b0 c.b1 c.b2 c.b3 c.b4) f zeroCo c.flags = penC f ⟨c.b0, c.b1, c.b2, c.b3, c.b4⟩ c.flags := fun f => by
    rcases colored_tag (sg := 45) hp2.2 hb.b1 hb.b2 hb.b3 hb.b4 [] (by simp) with ⟨e1, e2⟩ | ⟨T, e1, e2⟩
    · rw [e1, e2]; rfl
    · rw [List.append_nil] at e2
      rw [e1, td_cons, if_neg (by decide), if_pos rfl, e2, i2]; rfl
  have hR : ∀ x, (tagC 45 c.b0 c.b1 c.b2 c.b3 c.b4).head? = some x → ¬ (48 ≤ x.toNat ∧ x.toNat ≤ 57) := fun x hx => by
    unfold tagC at hx
    split at hx
    · have : x = 45 := by simpa using hx.symm
      rw [this]; decide
    · split at hx
      · have : x = 45 := by simpa using hx.symm
        rw [this]; decide
      · simp at hx
  have e : taggedB (tagsL c) = penC ⟨c.f0, c.f1, c.f2, c.f3, c.f4⟩ ⟨c.b0, c.b1, c.b2, c.b3, c.b4⟩ c.flags := by
    show td (tagsL c) zeroCo zeroCo 0 = _
    unfold tagsL
    rw [List.append_assoc, td_letters _ _ _ _ _ (fun x hx => ⟨(f2 x hx).1, (f2 x hx).2.1⟩), f1, hfl]
    rcases colored_tag (sg := 43) hp2.1 hb.f1 hb.f2 hb.f3 hb.f4 _ hR with ⟨e1, e2⟩ | ⟨T, e1, e2⟩
    · rw [e1, e2, List.nil_append, hback]
    · rw [e1, List.cons_append, td_cons, if_pos rfl, e2, i1]
      exact hback _
  rw [e]
  rfl
theorem dec_no93 (n : Nat) (hn : n < 256) : ∀ x ∈ decN n, x ≠ 93 := fun x hx => by
  have h := (dec_all ⟨n, hn⟩).2.2.2 x hx
  rintro rfl
  simp at h
theorem hex_no93 (n : Nat) (hn : n < 256) : ∀ x ∈ hexL n, x ≠ 93 := fun x hx => by
  simp only [hexL, List.mem_cons, List.not_mem_nil, or_false] at hx
  rcases hx with rfl | rfl
  · exact (hex_all ⟨n / 16, by omega⟩).2
  · exact (hex_all ⟨n % 16, by omega⟩).2
theorem tagC_no93 (sg : UInt8) (hs : sg ≠ 93) {k i r g b : Int} (hi : 0 ≤ i ∧ i < 256) (hr : 0 ≤ r ∧ r < 256) (hg : 0 ≤ g ∧ g < 256) (hb : 0 ≤ b ∧ b < 256) : ∀ x ∈ tagC sg k i r g b, x ≠ 93 := fun x hx => by
  unfold tagC at hx
  split at hx
  · rcases List.mem_cons.1 hx with rfl | hx
    · exact hs
    · exact dec_no93 _ (by omega) x hx
  · split at hx
    · simp only [List.mem_cons, List.mem_append] at hx
      rcases hx with rfl | rfl | (hx | hx) | hx
      · exact hs
      · decide
      · exact hex_no93 _ (by omega) x hx
      · exact hex_no93 _ (by omega) x hx
      · exact hex_no93 _ (by omega) x hx
    · cases hx
theorem tagsL_no93 (c : Cell) (hb : c.Bd) : ∀ x ∈ tagsL c, x ≠ 93 := fun x hx => by
  unfold tagsL at hx
  simp only [List.mem_append] at hx
  rcases hx with (hx | hx) | hx
  · exact ((flags_all ⟨c.flags.toNat, by have := hb.fl; omega⟩).2 x hx).2.2
  · exact tagC_no93 43 (by decide) hb.f1 hb.f2 hb.f3 hb.f4 x hx
  · exact tagC_no93 45 (by decide) hb.b1 hb.b2 hb.b3 hb.b4 x hx
theorem index_at (x : UInt8) (S : List UInt8) : ∀ T : List UInt8, (∀ y ∈ T, y ≠ x) → Lib.index (T ++ x :: S) [x] = (T.length : Int)
  | [], _ => by simp [Lib.index, List.isPrefixOf]
  | y :: T, h => by
    have ih := index_at x S T (fun z hz => h z (List.mem_cons_of_mem _ hz))
    have hy : ¬ x = y := fun e => h y (List.mem_cons_self ..) e.symm
    rw [List.cons_append, Lib.index, if_neg (by simp [List.isPrefixOf, hy]), ih, if_neg (by simp)]
    simp
theorem cut_at (x : UInt8) (T S : List UInt8) (h : ∀ y ∈ T, y ≠ x) : Lib.cut (T ++ x :: S) [x] = (T, S, true) := by
  unfold Lib.cut
  rw [index_at x S T h, if_pos (by omega)]
  simp
theorem rd_tag (c : Cell) (hb : c.Bd) (S : List UInt8) (cs : List Cell) (q : Cell) : rd (91 :: (tagsL c ++ [93]) ++ S) cs q = rd S cs (taggedB (tagsL c)) := by
  have e : 91 :: (tagsL c ++ [93]) ++ S = 91 :: (tagsL c ++ 93 :: S) := by simp
  rw [e, rd_cons]
  unfold readStep
  rw [if_neg (by rintro ⟨h, _⟩; cases h), if_pos rfl, cut_at 93 _ _ (tagsL_no93 c hb), if_pos rfl]
/-- Cells in order: behind each wide one its spacer. -/
inductive Good : List Cell → Prop
  | nil : Good []
  | one (c : Cell) (rest : List Cell) : c.valid = true → c.width ≠ 0 → c.width ≠ 2 → Good rest → Good (c :: rest)
  | two (c : Cell) (rest : List Cell) : c.valid = true → c.width = 2 → Good rest → Good (c :: c.spacer :: rest)
theorem drop_cons' {α : Type} {l : List α} {k : Nat} {x : α} {t : List α} (h : l.drop k = x :: t) : l[k]? = some x ∧ l.drop (k + 1) = t ∧ k < l.length := by
  refine ⟨by rw [← List.head?_drop, h]; rfl, by rw [← List.drop_drop, h]; rfl, ?_⟩
  rcases Nat.lt_or_ge k l.length with h1 | h1
  · exact h1
  · rw [List.drop_of_length_le h1] at h; cases h
theorem good_drop (cs : List Cell) (h : ∀ k, k < cs.length → rowBad cs k = false) : ∀ (f k : Nat), cs.length - k ≤ f → behindAt cs k = false → Good (cs.drop k)
  | f, k, hf, hb => by
    cases hd : cs.drop k with
    | nil => exact .nil
    | cons c t =>
      obtain ⟨hc, ht, hk⟩ := drop_cons' hd
      have hr := h k hk
      rw [bad_here hb hc] at hr
      simp only [Bool.or_eq_false_iff, Bool.not_eq_false', beq_eq_false_iff_ne, Bool.and_eq_false_iff] at hr
      obtain ⟨⟨hv, hw⟩, h2⟩ := hr
      obtain ⟨f, rfl⟩ : ∃ g, f = g + 1 := ⟨f - 1, by omega⟩
      by_cases hw2 : c.width = 2
      · have hk1 : k + 1 ≠ cs.length := h2.resolve_left (fun e => e hw2)
        have hlt : k + 1 < cs.length := by omega
        have hd1 : cs[k + 1]? = some cs[k + 1] := List.getElem?_eq_getElem hlt
        have hs : cs[k + 1] = c.spacer := by
          rcases Decidable.em (cs[k + 1] = c.spacer) with e | e
          · exact e
          · have := bad_next hc hd1 hw2 e
            rw [h _ hlt] at this; cases this
        have ht2 : t = c.spacer :: cs.drop (k + 2) := by
          rw [← ht, List.drop_eq_getElem_cons hlt, hs]
        rw [ht2]
        rw [hs] at hd1
        refine .two c _ hv hw2 (good_drop cs h f (k + 2) (by omega) (behind_next hd1 (by simp [Cell.spacer])))
      · rw [← ht]
        exact .one c _ hv hw hw2 (good_drop cs h f (k + 1) (by omega) (behind_next hc hw2))
  termination_by f => f
theorem good_of {cs : List Cell} (h : lnOk cs = true) : Good cs := by
  unfold lnOk at h
  simp only [Bool.and_eq_true] at h
  have hr : ∀ k, k < cs.length → rowBad cs k = false := fun k hk => by
    have := h.2
    unfold rowOk at this
    rw [List.all_eq_true] at this
    simpa using this k (List.mem_range.2 hk)
  have := good_drop cs hr cs.length 0 (by omega) rfl
  rwa [List.drop_zero] at this
theorem Good.take {cs : List Cell} (h : Good cs) : ∀ k, (∀ c, cs[k]? = some c → c.width ≠ 0) → Good (cs.take k) := by
  induction h with
  | nil => intro k _; simp; exact .nil
  | one c rest hv hw h2 _ ih =>
    intro k hk
    cases k with
    | zero => exact .nil
    | succ k => exact .one c _ hv hw h2 (ih k (fun d hd => hk d (by simpa using hd)))
  | two c rest hv h2 _ ih =>
    intro k hk
    match k with
    | 0 => exact .nil
    | 1 => exact absurd rfl (hk c.spacer rfl)
    | k + 2 => exact .two c _ hv h2 (ih k (fun d hd => hk d (by simpa using hd)))
theorem usedTo_at (cs : List Cell) : ∀ n, n ≤ cs.length → ∀ c, cs[usedTo cs n]? = some c → n = usedTo cs n ∨ c = blankC
  | 0, _, c, h => .inl rfl
  | n + 1, hn, c, h => by
    unfold usedTo at h ⊢
    split
    · rename_i hb
      rw [if_pos hb] at h
      rcases usedTo_at cs n (by omega) c h with e | e
      · rw [← e, hb] at h
        exact .inr (Option.some.inj h).symm
      · exact .inr e
    · exact .inl rfl
theorem usedN_at {cs : List Cell} {c : Cell} (h : cs[usedN cs]? = some c) : c = blankC := by
  rcases usedTo_at cs cs.length (Nat.le_refl _) c h with e | e
  · have := (List.getElem?_eq_some_iff.1 h).1
    unfold usedN at this
    omega
  · exact e
theorem good_used {cs : List Cell} (h : lnOk cs = true) : Good (cs.take (usedN cs)) :=
  (good_of h).take _ fun c hc => by rw [usedN_at hc]; decide
theorem penOf_spacer (c : Cell) : penOf c.spacer = penOf c := rfl
theorem mkC_spacer (c : Cell) : mkC c.spacer = [] := by unfold mkC Cell.txt Cell.spacer; simp [escB]
/-- The markup of cells, read behind their pen. -/
theorem rd_from {U : List Cell} (h : Good U) : (∀ c ∈ U, c.Bd) → ∀ (p : Option (List Int)) (q : Cell) (cs : List Cell) (S : List UInt8), (p = none ∨ p = some (penOf q)) → ∃ q', rd (mkFrom p U ++ S) cs q = rd S (cs ++ U) q' := by
  induction h with
  | nil => intro _ p q cs S _; exact ⟨q, by rw [List.append_nil]; rfl⟩
  | one c rest hv hw h2 _ ih =>
    intro hb p q cs S hp
    have hsp : cellSp c = [] := by unfold cellSp; rw [if_neg h2]
    have key : ∀ q1, penOf q1 = penOf c → ∃ q', rd (mkC c ++ (mkFrom (some (penOf c)) rest ++ S)) cs q1 = rd S (cs ++ c :: rest) q' := fun q1 hq => by
      rw [rd_cell c hv hw q1 hq, hsp]
      obtain ⟨q', e⟩ := ih (fun d hd => hb d (List.mem_cons_of_mem _ hd)) (some (penOf c)) q1 (cs ++ [c]) S (.inr (by rw [hq]))
      exact ⟨q', by rw [e]; simp⟩
    rw [mkFrom]
    by_cases hpc : p = some (penOf c)
    · rw [if_pos hpc, List.nil_append, List.append_assoc]
      rcases hp with e | e
      · rw [e] at hpc; cases hpc
      · rw [e] at hpc
        exact key q (Option.some.inj hpc)
    · rw [if_neg hpc, List.append_assoc, List.append_assoc, rd_tag c (hb c (List.mem_cons_self ..))]
      exact key _ (tagged_tags c (hb c (List.mem_cons_self ..)) (valid_pOk hv))
  | two c rest hv h2 _ ih =>
    intro hb p q cs S hp
    have hw : c.width ≠ 0 := by omega
    have hsp : cellSp c = [c.spacer] := by unfold cellSp; rw [if_pos h2]
    have key : ∀ q1, penOf q1 = penOf c → ∃ q', rd (mkC c ++ (mkFrom (some (penOf c)) (c.spacer :: rest) ++ S)) cs q1 = rd S (cs ++ c :: c.spacer :: rest) q' := fun q1 hq => by
      rw [rd_cell c hv hw q1 hq, hsp, mkFrom, if_pos (by rw [penOf_spacer]), mkC_spacer, List.nil_append, List.nil_append, penOf_spacer]
      obtain ⟨q', e⟩ := ih (fun d hd => hb d (List.mem_cons_of_mem _ (List.mem_cons_of_mem _ hd))) (some (penOf c)) q1 (cs ++ [c, c.spacer]) S (.inr (by rw [hq]))
      exact ⟨q', by rw [e]; simp⟩
    rw [mkFrom]
    by_cases hpc : p = some (penOf c)
    · rw [if_pos hpc, List.nil_append, List.append_assoc]
      rcases hp with e | e
      · rw [e] at hpc; cases hpc
      · rw [e] at hpc
        exact key q (Option.some.inj hpc)
    · rw [if_neg hpc, List.append_assoc, List.append_assoc, rd_tag c (hb c (List.mem_cons_self ..))]
      exact key _ (tagged_tags c (hb c (List.mem_cons_self ..)) (valid_pOk hv))
/-- A line's markup says the line. -/
theorem read_mk {cs : List Cell} (h : lnOk cs = true) (hb : ∀ c ∈ cs, c.Bd) (so : Bool) : readB (mkL cs so) = (cs.take (usedN cs), so, true) := by
  obtain ⟨q', e⟩ := rd_from (good_used h) (fun c hc => hb c (List.mem_of_mem_take hc)) none zeroM [] (if so then [92] else []) (.inl rfl)
  rw [readB_rd]
  unfold mkL
  rw [e, List.nil_append]
  cases so
  · exact rd_nil _ _
  · exact rd_soft _ _
end Go.Proofs.YthcndmchlpohpaaGreatDoor

namespace Go.Proofs.YthcndmchlpohpaaGreatDoor
set_option linter.unusedVariables false
set_option linter.unusedSimpArgs false
open Go.RowKit Go.Shelf

theorem Cell.Bd.same {c d : Cell} (h : c.Bd) (e : penOf d = penOf c) : d.Bd := by
  obtain ⟨p1, p2, p3, p4, p5, p6, p7, p8, p9, p10, p11⟩ := penOf_eq e
  exact ⟨by rw [p2]; exact h.f1, by rw [p3]; exact h.f2, by rw [p4]; exact h.f3, by rw [p5]; exact h.f4, by rw [p7]; exact h.b1, by rw [p8]; exact h.b2, by rw [p9]; exact h.b3, by rw [p10]; exact h.b4, by rw [p11]; exact h.fl⟩
theorem zeroM_bd : zeroM.Bd := by constructor <;> decide
def Co.Bd (c : Co) : Prop := (0 ≤ c.i ∧ c.i < 256) ∧ (0 ≤ c.r ∧ c.r < 256) ∧ (0 ≤ c.g ∧ c.g < 256) ∧ (0 ≤ c.b ∧ c.b < 256)
theorem coloredB_bd (l : List UInt8) : (coloredB l).1.Bd := by
  unfold coloredB Co.Bd
  split
  · simp only; omega
  · simp only; omega
theorem zeroCo_bd : zeroCo.Bd := by unfold Co.Bd zeroCo; decide
theorem flag_bits : ∀ m : Fin 256, ∀ i : Fin 8, 0 ≤ bits BinOp.or IntKind.u8 ((m.val : Nat) : Int) ((2 ^ i.val : Nat) : Int) ∧ bits BinOp.or IntKind.u8 ((m.val : Nat) : Int) ((2 ^ i.val : Nat) : Int) < 256 := by decide +kernel
theorem flagOr_bd {fl : Int} (h : 0 ≤ fl ∧ fl < 256) (c : UInt8) : 0 ≤ flagOr fl c ∧ flagOr fl c < 256 := by
  unfold flagOr
  rcases letL_idx c with e | ⟨i, hi, e⟩
  · rw [e, if_pos (by decide)]; exact h
  · rw [e, if_neg (by omega)]
    have := flag_bits ⟨fl.toNat, by omega⟩ ⟨i, hi⟩
    simp only at this
    rw [Int.toNat_of_nonneg h.1] at this
    exact this
theorem penC_bd {f b : Co} {fl : Int} (hf : f.Bd) (hb : b.Bd) (h : 0 ≤ fl ∧ fl < 256) : (penC f b fl).Bd := ⟨hf.1, hf.2.1, hf.2.2.1, hf.2.2.2, hb.1, hb.2.1, hb.2.2.1, hb.2.2.2, h⟩
theorem taggedF_bd : ∀ (n : Nat) (l : List UInt8) (f b : Co) (fl : Int), f.Bd → b.Bd → (0 ≤ fl ∧ fl < 256) → (taggedF n l f b fl).Bd
  | 0, _, _, _, _, hf, hb, h => penC_bd hf hb h
  | _ + 1, [], _, _, _, hf, hb, h => penC_bd hf hb h
  | n + 1, c :: t, f, b, fl, hf, hb, h => by
    rw [taggedF_cons]
    split
    · exact taggedF_bd n _ _ _ _ (coloredB_bd t) hb (flagOr_bd h c)
    · split
      · exact taggedF_bd n _ _ _ _ hf (coloredB_bd t) (flagOr_bd h c)
      · exact taggedF_bd n _ _ _ _ hf hb (flagOr_bd h c)
theorem taggedB_bd (l : List UInt8) : (taggedB l).Bd := taggedF_bd _ _ _ _ _ zeroCo_bd zeroCo_bd ⟨by decide, by decide⟩
theorem penOf_markC (c : Cell) (r : Int) : penOf (markC c r) = penOf c := by
  unfold markC
  split
  · rfl
  · split <;> rfl
theorem putB_bd {cs : List Cell} {r : Int} {q : Cell} {ds : List Cell} (h : putB cs r q = some ds) (hc : ∀ c ∈ cs, c.Bd) (hq : q.Bd) : ∀ c ∈ ds, c.Bd := by
  unfold putB at h
  split at h
  · split at h
    · cases h
      intro c hm
      rcases List.mem_append.1 hm with hm | hm
      · exact hc c hm
      · unfold ofL at hm
        rcases List.mem_cons.1 hm with rfl | hm
        · exact hq.same rfl
        · split at hm
          · obtain rfl := List.mem_singleton.1 hm
            exact hq.same rfl
          · cases hm
    · cases h
  · split at h
    · cases h
    · rename_i d hd
      split at h
      · cases h
        intro c hm
        rcases List.mem_or_eq_of_mem_set hm with hm | rfl
        · exact hc c hm
        · exact (hc d (List.mem_of_getElem? hd)).same (penOf_markC d r)
      · cases h
theorem readF_bd : ∀ (n : Nat) (l : List UInt8) (cs : List Cell) (q : Cell), (∀ c ∈ cs, c.Bd) → q.Bd → ∀ c ∈ (readF n l cs q).1, c.Bd
  | 0, _, _, _, hc, _ => hc
  | _ + 1, [], _, _, hc, _ => hc
  | n + 1, x :: t, cs, q, hc, hq => by
    rw [readF_cons]
    unfold readStep
    split
    · exact hc
    · split
      · split
        · exact readF_bd n _ _ _ hc (taggedB_bd _)
        · exact hc
      · split
        · refine readF_bd n _ _ _ (fun c hm => ?_) hq
          rcases List.mem_append.1 hm with hm | hm
          · exact hc c hm
          · obtain rfl := List.mem_singleton.1 hm
            exact hq.same rfl
        · cases h : putB cs ((Lib.decodeGo (strL (if x = 92 then t else x :: t))).1 : Int) q with
          | none => exact hc
          | some ds => exact readF_bd n _ _ _ (putB_bd h hc hq) hq
theorem readB_bd (l : List UInt8) : ∀ c ∈ (readB l).1, c.Bd := readF_bd _ _ _ _ (by simp) zeroM_bd
theorem readF_len : ∀ (n : Nat) (l : List UInt8) (cs : List Cell) (q : Cell), (readF n l cs q).1.length ≤ cs.length + 2 * l.length
  | 0, _, _, _ => by show _ ≤ _; simp [readF]
  | _ + 1, [], _, _ => by simp [readF]
  | n + 1, x :: t, cs, q => by
    rw [readF_cons]
    unfold readStep
    split
    · simp
    · split
      · split
        · have h1 := readF_len n (Lib.cut t [93]).2.1 cs (taggedB (Lib.cut t [93]).1)
          have h2 := (cut_len t 93).1
          rw [List.length_cons]; omega
        · simp
      · split
        · have h1 := readF_len n t (cs ++ [q.blankP]) q
          rw [List.length_append, List.length_singleton] at h1
          rw [List.length_cons]; omega
        · rename_i g1 g2 g3
          cases h : putB cs ((Lib.decodeGo (strL (if x = 92 then t else x :: t))).1 : Int) q with
          | none => simp
          | some ds =>
            have hne : (if x = 92 then t else x :: t) ≠ [] := by
              split
              · rename_i h; exact fun e => g1 ⟨h, e⟩
              · simp
            have hd := decGo_width _ hne
            have hle : (if x = 92 then t else x :: t).length ≤ t.length + 1 := by split <;> simp
            have h1 := readF_len n ((if x = 92 then t else x :: t).drop (Lib.decodeGo (strL (if x = 92 then t else x :: t))).2) ds q
            have h2 := putB_len h
            rw [List.length_drop] at h1
            rw [List.length_cons]
            show (readF n _ ds q).1.length ≤ _
            omega
theorem readB_len (l : List UInt8) : (readB l).1.length ≤ 2 * l.length := by
  have := readF_len l.length l [] zeroM
  unfold readB; simpa using this
/-- What Line answers: cells, soft, the error. -/
def lineB (l : List UInt8) (N : Int) : List Cell × Bool × Int :=
  if N < 0 ∨ 1000 < N then ([], false, 2)
  else if 1048576 < l.length then ([], false, 5)
  else if (readB l).2.2 = false then ([], false, 6)
  else if ¬ (lnOk (readB l).1 = true ∧ mkL (readB l).1 (readB l).2.1 = l) then ([], false, 6)
  else if N < (readB l).1.length then ([], false, 3)
  else ((readB l).1 ++ List.replicate (N.toNat - (readB l).1.length) blankC, (readB l).2.1, 0)
/-- Whole halves stay as they are. -/
theorem fix_ok {cs : List Cell} (h : lnOk cs = true) : fixL cs = cs := by
  unfold lnOk at h
  simp only [Bool.and_eq_true] at h
  have hr : ∀ k, k < cs.length → rowBad cs k = false := fun k hk => by
    have := h.2
    unfold rowOk at this
    rw [List.all_eq_true] at this
    simpa using this k (List.mem_range.2 hk)
  have hla : ∀ k, leftAt cs k = behindAt cs k := fun k => by cases k <;> rfl
  have key : ∀ k c, cs[k]? = some c → fixC cs k c = c := fun k c hc => by
    have hk := (List.getElem?_eq_some_iff.1 hc).1
    have h1 := hr k hk
    unfold rowBad at h1
    rw [hc] at h1
    simp only [cellBad, Bool.or_eq_false_iff, Bool.not_eq_false'] at h1
    obtain ⟨⟨⟨hv, hb⟩, hp⟩, hl⟩ := h1
    have hb2 : (c.width == 0) = behindAt cs k := by
      cases h1 : (c.width == 0) <;> cases h2 : behindAt cs k <;> rw [h1, h2] at hb <;> first | rfl | cases hb
    unfold fixC
    rw [hla]
    have hright : (c.width == 2 && !rightAt cs k) = false := by
      cases hw : (c.width == 2) with
      | false => rfl
      | true =>
        rw [hw] at hl
        have hne : k + 1 ≠ cs.length := by simpa using hl
        have hlt : k + 1 < cs.length := by omega
        have hd : cs[k + 1]? = some cs[k + 1] := List.getElem?_eq_getElem hlt
        have hs : cs[k + 1] = c.spacer := by
          rcases Decidable.em (cs[k + 1] = c.spacer) with e | e
          · exact e
          · have := bad_next hc hd (by simpa using hw) e
            rw [hr _ hlt] at this; cases this
        unfold rightAt
        rw [hd, hs]
        rfl
    rw [hright, ← hb2, Bool.or_false]
    cases hw0 : (c.width == 0) with
    | false => rfl
    | true =>
      rw [Bool.not_true, Bool.and_false, if_neg (by decide), if_pos rfl]
      rw [hw0] at hb2
      cases k with
      | zero => cases hb2
      | succ m =>
        replace hb2 : true = (match cs[m]? with | some p => p.width == 2 | none => false) := hb2
        cases hm : cs[m]? with
        | none => rw [hm] at hb2; cases hb2
        | some p =>
          rw [hm] at hb2
          have hw2 : p.width = 2 := by simpa using hb2.symm
          show (cs[m]?.getD c).spacer = c
          rw [hm]
          show p.spacer = c
          rcases Decidable.em (c = p.spacer) with e | e
          · exact e.symm
          · have := bad_next hm hc hw2 e
            rw [hr _ hk] at this; cases this
  have : ∀ k, fixTo cs k = cs := fun k => by
    induction k with
    | zero => rfl
    | succ k ih =>
      rw [fixTo, ih]
      cases hc : cs[k]? with
      | none => rfl
      | some c => simp only [key k c hc]; exact set_same hc
  exact this _
end Go.Proofs.YthcndmchlpohpaaGreatDoor
