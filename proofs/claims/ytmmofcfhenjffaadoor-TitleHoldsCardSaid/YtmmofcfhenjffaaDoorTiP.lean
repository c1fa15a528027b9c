/- A string, cleaned (26): what it is, and that cleaning again changes nothing. No condition. -/
import Derived.Lib.MapLaws
import Derived.Lib.Strings
namespace Go.Proofs.YtmmofcfhenjffaaDoor
set_option linter.unusedVariables false
set_option linter.unusedSimpArgs false
open Go Go.Lib

/-- A rune that a title leaves out: no rune at all, or one that is not shown. -/
def badR (d : Nat × Nat) : Bool := (d.1 == 65533 && d.2 == 1) || decide (d.1 < 32) || (decide (127 ≤ d.1) && decide (d.1 ≤ 159))
def cleanL : Nat → List UInt8 → List UInt8 → List UInt8
  | 0, _, out => out
  | f + 1, l, out => if l = [] then out else if badR (decodeL l) then cleanL f (l.drop (decodeL l).2) out else if 256 < out.length + (decodeL l).2 then out else cleanL f (l.drop (decodeL l).2) (out ++ l.take (decodeL l).2)
/-- A string, cleaned. -/
def cleanT (l : List UInt8) : List UInt8 := cleanL l.length l []
theorem cleanL_nil (f : Nat) (out : List UInt8) : cleanL f [] out = out := by cases f <;> simp [cleanL]
theorem cleanL_fuel : ∀ (n m : Nat) (l out : List UInt8), l.length ≤ n → l.length ≤ m → cleanL n l out = cleanL m l out
  | 0, m, l, out, hn, _ => by
    have : l = [] := List.eq_nil_of_length_eq_zero (by omega)
    subst this
    rw [cleanL_nil, cleanL_nil]
  | n + 1, 0, l, out, _, hm => by
    have : l = [] := List.eq_nil_of_length_eq_zero (by omega)
    subst this
    rw [cleanL_nil, cleanL_nil]
  | n + 1, m + 1, l, out, hn, hm => by
    by_cases hne : l = []
    · subst hne
      rw [cleanL_nil, cleanL_nil]
    · have hw := decodeL_width l
      have hl : 0 < l.length := List.length_pos_iff.2 hne
      simp only [cleanL, if_neg hne]
      rw [cleanL_fuel n m _ out (by rw [List.length_drop]; omega) (by rw [List.length_drop]; omega), cleanL_fuel n m _ (out ++ l.take (decodeL l).2) (by rw [List.length_drop]; omega) (by rw [List.length_drop]; omega)]
theorem cleanL_len : ∀ (f : Nat) (l out : List UInt8), out.length ≤ 256 → (cleanL f l out).length ≤ 256
  | 0, _, out, h => h
  | f + 1, l, out, h => by
    unfold cleanL
    split
    · exact h
    · split
      · exact cleanL_len f _ out h
      · split
        · exact h
        · exact cleanL_len f _ _ (by rw [List.length_append, List.length_take]; omega)
theorem cleanT_len (l : List UInt8) : (cleanT l).length ≤ 256 := cleanL_len _ _ _ (by simp)

theorem decodeN_two {n b0 b1 b2 b3 : Nat} (h1 : b0 / 32 = 6) (h2 : 1 < n) (h3 : b1 / 64 = 2) (h4 : 128 ≤ b0 % 32 * 64 + b1 % 64) : decodeN n b0 b1 b2 b3 = (b0 % 32 * 64 + b1 % 64, 2) := by
  unfold decodeN
  repeat' split
  all_goals first | (exfalso; omega) | rfl
theorem decodeN_three {n b0 b1 b2 b3 : Nat} (h1 : b0 / 16 = 14) (h2 : 2 < n) (h3 : b1 / 64 = 2) (h4 : b2 / 64 = 2) (h5 : 2048 ≤ b0 % 16 * 4096 + b1 % 64 * 64 + b2 % 64) (h6 : b0 % 16 * 4096 + b1 % 64 * 64 + b2 % 64 < 55296 ∨ 57344 ≤ b0 % 16 * 4096 + b1 % 64 * 64 + b2 % 64) : decodeN n b0 b1 b2 b3 = (b0 % 16 * 4096 + b1 % 64 * 64 + b2 % 64, 3) := by
  unfold decodeN
  repeat' split
  all_goals first | (exfalso; omega) | rfl
theorem decodeN_four {n b0 b1 b2 b3 : Nat} (h1 : b0 / 8 = 30) (h2 : 3 < n) (h3 : b1 / 64 = 2) (h4 : b2 / 64 = 2) (h5 : b3 / 64 = 2) (h6 : 65536 ≤ b0 % 8 * 262144 + b1 % 64 * 4096 + b2 % 64 * 64 + b3 % 64) (h7 : b0 % 8 * 262144 + b1 % 64 * 4096 + b2 % 64 * 64 + b3 % 64 ≤ 1114111) : decodeN n b0 b1 b2 b3 = (b0 % 8 * 262144 + b1 % 64 * 4096 + b2 % 64 * 64 + b3 % 64, 4) := by
  unfold decodeN
  repeat' split
  all_goals first | (exfalso; omega) | rfl
theorem getD_take {l t : List UInt8} {k j : Nat} (h : j < k) (hk : k ≤ l.length) : (l.take k ++ t).getD j 0 = l.getD j 0 := by
  rw [List.getD_eq_getElem?_getD, List.getD_eq_getElem?_getD, List.getElem?_append_left (by rw [List.length_take]; omega), List.getElem?_take, if_pos h]
/-- The bytes of a rune that was decoded decode to it, whatever follows. -/
theorem take_decode (l t : List UInt8) (hne : l ≠ []) (hv : ¬ ((decodeL l).1 = 65533 ∧ (decodeL l).2 = 1)) : decodeL (l.take (decodeL l).2 ++ t) = decodeL l := by
  have hl : 0 < l.length := List.length_pos_iff.2 hne
  have hle := decodeL_le l hne
  obtain ⟨k, hk⟩ : ∃ k, k = (decodeL l).2 := ⟨_, rfl⟩
  rw [← hk] at hle ⊢
  have hlen : k ≤ (l.take k ++ t).length := by rw [List.length_append, List.length_take]; omega
  rw [decodeL_N (l.take k ++ t)]
  rw [decodeL_N] at hv hk ⊢
  rcases decodeN_shape l.length (l.getD 0 0).toNat (l.getD 1 0).toNat (l.getD 2 0).toNat (l.getD 3 0).toNat with ⟨c, e⟩ | ⟨c1, c2, c3, cv, e⟩ | ⟨c1, c2, c3, c4, cv, cs, e⟩ | ⟨c1, c2, c3, c4, c5, cv, cw, e⟩ | e
  · rw [e] at hk ⊢
    have hk : k = 1 := hk
    rw [getD_take (by omega) hle]
    exact (by unfold decodeN; rw [if_pos c])
  · rw [e] at hk ⊢
    have hk : k = 2 := hk
    rw [getD_take (j := 0) (by omega) hle, getD_take (j := 1) (by omega) hle]
    exact decodeN_two c1 (by omega) c3 cv
  · rw [e] at hk ⊢
    have hk : k = 3 := hk
    rw [getD_take (j := 0) (by omega) hle, getD_take (j := 1) (by omega) hle, getD_take (j := 2) (by omega) hle]
    exact decodeN_three c1 (by omega) c3 c4 cv cs
  · rw [e] at hk ⊢
    have hk : k = 4 := hk
    rw [getD_take (j := 0) (by omega) hle, getD_take (j := 1) (by omega) hle, getD_take (j := 2) (by omega) hle, getD_take (j := 3) (by omega) hle]
    exact decodeN_four c1 (by omega) c3 c4 c5 cv cw
  · rw [e] at hv
    exact absurd ⟨rfl, rfl⟩ hv
/-- The bytes of a rune that is shown. -/
def SegOk (s : List UInt8) : Prop := s ≠ [] ∧ ∃ r, (∀ t, decodeL (s ++ t) = (r, s.length)) ∧ badR (r, s.length) = false
theorem seg_of (l : List UInt8) (hne : l ≠ []) (hb : badR (decodeL l) = false) : SegOk (l.take (decodeL l).2) := by
  have hw := decodeL_width l
  have hle := decodeL_le l hne
  have hlen : (l.take (decodeL l).2).length = (decodeL l).2 := by rw [List.length_take]; omega
  have hv : ¬ ((decodeL l).1 = 65533 ∧ (decodeL l).2 = 1) := fun h => by
    unfold badR at hb
    rw [h.1, h.2] at hb
    simp at hb
  refine ⟨fun e => by rw [e] at hlen; simp at hlen; omega, (decodeL l).1, fun t => ?_, by rw [hlen]; exact hb⟩
  rw [hlen]
  exact take_decode l t hne hv
theorem cleanL_segs : ∀ (f : Nat) (l out : List UInt8), (∃ S : List (List UInt8), out = S.flatten ∧ ∀ s ∈ S, SegOk s) → ∃ S : List (List UInt8), cleanL f l out = S.flatten ∧ ∀ s ∈ S, SegOk s
  | 0, _, out, h => h
  | f + 1, l, out, h => by
    unfold cleanL
    split
    · exact h
    · rename_i hne
      split
      · exact cleanL_segs f _ out h
      · rename_i hb
        split
        · exact h
        · obtain ⟨S, e, hS⟩ := h
          refine cleanL_segs f _ _ ⟨S ++ [l.take (decodeL l).2], by rw [List.flatten_append, ← e]; simp, fun s hs => ?_⟩
          rcases List.mem_append.1 hs with hs | hs
          · exact hS s hs
          · rw [List.mem_singleton.1 hs]
            exact seg_of l hne (by simpa using hb)
theorem cleanT_segs (l : List UInt8) : ∃ S : List (List UInt8), cleanT l = S.flatten ∧ ∀ s ∈ S, SegOk s := cleanL_segs _ _ _ ⟨[], rfl, fun s hs => by cases hs⟩
/-- What is clean stays. -/
theorem clean_of_segs : ∀ (S : List (List UInt8)) (f : Nat) (out : List UInt8), (∀ s ∈ S, SegOk s) → S.flatten.length ≤ f → out.length + S.flatten.length ≤ 256 → cleanL f S.flatten out = out ++ S.flatten
  | [], f, out, _, _, _ => by rw [List.flatten_nil, cleanL_nil, List.append_nil]
  | s :: S, f, out, h, hf, ho => by
    obtain ⟨hne, r, hd, hb⟩ := h s (List.mem_cons_self ..)
    have hs : 0 < s.length := List.length_pos_iff.2 hne
    rw [List.flatten_cons] at hf ho ⊢
    rw [List.length_append] at hf ho
    obtain ⟨f, rfl⟩ : ∃ g, f = g + 1 := ⟨f - 1, by omega⟩
    have hne2 : s ++ S.flatten ≠ [] := fun e => hne (List.append_eq_nil_iff.1 e).1
    simp only [cleanL, if_neg hne2, hd S.flatten, hb]
    rw [if_neg (by simp), if_neg (by omega), List.drop_left, List.take_left]
    rw [clean_of_segs S f (out ++ s) (fun x hx => h x (List.mem_cons_of_mem _ hx)) (by omega) (by rw [List.length_append]; omega), List.append_assoc]
/-- Cleaning again changes nothing. -/
theorem cleanT_again (l : List UInt8) : cleanT (cleanT l) = cleanT l := by
  obtain ⟨S, e, hS⟩ := cleanT_segs l
  have hl := cleanT_len l
  rw [e] at hl ⊢
  unfold cleanT
  rw [clean_of_segs S _ [] hS (Nat.le_refl _) (by simpa using hl), List.nil_append]
set_option maxRecDepth 100000 in
/-- U+FFFD: it stands there in three bytes, or a byte is no rune's. -/
theorem dec_fffd (l : List UInt8) (hne : l ≠ []) (h : (decodeL l).1 = 65533) : ((decodeL l).2 = 1 ∧ Lib.hasPrefix l [239, 191, 189] = false) ∨ ((decodeL l).2 = 3 ∧ Lib.hasPrefix l [239, 191, 189] = true) := by
  have hle := decodeL_le l hne
  rw [decodeL_N] at h hle ⊢
  have hb0 := (l.getD 0 0).toNat_lt
  have hb1 := (l.getD 1 0).toNat_lt
  have hb2 := (l.getD 2 0).toNat_lt
  rcases decodeN_shape l.length (l.getD 0 0).toNat (l.getD 1 0).toNat (l.getD 2 0).toNat (l.getD 3 0).toNat with ⟨c, e⟩ | ⟨c1, c2, c3, cv, e⟩ | ⟨c1, c2, c3, c4, cv, cs, e⟩ | ⟨c1, c2, c3, c4, c5, cv, cw, e⟩ | e
  · rw [e] at h
    simp only at h
    omega
  · rw [e] at h
    simp only at h
    omega
  · rw [e] at h hle ⊢
    simp only at h hle
    refine .inr ⟨rfl, ?_⟩
    match l, hle with
    | a :: b :: c :: t, _ =>
      simp only [List.getD_cons_zero, List.getD_cons_succ] at *
      have ha : a = 239 := UInt8.toNat_inj.1 (show a.toNat = 239 by omega)
      have hb : b = 191 := UInt8.toNat_inj.1 (show b.toNat = 191 by omega)
      have hc : c = 189 := UInt8.toNat_inj.1 (show c.toNat = 189 by omega)
      subst ha hb hc
      rfl
  · rw [e] at h
    simp only at h
    omega
  · rw [e]
    refine .inl ⟨rfl, ?_⟩
    cases hp : Lib.hasPrefix l [239, 191, 189] with
    | false => rfl
    | true =>
      exfalso
      obtain ⟨t, rfl⟩ := List.isPrefixOf_iff_prefix.1 hp
      have := decodeN_three (n := ([239, 191, 189] ++ t : List UInt8).length) (b0 := 239) (b1 := 191) (b2 := 189) (b3 := (([239, 191, 189] ++ t : List UInt8).getD 3 0).toNat) (by decide) (by simp) (by decide) (by decide) (by decide) (.inr (by decide))
      have e2 : decodeN ([239, 191, 189] ++ t : List UInt8).length 239 191 189 (([239, 191, 189] ++ t : List UInt8).getD 3 0).toNat = (65533, 1) := e
      rw [this] at e2
      simp at e2
/-- The bytes of a rune that stays. -/
theorem good_len (l : List UInt8) (hne : l ≠ []) (hb : badR (decodeL l) = false) : Lib.runeLen ((decodeL l).1 : Int) = ((decodeL l).2 : Int) ∧ Lib.encodeRune ((decodeL l).1 : Int) = l.take (decodeL l).2 := by
  have hv : ¬ ((decodeL l).1 = 65533 ∧ (decodeL l).2 = 1) := fun h => by
    unfold badR at hb
    rw [h.1, h.2] at hb
    simp at hb
  refine ⟨?_, encode_decode l hne hv⟩
  by_cases h : (decodeL l).1 = 65533
  · rcases dec_fffd l hne h with ⟨e, _⟩ | ⟨e, _⟩
    · exact absurd ⟨h, e⟩ hv
    · rw [h, e]
      rfl
  · exact runeLen_decode l h
/-- What can be at a place, in the walk's words. -/
inductive RuneAt (l : List UInt8) : Bool → Bool → Bool → Bool → Bool → Bool → Prop
  | fffdBad : RuneAt l true false false true false true
  | fffdGood : RuneAt l true true false true false false
  | low (p : Bool) : RuneAt l false p true false true true
  | mid (p : Bool) : RuneAt l false p false false true false
  | ctl (p : Bool) : RuneAt l false p false true true true
  | high (p : Bool) : RuneAt l false p false true false false
theorem runeAt (l : List UInt8) (hne : l ≠ []) : RuneAt l (((decodeL l).1 : Int) == 65533) (Lib.hasPrefix l [239, 191, 189]) (decide (((decodeL l).1 : Int) < 32)) (decide (((decodeL l).1 : Int) ≥ 127)) (decide (((decodeL l).1 : Int) ≤ 159)) (badR (decodeL l)) := by
  have hf := dec_fffd l hne
  unfold badR
  generalize Lib.hasPrefix l [239, 191, 189] = p at hf ⊢
  generalize hd : decodeL l = d at hf ⊢
  obtain ⟨r, n⟩ := d
  simp only at hf ⊢
  by_cases h : r = 65533
  · subst h
    rcases hf rfl with ⟨rfl, rfl⟩ | ⟨rfl, rfl⟩
    · exact .fffdBad
    · exact .fffdGood
  · have h1 : ((r : Int) == 65533) = false := beq_eq_false_iff_ne.2 (by omega)
    have h2 : (r == 65533) = false := beq_eq_false_iff_ne.2 h
    rw [h1, h2]
    by_cases ha : r < 32
    · rw [decide_eq_true (show (r : Int) < 32 by omega), decide_eq_false (show ¬ (r : Int) ≥ 127 by omega), decide_eq_true (show (r : Int) ≤ 159 by omega), decide_eq_true ha]
      simp only [Bool.false_and, Bool.false_or, Bool.true_or]
      exact .low p
    · by_cases hb : 127 ≤ r
      · by_cases hc : r ≤ 159
        · rw [decide_eq_false (show ¬ (r : Int) < 32 by omega), decide_eq_true (show (r : Int) ≥ 127 by omega), decide_eq_true (show (r : Int) ≤ 159 by omega), decide_eq_false ha, decide_eq_true hb, decide_eq_true hc]
          exact .ctl p
        · rw [decide_eq_false (show ¬ (r : Int) < 32 by omega), decide_eq_true (show (r : Int) ≥ 127 by omega), decide_eq_false (show ¬ (r : Int) ≤ 159 by omega), decide_eq_false ha, decide_eq_true hb, decide_eq_false hc]
          exact .high p
      · rw [decide_eq_false (show ¬ (r : Int) < 32 by omega), decide_eq_false (show ¬ (r : Int) ≥ 127 by omega), decide_eq_true (show (r : Int) ≤ 159 by omega), decide_eq_false ha, decide_eq_false hb]
        exact .mid p
end Go.Proofs.YtmmofcfhenjffaaDoor
