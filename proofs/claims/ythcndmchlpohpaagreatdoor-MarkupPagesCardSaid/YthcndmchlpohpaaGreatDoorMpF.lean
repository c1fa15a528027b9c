/- A page's text is read again (48), in plain Lean. No condition. -/
import Derived.Test.YthcndmchlpohpaaGreatDoorMpD
import Derived.Test.YthcndmchlpohpaaGreatDoorMlH
import Derived.Test.YthcndmchlpohpaaGreatDoorMlT
namespace Go.Proofs.YthcndmchlpohpaaGreatDoor
set_option linter.unusedVariables false
set_option linter.unusedSimpArgs false
open Go.RowKit Go.Shelf

theorem enc_big {r : Int} (h : wOf r ≠ -1) : ∀ x ∈ encL r, 32 ≤ x.toNat := by
  obtain ⟨n, rfl, h1, h2⟩ := wOf_nat h
  obtain ⟨b, t, e, k1, k2, k3⟩ := encL_head n h2
  rw [e]
  intro x hx
  rcases List.mem_cons.1 hx with rfl | hx
  · rcases Nat.lt_or_ge n 128 with hn | hn
    · rw [(k1 hn).1]; exact h1
    · have := k2 hn; omega
  · have := k3 x hx; omega
theorem mkTxt_big {m : Int} (h : m ≠ 0 → wOf m = 0) : ∀ x ∈ mkTxt m, 32 ≤ x.toNat := by
  unfold mkTxt
  by_cases h0 : m = 0
  · rw [if_pos h0]; intro x hx; cases hx
  · rw [if_neg h0]; exact enc_big (by rw [h h0]; decide)
set_option maxRecDepth 100000 in
theorem txt_big (c : Cell) (hv : c.valid = true) : ∀ x ∈ c.txt, 32 ≤ x.toNat := by
  obtain ⟨rune, m0, m1, m2, wd, f0, f1, f2, f3, f4, b0, b1, b2, b3, b4, fl⟩ := c
  unfold Cell.valid at hv
  simp only [Bool.and_eq_true] at hv
  obtain ⟨hpen, hv⟩ := hv
  unfold Cell.txt
  simp only
  by_cases hw : wd = 0
  · rw [if_pos hw]; intro x hx; cases hx
  rw [if_neg hw]
  by_cases h0 : rune = 0
  · rw [if_pos h0]; intro x hx; rw [List.mem_singleton.1 hx]; decide
  rw [if_neg h0] at hv ⊢
  simp only [Bool.and_eq_true, decide_eq_true_eq, beq_iff_eq] at hv
  obtain ⟨hm, hpos, hwd⟩ := hv
  simp only [mkOk, mkBad, Bool.and_eq_true, Bool.not_eq_true', Bool.and_eq_false_iff, Bool.or_eq_false_iff, bne_eq_false_iff_eq, decide_eq_false_iff_not, beq_eq_false_iff_ne] at hm
  obtain ⟨⟨k0, k1⟩, k2⟩ := hm
  have hm0 : m0 ≠ 0 → wOf m0 = 0 := fun h => by rcases k0 with e | e; exact absurd e h; exact e.1
  have hm1 : m1 ≠ 0 → wOf m1 = 0 := fun h => by rcases k1 with e | e; exact absurd e h; exact e.1
  have hm2 : m2 ≠ 0 → wOf m2 = 0 := fun h => by rcases k2 with e | e; exact absurd e h; exact e.1
  intro x hx
  simp only [List.mem_append] at hx
  rcases hx with ((hx | hx) | hx) | hx
  · exact enc_big (by omega) x hx
  · exact mkTxt_big hm0 x hx
  · exact mkTxt_big hm1 x hx
  · exact mkTxt_big hm2 x hx
theorem mkC_big (c : Cell) (hv : c.valid = true) : ∀ x ∈ mkC c, 32 ≤ x.toNat := by
  unfold mkC
  split
  · intro x hx; rw [List.mem_singleton.1 hx]; decide
  · split
    · intro x hx
      rcases List.mem_cons.1 hx with rfl | hx
      · decide
      · exact txt_big c hv x hx
    · exact txt_big c hv
theorem flags_big : ∀ m : Fin 256, ∀ x ∈ flagL m.val, 32 ≤ x.toNat := by decide +kernel
theorem hex_big : ∀ m : Fin 16, 32 ≤ (hexD m.val).toNat := by decide +kernel
theorem hexL_big (n : Nat) (hn : n < 256) : ∀ x ∈ hexL n, 32 ≤ x.toNat := fun x hx => by
  simp only [hexL, List.mem_cons, List.not_mem_nil, or_false] at hx
  rcases hx with rfl | rfl
  · exact hex_big ⟨n / 16, by omega⟩
  · exact hex_big ⟨n % 16, by omega⟩
theorem tagC_big (sg : UInt8) (hs : 32 ≤ sg.toNat) {k i r g b : Int} (hi : 0 ≤ i ∧ i < 256) (hr : 0 ≤ r ∧ r < 256) (hg : 0 ≤ g ∧ g < 256) (hb : 0 ≤ b ∧ b < 256) : ∀ x ∈ tagC sg k i r g b, 32 ≤ x.toNat := fun x hx => by
  unfold tagC at hx
  split at hx
  · rcases List.mem_cons.1 hx with rfl | hx
    · exact hs
    · have := (dec_all ⟨i.toNat, by omega⟩).2.2.2 x hx; omega
  · split at hx
    · simp only [List.mem_cons, List.mem_append] at hx
      rcases hx with rfl | rfl | (hx | hx) | hx
      · exact hs
      · decide
      · exact hexL_big _ (by omega) x hx
      · exact hexL_big _ (by omega) x hx
      · exact hexL_big _ (by omega) x hx
    · cases hx
theorem tagsL_big (c : Cell) (hb : c.Bd) : ∀ x ∈ tagsL c, 32 ≤ x.toNat := fun x hx => by
  unfold tagsL at hx
  simp only [List.mem_append] at hx
  rcases hx with (hx | hx) | hx
  · exact flags_big ⟨c.flags.toNat, by have := hb.fl; omega⟩ x hx
  · exact tagC_big 43 (by decide) hb.f1 hb.f2 hb.f3 hb.f4 x hx
  · exact tagC_big 45 (by decide) hb.b1 hb.b2 hb.b3 hb.b4 x hx
theorem tag_big (p : Option (List Int)) (c : Cell) (hb : c.Bd) : ∀ x ∈ (if p = some (penOf c) then [] else 91 :: (tagsL c ++ [93])), 32 ≤ x.toNat := by
  split
  · intro x hx; cases hx
  · intro x hx
    simp only [List.mem_cons, List.mem_append, List.not_mem_nil, or_false] at hx
    rcases hx with rfl | hx | rfl
    · decide
    · exact tagsL_big c hb x hx
    · decide
theorem mkFrom_big {U : List Cell} (h : Good U) : (∀ c ∈ U, c.Bd) → ∀ (p : Option (List Int)), ∀ x ∈ mkFrom p U, 32 ≤ x.toNat := by
  induction h with
  | nil => intro _ p x hx; cases hx
  | one c rest hv hw h2 _ ih =>
    intro hb p x hx
    rw [mkFrom] at hx
    rcases List.mem_append.1 hx with hx | hx
    · exact tag_big p c (hb c (List.mem_cons_self ..)) x hx
    · rcases List.mem_append.1 hx with hx | hx
      · exact mkC_big c hv x hx
      · exact ih (fun d hd => hb d (List.mem_cons_of_mem _ hd)) _ x hx
  | two c rest hv h2 _ ih =>
    intro hb p x hx
    rw [mkFrom] at hx
    rcases List.mem_append.1 hx with hx | hx
    · exact tag_big p c (hb c (List.mem_cons_self ..)) x hx
    · rcases List.mem_append.1 hx with hx | hx
      · exact mkC_big c hv x hx
      · rw [mkFrom, if_pos (by rw [penOf_spacer]), mkC_spacer, List.nil_append, List.nil_append] at hx
        exact ih (fun d hd => hb d (List.mem_cons_of_mem _ (List.mem_cons_of_mem _ hd))) _ x hx
/-- A markup has no byte 10. -/
theorem mkL_no10 {cs : List Cell} (h : lnOk cs = true) (hb : ∀ c ∈ cs, c.Bd) (so : Bool) : ∀ x ∈ mkL cs so, x ≠ 10 := by
  intro x hx
  have key : 32 ≤ x.toNat := by
    unfold mkL at hx
    rcases List.mem_append.1 hx with hx | hx
    · exact mkFrom_big (good_used h) (fun c hc => hb c (List.mem_of_mem_take hc)) none x hx
    · cases so
      · cases hx
      · rw [List.mem_singleton.1 hx]; decide
  rintro rfl
  revert key; decide
theorem eol_app (T : List UInt8) : ∀ A : List UInt8, (∀ x ∈ A, x ≠ 10) → eol (A ++ 10 :: T) = A.length
  | [], _ => by rw [List.nil_append]; unfold eol; rw [if_pos (by decide)]; rfl
  | a :: A, h => by
    rw [List.cons_append]
    unfold eol
    rw [if_neg (by have := h a (List.mem_cons_self ..); simpa using this), eol_app T A (fun x hx => h x (List.mem_cons_of_mem _ hx))]
    rfl
theorem pcs_line (A T : List UInt8) (h : ∀ x ∈ A, x ≠ 10) : pcs (A ++ 10 :: T) = (A ++ [10]) :: pcs T := by
  have e : A ++ 10 :: T = (A ++ [10]) ++ T := by simp
  rw [pcs_cons (by simp), eol_app T A h]
  rw [e, List.take_left' (by simp), List.drop_left' (by simp)]
/-- The pieces of a page's text. -/
theorem pcs_page (T : List UInt8) : ∀ ls : List Ln, (∀ x ∈ ls, lnOk x.cells = true ∧ ∀ c ∈ x.cells, c.Bd) → pcs (pageL ls ++ T) = (ls.map fun x => mkL x.cells x.soft ++ [10]) ++ pcs T
  | [], _ => by simp [pageL]
  | x :: ls, h => by
    have hx := h x (List.mem_cons_self ..)
    have e : pageL (x :: ls) ++ T = mkL x.cells x.soft ++ 10 :: (pageL ls ++ T) := by simp [pageL]
    rw [e, pcs_line _ _ (mkL_no10 hx.1 hx.2 x.soft), pcs_page T ls (fun y hy => h y (List.mem_cons_of_mem _ hy))]
    rfl
theorem suffix_line (A : List UInt8) : Lib.hasSuffix (A ++ [10]) [10] = true ∧ Lib.trimSuffix (A ++ [10]) [10] = A := by
  have h : Lib.hasSuffix (A ++ [10]) [10] = true := by
    unfold Lib.hasSuffix
    exact List.isSuffixOf_iff_suffix.2 ⟨A, rfl⟩
  refine ⟨h, ?_⟩
  unfold Lib.trimSuffix
  rw [if_pos h]
  simp
theorem suffix_back {x : List UInt8} (h : Lib.hasSuffix x [10] = true) : Lib.trimSuffix x [10] ++ [10] = x := by
  unfold Lib.hasSuffix at h
  obtain ⟨t, rfl⟩ := List.isSuffixOf_iff_suffix.1 h
  rw [(suffix_line t).2]
/-- A line with more columns. -/
def padL (n : Nat) (x : Ln) : Ln := ⟨x.cells ++ List.replicate (n - x.cells.length) blankC, x.soft⟩
theorem parseF_page {N : Nat} (hN : N ≤ 1000) (xs : List (List UInt8)) : ∀ (ls out : List Ln), (∀ x ∈ ls, lnOk x.cells = true ∧ ∀ c ∈ x.cells, c.Bd) → (∀ x ∈ ls, x.cells.length ≤ N) →
    parseF N ((ls.map fun x => mkL x.cells x.soft ++ [10]) ++ xs) out = parseF N xs (out ++ ls.map (padL N))
  | [], out, _, _ => by simp
  | x :: ls, out, h, hl => by
    have hx := h x (List.mem_cons_self ..)
    have hlx := hl x (List.mem_cons_self ..)
    have hu := usedN_le x.cells
    have e : lineB (mkL x.cells x.soft) N = ((padL N x).cells, (padL N x).soft, 0) := by
      rw [line_mk hx.1 hx.2 x.soft, if_neg (by omega), if_neg (by omega), Int.toNat_natCast, used_pad _ _ hlx]
      rfl
    rw [List.map_cons, List.cons_append, parseF, if_pos (suffix_line _).1, (suffix_line _).2, e, if_pos rfl, parseF_page hN xs ls _ (fun y hy => h y (List.mem_cons_of_mem _ hy)) (fun y hy => hl y (List.mem_cons_of_mem _ hy))]
    simp
theorem parseF_any (N : Int) : ∀ (xs : List (List UInt8)) (out : List Ln), (∀ x ∈ xs, (lineB (Lib.trimSuffix x [10]) N).2.2 = 0 ∨ (lineB (Lib.trimSuffix x [10]) N).2.2 = 6) → (parseF N xs out).2 = 0 ∨ parseF N xs out = ([], 6)
  | [], out, _ => .inl rfl
  | x :: xs, out, h => by
    unfold parseF
    split
    · rcases h x (List.mem_cons_self ..) with e | e
      · rw [if_pos e]; exact parseF_any N xs _ (fun y hy => h y (List.mem_cons_of_mem _ hy))
      · rw [if_neg (by rw [e]; decide), e]; exact .inr rfl
    · exact .inr rfl
/-- Where there is no error: the lines have just this text. -/
theorem parseF_good (N : Int) : ∀ (xs : List (List UInt8)) (out : List Ln), (parseF N xs out).2 = 0 → pageL (parseF N xs out).1 = pageL out ++ xs.flatten ∧ (parseF N xs out).1.length = out.length + xs.length ∧
    ∀ y ∈ (parseF N xs out).1, y ∈ out ∨ (lnOk y.cells = true ∧ ∀ c ∈ y.cells, c.Bd)
  | [], out, _ => ⟨by simp [parseF], by simp [parseF], fun y hy => .inl hy⟩
  | x :: xs, out, h => by
    unfold parseF at h ⊢
    by_cases hs : Lib.hasSuffix x [10] = true
    · rw [if_pos hs] at h ⊢
      by_cases he : (lineB (Lib.trimSuffix x [10]) N).2.2 = 0
      · rw [if_pos he] at h ⊢
        obtain ⟨g1, g2, _, g4⟩ := line_good he
        obtain ⟨k1, k2, k3⟩ := parseF_good N xs _ h
        refine ⟨?_, ?_, ?_⟩
        · rw [k1]
          unfold pageL
          rw [List.flatMap_append, List.flatMap_singleton]
          simp only
          rw [g2, suffix_back hs, List.flatten_cons, List.append_assoc]
        · rw [k2]; simp; omega
        · intro y hy
          rcases k3 y hy with h1 | h1
          · rcases List.mem_append.1 h1 with h1 | h1
            · exact .inl h1
            · obtain rfl := List.mem_singleton.1 h1
              exact .inr ⟨g1, g4⟩
          · exact .inr h1
      · rw [if_neg he] at h; exact absurd h he
    · rw [if_neg hs] at h; exact absurd h (by decide)
theorem pcs_flat : ∀ (n : Nat) (l : List UInt8), l.length ≤ n → (pcs l).flatten = l
  | 0, l, h => by
    obtain rfl : l = [] := List.length_eq_zero_iff.1 (by omega)
    rw [pcs_nil]; rfl
  | n + 1, l, h => by
    by_cases hl : l = []
    · subst hl; rw [pcs_nil]; rfl
    · have hp := List.length_pos_iff.2 hl
      have hd : (l.drop (eol l + 1)).length = l.length - (eol l + 1) := List.length_drop
      rw [pcs_cons hl, List.flatten_cons, pcs_flat n _ (by omega), List.take_append_drop]
theorem short_line {t : List UInt8} (h : t.length ≤ 6) : (lineB t 300).2.2 = 0 ∨ (lineB t 300).2.2 = 6 := by
  have hr := readB_len t
  unfold lineB
  rw [if_neg (by omega), if_neg (by omega)]
  split
  · exact .inr rfl
  · split
    · exact .inr rfl
    · rw [if_neg (by omega)]
      exact .inl rfl
theorem pageL_small : ∀ ls : List Ln, (∀ x ∈ ls, x.cells.length ≤ 24) → (pageL ls).length ≤ ls.length * 1034
  | [], _ => by simp [pageL]
  | x :: ls, h => by
    have h1 := mkL_len x.cells x.soft
    have h2 := h x (List.mem_cons_self ..)
    have h3 := pageL_small ls (fun y hy => h y (List.mem_cons_of_mem _ hy))
    have e : pageL (x :: ls) = mkL x.cells x.soft ++ ([10] ++ pageL ls) := by simp [pageL]
    rw [e, List.length_append, List.length_append, List.length_singleton, List.length_cons]
    omega
/-- A page's text says its lines. -/
theorem parse_page {ls : List Ln} (h : ∀ x ∈ ls, lnOk x.cells = true ∧ ∀ c ∈ x.cells, c.Bd) (h24 : ∀ x ∈ ls, x.cells.length ≤ 24) (h8 : ls.length ≤ 8) (N : Nat) (hN : N ≤ 1000) (hl : ∀ x ∈ ls, x.cells.length ≤ N) : parseB (pageL ls) N = (ls.map (padL N), 0) := by
  have hs := pageL_small ls h24
  have hp := pcs_page [] ls h
  rw [List.append_nil, pcs_nil] at hp
  unfold parseB
  rw [if_neg (by omega), if_neg (by omega), hp, parseF_page hN [] ls [] h hl]
  rfl
theorem parse_cols (l : List UInt8) : parseB l (-1) = ([], 2) ∧ parseB l 1001 = ([], 2) := by
  unfold parseB
  exact ⟨if_pos (.inl (by decide)), if_pos (.inr (by decide))⟩
/-- With other bytes at its end. -/
theorem parse_more {ls : List Ln} (h : ∀ x ∈ ls, lnOk x.cells = true ∧ ∀ c ∈ x.cells, c.Bd) (h24 : ∀ x ∈ ls, x.cells.length ≤ 24) (h8 : ls.length ≤ 8) (more : List UInt8) (hm : more.length ≤ 6) :
    ((parseB (pageL ls ++ more) 300).2 ≠ 0 → parseB (pageL ls ++ more) 300 = ([], 6) ∧ more ≠ []) ∧
    ((parseB (pageL ls ++ more) 300).2 = 0 → pageOk (parseB (pageL ls ++ more) 300).1 = true ∧ pageL (parseB (pageL ls ++ more) 300).1 = pageL ls ++ more ∧ (parseB (pageL ls ++ more) 300).1.length ≤ 20000 ∧ ∀ x ∈ (parseB (pageL ls ++ more) 300).1, ∀ c ∈ x.cells, c.Bd) := by
  have hs := pageL_small ls h24
  have hlen : (pageL ls ++ more).length ≤ 8278 := by rw [List.length_append]; omega
  have hp := pcs_page more ls h
  have e : parseB (pageL ls ++ more) 300 = parseF (300 : Nat) (pcs more) ([] ++ ls.map (padL 300)) := by
    unfold parseB
    rw [if_neg (by omega), if_neg (by omega), hp]
    exact parseF_page (N := 300) (by omega) (pcs more) ls [] h (fun x hx => by have := h24 x hx; omega)
  have e2 : parseB (pageL ls ++ more) 300 = parseF 300 (pcs (pageL ls ++ more)) [] := by
    unfold parseB
    rw [if_neg (by omega), if_neg (by omega)]
  constructor
  · intro hne
    have hk := parseF_any (300 : Nat) (pcs more) ([] ++ ls.map (padL 300)) (fun x hx => by
      have h1 := (pcs_len _ more (Nat.le_refl _)).2 x hx
      have h2 : (Lib.trimSuffix x [10]).length ≤ x.length := by unfold Lib.trimSuffix; split <;> simp
      exact short_line (by omega))
    rw [← e] at hk
    rcases hk with hk | hk
    · exact absurd hk hne
    · refine ⟨hk, fun em => ?_⟩
      subst em
      rw [e, pcs_nil] at hne
      exact hne rfl
  · intro h0
    rw [e2] at h0 ⊢
    obtain ⟨k1, k2, k3⟩ := parseF_good 300 (pcs (pageL ls ++ more)) [] h0
    have hc := (pcs_len _ (pageL ls ++ more) (Nat.le_refl _)).1
    rw [pcs_flat _ _ (Nat.le_refl _)] at k1
    refine ⟨?_, by rw [k1]; rfl, by rw [k2, List.length_nil]; omega, fun x hx => ?_⟩
    · unfold pageOk
      rw [List.all_eq_true]
      intro x hx
      rcases k3 x hx with h1 | h1
      · cases h1
      · exact h1.1
    · rcases k3 x hx with h1 | h1
      · cases h1
      · exact h1.2
end Go.Proofs.YthcndmchlpohpaaGreatDoor
