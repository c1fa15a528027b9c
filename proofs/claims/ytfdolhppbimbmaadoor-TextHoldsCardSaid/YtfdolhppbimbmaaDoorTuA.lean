/- Plain laws for TextHolds (40). No condition. -/
import Derived.Test.YtfdolhppbimbmaaDoorTtZ
import Derived.Test.YtfdolhppbimbmaaDoorTtS
import Derived.Lib.QuoteLoop
namespace Go.Proofs.YtfdolhppbimbmaaDoor
set_option linter.unusedVariables false
set_option linter.unusedSimpArgs false
open Go.RowKit

/-- A rune that a string can have. -/
def okR (r : Int) : Prop := ∃ q : Nat, r = q ∧ (q < 55296 ∨ (57344 ≤ q ∧ q ≤ 1114111))
theorem runesF_ok (s : ByteArray) : ∀ (f pos : Nat), ∀ r ∈ runesF s f pos, okR r
  | 0, _, r, h => by simp [runesF] at h
  | f + 1, pos, r, h => by
    rw [runesF] at h
    split at h
    · rcases List.mem_cons.1 h with rfl | h
      · refine ⟨_, rfl, ?_⟩
        rw [← Lib.decodeL_drop, Lib.decodeL_N]
        have := Lib.decodeN_valid (s.data.toList.drop pos).length ((s.data.toList.drop pos).getD 0 0).toNat ((s.data.toList.drop pos).getD 1 0).toNat ((s.data.toList.drop pos).getD 2 0).toNat ((s.data.toList.drop pos).getD 3 0).toNat (UInt8.toNat_lt _)
        omega
      · exact runesF_ok s f _ r h
    · cases h
theorem runesF_len (s : ByteArray) : ∀ (f pos : Nat), (runesF s f pos).length ≤ f
  | 0, _ => Nat.le_refl _
  | f + 1, pos => by
    rw [runesF]
    split
    · have := runesF_len s f (pos + (Utf8.decode s pos).2)
      rw [List.length_cons]; omega
    · simp
theorem runesF_encs (s : ByteArray) : ∀ (rs : List Int) (f pos : Nat), (∀ r ∈ rs, okR r) → s.data.toList.drop pos = rs.flatMap Lib.encodeRune → (rs.flatMap Lib.encodeRune).length ≤ f → runesF s f pos = rs
  | [], f, pos, _, h, _ => runesF_end s f pos (by
    have := congrArg List.length h
    rw [List.length_drop, ← Lib.size_eq] at this
    simp at this
    omega)
  | r :: rs, f, pos, hr, h, hf => by
    obtain ⟨q, rfl, hv⟩ := hr r List.mem_cons_self
    rw [List.flatMap_cons] at h hf
    have h1 := enc_len4 (q : Int)
    rw [List.length_append] at hf
    obtain ⟨g, rfl⟩ : ∃ g, f = g + 1 := ⟨f - 1, by omega⟩
    have h2 : s.data.toList.drop (pos + (Lib.encodeRune (q : Int)).length) = rs.flatMap Lib.encodeRune := by
      rw [← List.drop_drop, h, List.drop_left]
    rw [runesF_step s g pos q _ hv h, runesF_encs s rs g _ (fun x hx => hr x (List.mem_cons_of_mem _ hx)) h2 (by omega)]
theorem runes_encs (rs : List Int) (h : ∀ r ∈ rs, okR r) : runesS (strL (rs.flatMap Lib.encodeRune)) = rs := by
  unfold runesS
  rw [strL_size]
  exact runesF_encs _ rs _ 0 h (by rw [strL_list]; rfl) (Nat.le_refl _)
/-- The runes that are kept. -/
def fitK : List Int → Int → List Int
  | [], _ => []
  | r :: rs, l => if wOf r < 0 then fitK rs l else if wOf r > l then [] else r :: fitK rs (l - wOf r)
theorem fitK_enc : ∀ (rs : List Int) (l : Int), (fitK rs l).flatMap Lib.encodeRune = (fitL rs l).1
  | [], l => rfl
  | r :: rs, l => by
    rw [fitK, fitL]
    split
    · exact fitK_enc rs l
    · split
      · rfl
      · rw [List.flatMap_cons, fitK_enc rs]
theorem fitK_mem : ∀ (rs : List Int) (l r : Int), r ∈ fitK rs l → r ∈ rs ∧ 0 ≤ wOf r
  | [], l, r, h => by cases h
  | x :: rs, l, r, h => by
    rw [fitK] at h
    split at h
    · have := fitK_mem rs l r h
      exact ⟨List.mem_cons_of_mem _ this.1, this.2⟩
    · split at h
      · cases h
      · rcases List.mem_cons.1 h with rfl | h
        · exact ⟨List.mem_cons_self, by omega⟩
        · have := fitK_mem rs _ r h
          exact ⟨List.mem_cons_of_mem _ this.1, this.2⟩
theorem fitK_sum : ∀ (rs : List Int) (l : Int), ((fitK rs l).map wOf).sum + (fitL rs l).2 = l
  | [], l => by simp [fitK, fitL]
  | r :: rs, l => by
    rw [fitK, fitL]
    split
    · exact fitK_sum rs l
    · split
      · simp
      · have := fitK_sum rs (l - wOf r)
        rw [List.map_cons, List.sum_cons]
        show wOf r + ((fitK rs (l - wOf r)).map wOf).sum + (fitL rs (l - wOf r)).2 = l
        omega
theorem wsum_nonneg : ∀ (rs : List Int), (∀ r ∈ rs, 0 ≤ wOf r) → 0 ≤ (rs.map wOf).sum
  | [], _ => by simp
  | r :: rs, h => by
    have h1 := wsum_nonneg rs (fun x hx => h x (List.mem_cons_of_mem _ hx))
    have h2 := h r List.mem_cons_self
    rw [List.map_cons, List.sum_cons]
    omega
theorem fitL_all : ∀ (rs : List Int) (l : Int), (∀ r ∈ rs, 0 ≤ wOf r) → (rs.map wOf).sum = l → fitL rs l = (rs.flatMap Lib.encodeRune, 0)
  | [], l, _, h => by
    have : l = 0 := by simpa using h.symm
    rw [this]; rfl
  | r :: rs, l, hr, h => by
    have h1 := wsum_nonneg rs (fun x hx => hr x (List.mem_cons_of_mem _ hx))
    have h2 := hr r List.mem_cons_self
    rw [List.map_cons, List.sum_cons] at h
    rw [fitL, if_neg (by omega), if_neg (by omega), fitL_all rs (l - wOf r) (fun x hx => hr x (List.mem_cons_of_mem _ hx)) (by omega), List.flatMap_cons]
theorem wid_sum : ∀ (rs : List Int), (∀ r ∈ rs, 0 ≤ wOf r) → widL rs = (rs.map wOf).sum
  | [], _ => rfl
  | r :: rs, h => by
    have h1 := wid_sum rs (fun x hx => h x (List.mem_cons_of_mem _ hx))
    have h2 := h r List.mem_cons_self
    rw [widL_cons, h1, List.map_cons, List.sum_cons, Int.max_eq_right h2]
theorem wOf_sp : wOf 32 = 1 := by kernel_rfl
theorem enc_sp : Lib.encodeRune 32 = [32] := by kernel_rfl
/-- The runes of a fitted string. -/
def fitR (s : ByteArray) (n : Int) : List Int := fitK (runesS s) n ++ List.replicate (fitL (runesS s) n).2.toNat 32
theorem enc_sps : ∀ (m : Nat), (List.replicate m (32 : Int)).flatMap Lib.encodeRune = List.replicate m 32
  | 0 => rfl
  | m + 1 => by rw [List.replicate_succ, List.flatMap_cons, enc_sps m, enc_sp]; rfl
theorem fitR_enc (s : ByteArray) (n : Int) : (fitR s n).flatMap Lib.encodeRune = fitS s n := by
  unfold fitR fitS
  rw [List.flatMap_append, fitK_enc, enc_sps]
theorem fitR_ok (s : ByteArray) (n : Int) : ∀ r ∈ fitR s n, okR r := by
  intro r h
  rcases List.mem_append.1 h with h | h
  · exact runesF_ok s _ _ r (fitK_mem _ _ _ h).1
  · exact ⟨32, (List.mem_replicate.1 h).2, .inl (by decide)⟩
theorem fitR_pos (s : ByteArray) (n : Int) : ∀ r ∈ fitR s n, 0 ≤ wOf r := by
  intro r h
  rcases List.mem_append.1 h with h | h
  · exact (fitK_mem _ _ _ h).2
  · rw [(List.mem_replicate.1 h).2, wOf_sp]; decide
theorem wsum_sps : ∀ (m : Nat), ((List.replicate m (32 : Int)).map wOf).sum = m
  | 0 => rfl
  | m + 1 => by
    rw [List.replicate_succ, List.map_cons, List.sum_cons, wsum_sps m, wOf_sp]
    omega
theorem fitR_sum (s : ByteArray) (n : Int) (hn : 0 ≤ n) : ((fitR s n).map wOf).sum = n := by
  have h1 := fitK_sum (runesS s) n
  have h2 := (fitL_left (runesS s) n hn).1
  unfold fitR
  rw [List.map_append, List.sum_append, wsum_sps]
  omega
theorem fit_runes (s : ByteArray) (n : Int) : runesS (strL (fitS s n)) = fitR s n := by
  rw [← fitR_enc, runes_encs _ (fitR_ok s n)]
theorem fit_width (s : ByteArray) (n : Int) (hn : 0 ≤ n) : widL (runesS (strL (fitS s n))) = n := by
  rw [fit_runes, wid_sum _ (fitR_pos s n), fitR_sum s n hn]
theorem fit_again (s : ByteArray) (n : Int) (hn : 0 ≤ n) : fitS (strL (fitS s n)) n = fitS s n := by
  have h := fitL_all (fitR s n) n (fitR_pos s n) (fitR_sum s n hn)
  unfold fitS
  rw [show strL ((fitL (runesS s) n).1 ++ List.replicate (fitL (runesS s) n).2.toNat 32) = strL (fitS s n) from rfl, fit_runes, h]
  show (fitR s n).flatMap Lib.encodeRune ++ List.replicate (0 : Int).toNat 32 = _
  rw [fitR_enc]
  show fitS s n ++ [] = _
  rw [List.append_nil]
  rfl
theorem encs_len : ∀ (rs : List Int), (rs.flatMap Lib.encodeRune).length ≤ 4 * rs.length
  | [] => Nat.le_refl _
  | r :: rs => by
    have h1 := encs_len rs
    have h2 := (enc_len4 r).2
    rw [List.flatMap_cons, List.length_append, List.length_cons]
    omega
theorem fitK_len : ∀ (rs : List Int) (l : Int), (fitK rs l).length ≤ rs.length
  | [], l => Nat.le_refl _
  | r :: rs, l => by
    rw [fitK]
    split
    · have := fitK_len rs l; rw [List.length_cons]; omega
    · split
      · simp
      · have := fitK_len rs (l - wOf r); rw [List.length_cons, List.length_cons]; omega
theorem fitS_len (s : ByteArray) (n : Int) (hs : s.size ≤ 100) (h0 : 0 ≤ n) (h1 : n ≤ 1000) : (fitS s n).length ≤ 10000 := by
  have a1 := encs_len (fitR s n)
  have a2 := fitK_len (runesS s) n
  have a3 := runesF_len s s.size 0
  have a4 := fitL_left (runesS s) n h0
  rw [fitR_enc] at a1
  have a5 : (fitR s n).length = (fitK (runesS s) n).length + (fitL (runesS s) n).2.toNat := by unfold fitR; rw [List.length_append, List.length_replicate]
  have a6 : (runesS s).length ≤ s.size := a3
  omega

/-- Offsets and columns. -/
theorem off_mono (cs : List Cell) {i j : Nat} (h : i ≤ j) : (txts (cs.take i)).length ≤ (txts (cs.take j)).length := by
  have e := (List.take_append_drop i (cs.take j)).symm
  rw [List.take_take, Nat.min_eq_left h] at e
  rw [e, txts_append, List.length_append]
  omega
theorem colL_off : ∀ (cs : List Cell) (k : Nat) (c : Cell), cs[k]? = some c → c.txt ≠ [] → colL cs ((txts (cs.take k)).length : Int) = k
  | [], k, c, h, _ => by simp at h
  | x :: cs, 0, c, h, ht => by
    have e : x = c := by simpa using h
    subst e
    have := List.length_pos_iff.2 ht
    rw [List.take_zero]
    show (if ((txts ([] : List Cell)).length : Int) < (x.txt.length : Int) then (0 : Int) else _) = _
    rw [if_pos (by show ((0 : Nat) : Int) < _; omega)]
    rfl
  | x :: cs, k + 1, c, h, ht => by
    have h1 := colL_off cs k c (by simpa using h) ht
    rw [List.take_succ_cons, show txts (x :: cs.take k) = x.txt ++ txts (cs.take k) from rfl, List.length_append, colL, if_neg (by omega)]
    rw [show ((x.txt.length + (txts (cs.take k)).length : Nat) : Int) - (x.txt.length : Int) = ((txts (cs.take k)).length : Int) by omega, h1]
    omega

/-- A block of everything. -/
theorem row_first {cs : List Cell} (h : lnOk cs = true) {c : Cell} (hc : cs[0]? = some c) : (c.width == 0) = false := by
  unfold lnOk at h
  rw [Bool.and_eq_true] at h
  have h2 := h.2
  unfold rowOk at h2
  rw [List.all_eq_true] at h2
  have h3 := h2 0 (List.mem_range.2 (List.getElem?_eq_some_iff.1 hc).1)
  have h4 : rowBad cs 0 = false := by simpa using h3
  unfold rowBad at h4
  rw [hc] at h4
  simp only [] at h4
  unfold cellBad at h4
  simp only [Bool.or_eq_false_iff] at h4
  have h5 := h4.1.1.2
  have h6 : behindAt cs 0 = false := rfl
  rw [h6] at h5
  simpa using h5
theorem row_last {cs : List Cell} (h : lnOk cs = true) {k : Nat} {c : Cell} (hc : cs[k]? = some c) (hk : k + 1 = cs.length) : (c.width == 2) = false := by
  unfold lnOk at h
  rw [Bool.and_eq_true] at h
  have h2 := h.2
  unfold rowOk at h2
  rw [List.all_eq_true] at h2
  have h3 := h2 k (List.mem_range.2 (List.getElem?_eq_some_iff.1 hc).1)
  have h4 : rowBad cs k = false := by simpa using h3
  unfold rowBad at h4
  rw [hc] at h4
  simp only [] at h4
  unfold cellBad at h4
  simp only [Bool.or_eq_false_iff] at h4
  have h5 := h4.2
  rw [hk] at h5
  simpa using h5
theorem part_all {cs : List Cell} (h : lnOk cs = true) (hn : cs.length ≤ 999) : ∀ j, j ≤ cs.length → partTo cs 0 999 j = txts (cs.take j)
  | 0, _ => rfl
  | j + 1, hj => by
    have hx : cs[j]? = some cs[j] := List.getElem?_eq_getElem (by omega)
    have hx0 : cs[0 + j]? = some cs[j] := by rw [Nat.zero_add]; exact hx
    have e : halfC cs 0 999 (0 + j) cs[j] = false := by
      unfold halfC
      rw [Nat.zero_add, Bool.or_eq_false_iff, Bool.and_eq_false_iff, Bool.and_eq_false_iff]
      constructor
      · by_cases h0 : j = 0
        · subst h0
          exact .inl (row_first h hx)
        · exact .inr (by simpa using h0)
      · by_cases h1 : j + 1 = cs.length
        · exact .inl (row_last h hx h1)
        · refine .inr ?_
          rw [Bool.or_eq_false_iff]
          exact ⟨by simp; omega, by simpa using h1⟩
    rw [partTo_step hx0, part_all h hn j (by omega), e, txts_step hx]
    rfl
theorem usedTo_rest (cs : List Cell) : ∀ n k, usedTo cs n ≤ k → k < n → cs[k]? = some blankC
  | 0, k, _, h => by omega
  | n + 1, k, h1, h2 => by
    rw [usedTo] at h1
    split at h1
    · rename_i hb
      rcases Nat.lt_or_ge k n with h | h
      · exact usedTo_rest cs n k h1 h
      · obtain rfl : k = n := by omega
        exact hb
    · omega
theorem drop_used (cs : List Cell) : cs.drop (usedN cs) = List.replicate (cs.length - usedN cs) blankC := by
  refine List.ext_getElem? fun j => ?_
  rw [List.getElem?_drop, List.getElem?_replicate]
  split
  · exact usedTo_rest cs cs.length _ (by unfold usedN; omega) (by omega)
  · rw [List.getElem?_eq_none (by omega)]
theorem trim_sps (a : List UInt8) (m : Nat) : Lib.trimRightB (a ++ List.replicate m 32) 32 = Lib.trimRightB a 32 := by
  unfold Lib.trimRightB
  rw [List.reverse_append, List.reverse_replicate]
  congr 1
  induction m with
  | zero => rfl
  | succ m ih => rw [List.replicate_succ, List.cons_append, List.dropWhile_cons, if_pos (by decide), ih]
theorem txts_blanks : ∀ (m : Nat), txts (List.replicate m blankC) = List.replicate m 32
  | 0 => rfl
  | m + 1 => by
    rw [List.replicate_succ, show txts (blankC :: List.replicate m blankC) = blankC.txt ++ txts (List.replicate m blankC) from rfl, txts_blanks m]
    rfl
theorem blk_all {x : Ln} (h : lnOk x.cells = true) (hn : x.cells.length ≤ 999) : blkRow 0 999 x = Lib.trimRightB (rowTxt x).data.toList 32 := by
  rw [blkRow_part 0 999 x h (by decide)]
  unfold partB
  rw [Nat.min_eq_right (by omega), Nat.sub_zero, part_all h hn _ (Nat.le_refl _), List.take_length]
  have e : txts x.cells = txts (x.part true) ++ List.replicate (x.cells.length - usedN x.cells) 32 := by
    rw [← txts_blanks, ← drop_used, ← txts_append]
    unfold Ln.part
    rw [if_pos rfl, List.take_append_drop]
  rw [e, trim_sps]
  rfl
end Go.Proofs.YtfdolhppbimbmaaDoor
