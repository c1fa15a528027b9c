/- Plain laws for SearchHolds and SearchMany (42). No condition. -/
import Derived.Test.YtfdolhppbimbmaaDoorSrZ
namespace Go.Proofs.YtfdolhppbimbmaaDoor
set_option linter.unusedVariables false
set_option linter.unusedSimpArgs false
open Go Go.RowKit

theorem one_ok {cs : List Cell} (hl : cs.length ≤ 1000) (h : ∀ c ∈ cs, c.valid = true ∧ c.width = 1) : lnOk cs = true := by
  unfold lnOk
  rw [decide_eq_true hl, Bool.true_and]
  refine rowOk_all fun k hk => ?_
  unfold rowBad
  obtain ⟨c, hc⟩ : ∃ c, cs[k]? = some c := ⟨_, List.getElem?_eq_getElem hk⟩
  rw [hc]
  have h1 := h c (List.mem_iff_getElem?.2 ⟨_, hc⟩)
  have hb : behindAt cs k = false := by
    cases k with
    | zero => rfl
    | succ m =>
      obtain ⟨p, hp⟩ : ∃ p, cs[m]? = some p := ⟨_, List.getElem?_eq_getElem (by omega)⟩
      show (match cs[m]? with | some p => p.width == 2 | none => false) = false
      rw [hp]
      show (p.width == 2) = false
      rw [(h p (List.mem_iff_getElem?.2 ⟨_, hp⟩)).2]
      rfl
  show cellBad _ _ _ _ = false
  unfold cellBad
  rw [hb, h1.1, h1.2]
  simp
theorem ok_valid {cs : List Cell} (h : lnOk cs = true) {c : Cell} (hc : c ∈ cs) : c.valid = true := by
  unfold lnOk at h
  rw [Bool.and_eq_true] at h
  obtain ⟨k, hk⟩ := List.mem_iff_getElem?.1 hc
  have hkl := (List.getElem?_eq_some_iff.1 hk).1
  have h2 := h.2
  unfold rowOk at h2
  have := List.all_eq_true.1 h2 k (List.mem_range.2 hkl)
  unfold rowBad at this
  rw [hk] at this
  simp only [cellBad] at this
  cases hv : c.valid
  · rw [hv] at this; simp at this
  · rfl
theorem blank_valid : blankC.valid = true := by kernel_rfl
theorem wraps_ok {c : Nat} (hc1 : 1 ≤ c) (hc2 : c ≤ 1000) {ls : List Ln} (hv : ∀ x ∈ ls, ∀ d ∈ x.cells, d.valid = true ∧ d.width = 1) : rowsOk ((segsC [] ls).flatMap fun cs => wrapRows c (cs.length + 1) cs) 0 = true := by
  have hrow : ∀ x ∈ (segsC [] ls).flatMap fun cs => wrapRows c (cs.length + 1) cs, x.cells.length = c ∧ lnOk x.cells = true := by
    intro x hx
    obtain ⟨cs, hcs, hx⟩ := List.mem_flatMap.1 hx
    obtain ⟨h1, h2⟩ := wrapRows_mem hx
    refine ⟨h1, one_ok (by omega) fun d hd => ?_⟩
    rcases h2 d hd with h | rfl
    · rcases segsC_mem hcs h with h | ⟨y, hy, hd'⟩
      · cases h
      · exact hv y hy d hd'
    · exact ⟨blank_valid, rfl⟩
  generalize ((segsC [] ls).flatMap fun cs => wrapRows c (cs.length + 1) cs) = L at *
  unfold rowsOk scrB
  rw [decide_eq_true (p := (0 : Int) ≥ 0) (by omega), decide_eq_true (p := (0 : Int) ≤ 1099511627776) (by omega), Bool.and_self, Bool.and_true, List.all_eq_true]
  intro x hx
  have h1 := hrow x hx
  have h2 : cols L = c := by
    cases L with
    | nil => cases hx
    | cons y ys => exact (hrow y List.mem_cons_self).1
  unfold scrAt
  rw [h1.2, h1.1, h2]
  simp
  omega

/-- One match ends before the next one begins. -/
def mtLt (a b : Mt) : Prop := a.l1 < b.l0 ∨ (a.l1 = b.l0 ∧ a.c1 ≤ b.c0)
theorem hits_gap {p : List UInt8} (hp : p ≠ []) : ∀ {t : List UInt8} {i s : Nat}, (hits p i s t).Pairwise (fun a b => a + p.length ≤ b)
  | [], _, _ => by simp [hits]
  | b :: t, i, s + 1 => by rw [hits]; exact hits_gap hp
  | b :: t, i, 0 => by
    rw [hits]
    split
    · rw [List.pairwise_cons]
      refine ⟨fun n hn => ?_, hits_gap hp⟩
      rw [hits_skip] at hn
      have := (hits_in hp hn).1
      have hpl := List.length_pos_iff.2 hp
      omega
    · exact hits_gap hp
theorem matchS_gap {p : List UInt8} (hp : p ≠ []) {fold : Bool} {s : List Bp} (h : s.Pairwise bpLe) : (matchS p fold s).Pairwise mtLt := by
  unfold matchS
  rw [List.pairwise_map]
  refine List.Pairwise.imp_of_mem ?_ (hits_gap hp (t := lowB fold s) (i := 0) (s := 0))
  intro a b ha hb hab
  have h2 := (hits_in hp hb).2
  rw [lowB_len] at h2
  have hpl := List.length_pos_iff.2 hp
  exact getD_le h (show a + p.length - 1 < b by omega) (by omega)
theorem allM_gap (ls : List Ln) (first : Int) {p : List UInt8} (hp : p ≠ []) (fold : Bool) : (allM ls first p fold).Pairwise mtLt := by
  have hp' : p.map (low fold) ≠ [] := by simpa using hp
  have hs := segs_sorted (ls := ls) (n := first) (acc := []) List.Pairwise.nil (fun y hy => by cases hy)
  rw [List.pairwise_flatten] at hs
  unfold allM
  rw [List.pairwise_flatMap]
  refine ⟨fun s hm => matchS_gap hp' (hs.1 s hm), hs.2.imp ?_⟩
  intro a b hab x hx y hy
  obtain ⟨x0, hx0, x1, hx1, rfl⟩ := matchS_mem hp' hx
  obtain ⟨y0, hy0, y1, hy1, rfl⟩ := matchS_mem hp' hy
  exact hab x1 hx1 y0 hy0
theorem befB_not {l c l' c' : Int} (h : l' < l ∨ (l' = l ∧ c' ≤ c)) : befB l c l' c' = false := by
  unfold befB
  rw [Bool.or_eq_false_iff, Bool.and_eq_false_iff]
  refine ⟨decide_eq_false (by omega), ?_⟩
  by_cases e : l = l'
  · exact .inr (decide_eq_false (by omega))
  · exact .inl (by simpa using e)
theorem befB_yes {l c l' c' : Int} (h : befB l c l' c' = true) : l < l' ∨ (l = l' ∧ c < c') := by
  unfold befB at h
  simpa using h
theorem pair_at {ms : List Mt} {R : Mt → Mt → Prop} (h : ms.Pairwise R) {i : Nat} {x y : Mt} (hx : ms[i]? = some x) (hy : ms[i + 1]? = some y) : R x y := by
  have h1 := List.getElem?_eq_some_iff.1 hx
  have h2 := List.getElem?_eq_some_iff.1 hy
  have := List.pairwise_iff_getElem.1 h i (i + 1) h1.1 h2.1 (by omega)
  rwa [h1.2, h2.2] at this

/-- Rows of a letter, many. -/
def mRow (c : UInt8) (soft : Bool) : Ln := ⟨List.replicate 100 (chC c), soft⟩
theorem repB_len (c : UInt8) (n : Int) (k m : Nat) : (repB c n k m).length = m := by unfold repB; simp
section
variable {c : UInt8} {soft : Bool} (h1 : 32 ≤ c.toNat) (h2 : c.toNat ≤ 126)
include h1 h2
theorem mRow_rowB (n : Int) (last : Bool) : rowB n last (mRow c soft) = repB c n 0 100 := by
  unfold rowB mRow
  rw [rep_part h1, cellsB_rep h1 h2]
theorem rowsF_len : ∀ (n : Nat) (k : Int), (rowsF k (List.replicate n (mRow c soft))).length = 100 * n
  | 0, k => rfl
  | n + 1, k => by rw [List.replicate_succ, rowsF, List.length_append, mRow_rowB h1 h2, repB_len, rowsF_len n]; omega
theorem rowsF_get : ∀ (n : Nat) (k : Int) (i : Nat), i < 100 * n → (rowsF k (List.replicate n (mRow c soft)))[i]? = some ⟨c, k + ((i / 100 : Nat) : Int), ((i % 100 : Nat) : Int)⟩
  | 0, k, i, h => by omega
  | n + 1, k, i, h => by
    rw [List.replicate_succ, rowsF, mRow_rowB h1 h2]
    rcases Nat.lt_or_ge i 100 with hi | hi
    · rw [List.getElem?_append_left (by rw [repB_len]; exact hi)]
      unfold repB
      rw [List.getElem?_map, List.getElem?_range' hi, Nat.div_eq_of_lt hi, Nat.mod_eq_of_lt hi]
      simp
    · rw [List.getElem?_append_right (by rw [repB_len]; exact hi), repB_len, rowsF_get n (k + 1) (i - 100) (by omega)]
      have e1 : i / 100 = (i - 100) / 100 + 1 := by omega
      have e2 : i % 100 = (i - 100) % 100 := by omega
      rw [e1, e2]
      congr 2
      push_cast
      omega
theorem rowsF_b : ∀ (n : Nat) (k : Int), (rowsF k (List.replicate n (mRow c soft))).map Bp.b = List.replicate (100 * n) c
  | 0, k => rfl
  | n + 1, k => by
    rw [List.replicate_succ, rowsF, List.map_append, mRow_rowB h1 h2, repB_b, rowsF_b n, List.replicate_append_replicate]
    congr 1
    omega
theorem segs_soft : ∀ (n : Nat) (k : Int) (acc : List Bp), 1 ≤ n → segs k acc (List.replicate n (mRow c true)) = [acc ++ rowsF k (List.replicate n (mRow c true))]
  | 0, _, _, h => by omega
  | n + 1, k, acc, _ => by
    rw [List.replicate_succ, segs, rowsF, mRow_rowB h1 h2, mRow_rowB h1 h2]
    cases n with
    | zero => simp [segs, rowsF]
    | succ n => rw [if_pos (by simp [mRow, List.replicate_succ]), segs_soft (n + 1) (k + 1) _ (by omega), List.append_assoc]
theorem segs_hard : ∀ (n : Nat) (k : Int), (segs k [] (List.replicate n (mRow c false))).map (lowB false) = List.replicate n (List.replicate 100 c)
  | 0, _ => rfl
  | n + 1, k => by
    rw [List.replicate_succ, segs, if_neg (by simp [mRow]), List.map_cons, List.nil_append, mRow_rowB h1 h2, lowB_false, repB_b, segs_hard n]
    rfl
theorem many3 (n : Nat) (hn : 1 ≤ n) : (allM (List.replicate n (mRow c soft)) 0 [c, c, c] false).length = if soft then 100 * n / 3 else 33 * n := by
  rw [allM_len, map_low_false]
  cases soft
  · rw [segs_hard h1 h2, List.map_replicate, show [c, c, c] = List.replicate 3 c from rfl, hits_rep (by decide)]
    simp
    omega
  · rw [segs_soft h1 h2 n 0 [] hn, List.nil_append, List.map_singleton, List.map_singleton, lowB_false, rowsF_b h1 h2, show [c, c, c] = List.replicate 3 c from rfl, hits_rep (by decide)]
    simp
theorem manyAll {q : UInt8} {fold : Bool} (hq : low fold q = c) (hc : low fold c = c) (n : Nat) : allM (List.replicate n (mRow c soft)) 0 [q] fold = (rowsF 0 (List.replicate n (mRow c soft))).map Bp.mt := by
  have hs := segs_flat (ls := List.replicate n (mRow c soft)) (n := 0) (acc := []) (fun x hx => by rw [(List.mem_replicate.1 hx).2]; exact rep_part h1)
  have hs' : (segs 0 [] (List.replicate n (mRow c soft))).flatten = rowsF 0 (List.replicate n (mRow c soft)) := by
    rw [hs]
    split <;> simp
  have hb : ∀ s ∈ segs 0 [] (List.replicate n (mRow c soft)), matchS [c] fold s = s.map Bp.mt := by
    intro s hm
    refine matchS_each fun x hx => ?_
    have hx' : x.b ∈ (rowsF 0 (List.replicate n (mRow c soft))).map Bp.b := List.mem_map_of_mem (by rw [← hs']; exact List.mem_flatten.2 ⟨s, hm, hx⟩)
    rw [rowsF_b h1 h2] at hx'
    rw [(List.mem_replicate.1 hx').2, hc]
  unfold allM
  rw [show [q].map (low fold) = [c] by simp [hq], List.flatMap_def, List.map_congr_left hb, ← List.map_flatten, hs']
theorem many_rows (n : Nat) : rowsOk (List.replicate n (mRow c soft)) 0 = true := by
  unfold rowsOk scrB
  rw [decide_eq_true (p := (0 : Int) ≥ 0) (by omega), decide_eq_true (p := (0 : Int) ≤ 1099511627776) (by omega), Bool.and_self, Bool.and_true, List.all_eq_true]
  intro x hx
  have hcols : cols (List.replicate n (mRow c soft)) = 100 := by
    cases n with
    | zero => cases hx
    | succ n => rw [List.replicate_succ]; exact List.length_replicate
  rw [(List.mem_replicate.1 hx).2, hcols]
  unfold scrAt mRow
  rw [rep_ok h1 h2 (by omega), List.length_replicate]
  rfl
end
theorem low_up {c : UInt8} (h1 : 97 ≤ c.toNat) (h2 : c.toNat ≤ 122) : low true (c - 32) = c ∧ low true c = c ∧ low false c = c := by
  have h3 : (c - 32).toNat = c.toNat - 32 := by
    rw [UInt8.toNat_sub]
    show (256 - 32 + c.toNat) % 256 = _
    omega
  refine ⟨?_, ?_, low_false c⟩
  · unfold low
    rw [decide_eq_true (show (65 : UInt8) ≤ c - 32 by rw [UInt8.le_iff_toNat_le, h3]; show 65 ≤ _; omega), decide_eq_true (show c - 32 ≤ 90 by rw [UInt8.le_iff_toNat_le, h3]; show _ ≤ 90; omega)]
    apply UInt8.toNat_inj.1
    simp only [Bool.and_self, ↓reduceIte, UInt8.toNat_add, h3]
    show (c.toNat - 32 + 32) % 256 = _
    have := c.toNat_lt
    omega
  · unfold low
    rw [if_neg]
    rw [decide_eq_false (p := c ≤ 90) (fun h => by rw [UInt8.le_iff_toNat_le] at h; have h : c.toNat ≤ 90 := h; omega)]
    simp
end Go.Proofs.YtfdolhppbimbmaaDoor
