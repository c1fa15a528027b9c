/- The text of a part of a valid row, fixed (40): plain law. No condition. -/
import Derived.Test.YtfdolhppbimbmaaDoorTtW
namespace Go.Proofs.YtfdolhppbimbmaaDoor
set_option linter.unusedVariables false
set_option linter.unusedSimpArgs false
open Go.RowKit

theorem txt_blank (c : Cell) : c.blankP.txt = [32] := rfl
theorem txt_zero {c : Cell} (h : c.width = 0) : c.txt = [] := by unfold Cell.txt; rw [if_pos h]
theorem txt_spacer (c : Cell) : c.spacer.txt = [] := rfl
/-- What a cell's text becomes: by its neighbours in the row as it was. -/
def fixT (cs : List Cell) (k : Nat) (c : Cell) : List UInt8 := if (c.width == 0 && !leftAt cs k) || (c.width == 2 && !rightAt cs k) then [32] else c.txt
theorem fixC_txt (cs : List Cell) (k : Nat) (c : Cell) : (fixC cs k c).txt = if (c.width == 0 && !leftAt cs k) || (c.width == 2 && !rightAt cs k) then [32] else if c.width == 0 then (beforeC cs c k).txt else c.txt := by
  unfold fixC
  split
  · rfl
  · split <;> rfl
def halfZ (zs : List Cell) (j : Nat) (c : Cell) : Bool := (c.width == 0 && j == 0) || (c.width == 2 && j + 1 == zs.length)
theorem fix_inv (zs : List Cell) (h0 : ∀ (k : Nat) p c, zs[k]? = some p → zs[k + 1]? = some c → (c.width = 0 ↔ p.width = 2)) : ∀ k, k ≤ zs.length → (∀ j, k ≤ j → (fixTo zs k)[j]? = zs[j]?) ∧ (∀ (j : Nat) c, j < k → zs[j]? = some c → ∃ d, (fixTo zs k)[j]? = some d ∧ d.txt = (if halfZ zs j c then [32] else c.txt) ∧ (d.width = 2 ↔ (c.width = 2 ∧ j + 1 < zs.length)))
  | 0, _ => ⟨fun _ _ => rfl, fun j c h => by omega⟩
  | k + 1, hk => by
    obtain ⟨i1, i2⟩ := fix_inv zs h0 k (by omega)
    have hc : zs[k]? = some zs[k] := List.getElem?_eq_getElem (by omega)
    obtain ⟨c, hcc⟩ : ∃ c, c = zs[k] := ⟨_, rfl⟩
    rw [← hcc] at hc
    have hT : (fixTo zs k)[k]? = some c := by rw [i1 k (Nat.le_refl _)]; exact hc
    rw [fixTo_step hT]
    have hlen : k < (fixTo zs k).length := by rw [fixTo_len]; omega
    refine ⟨fun j hj => ?_, fun j e hj he => ?_⟩
    · rw [List.getElem?_set_ne (by omega)]; exact i1 j (by omega)
    by_cases hjk : j = k
    · subst hjk
      rw [hc] at he
      cases he
      rw [List.getElem?_set_self hlen]
      refine ⟨_, rfl, ?_, ?_⟩
      all_goals
        have hright : rightAt (fixTo zs j) j = (match zs[j + 1]? with | some p => p.width == 0 | none => false) := by unfold rightAt; rw [i1 (j + 1) (by omega)]; cases zs[j + 1]? <;> rfl
        have hr2 : c.width = 2 → (rightAt (fixTo zs j) j = true ↔ j + 1 < zs.length) := fun h2 => by
          rw [hright]
          by_cases hl : j + 1 < zs.length
          · have hx := List.getElem?_eq_getElem hl
            rw [hx]
            have := (h0 j c _ hc hx).2 h2
            simp [this, hl]
          · rw [List.getElem?_eq_none (by omega)]
            simp [hl]
        have hl2 : c.width = 0 → (leftAt (fixTo zs j) j = true ↔ j ≠ 0) := fun hz => by
          cases j with
          | zero => simp [leftAt]
          | succ m =>
            have hx : zs[m]? = some zs[m] := List.getElem?_eq_getElem (by omega)
            obtain ⟨d, d1, d2, d3⟩ := i2 m _ (by omega) hx
            rw [show leftAt (fixTo zs (m + 1)) (m + 1) = (d.width == 2) by simp [leftAt, d1]]
            have := d3.2 ⟨(h0 m _ c hx hc).1 hz, by omega⟩
            simp [this]
      · rw [fixC_txt]
        unfold halfZ
        by_cases hz : c.width = 0
        · have hb : (beforeC (fixTo zs j) c j).txt = c.txt ∨ j = 0 := by
            cases j with
            | zero => exact .inr rfl
            | succ m => exact .inl (by rw [txt_zero hz]; rfl)
          have := hl2 hz
          by_cases hj0 : j = 0
          · simp [hz, hj0] at this ⊢
            simp [this]
          · rcases hb with hb | hb
            · simp [hz, hj0] at this ⊢
              simp [this, hb]
            · exact absurd hb hj0
        · by_cases h2 : c.width = 2
          · have := hr2 h2
            by_cases hl : j + 1 < zs.length
            · simp [h2, hl] at this ⊢
              simp [this, show ¬ (j + 1 = zs.length) by omega]
            · simp [h2, hl] at this ⊢
              simp [this, show j + 1 = zs.length by omega]
          · simp [hz, h2]
      · unfold fixC
        by_cases hz : c.width = 0
        · have := hl2 hz
          by_cases hj0 : j = 0
          · simp [hz, hj0] at this ⊢
            simp [this, Cell.blankP]
          · simp [hz, hj0] at this ⊢
            simp [this]
            cases j with
            | zero => exact absurd rfl hj0
            | succ m => simp [beforeC, Cell.spacer]
        · by_cases h2 : c.width = 2
          · have := hr2 h2
            by_cases hl : j + 1 < zs.length
            · simp [h2, hl] at this ⊢
              simp [this, h2]
            · simp [h2, hl] at this ⊢
              simp [this, Cell.blankP]
          · simp [hz, h2]
    · rw [List.getElem?_set_ne (by omega)]
      exact i2 j e (by omega) he
theorem row_pairs {cs : List Cell} (h : lnOk cs = true) (k : Nat) (p c : Cell) (hp : cs[k]? = some p) (hc : cs[k + 1]? = some c) : c.width = 0 ↔ p.width = 2 := by
  unfold lnOk at h
  rw [Bool.and_eq_true] at h
  have h2 := h.2
  unfold rowOk at h2
  rw [List.all_eq_true] at h2
  have h3 := h2 (k + 1) (List.mem_range.2 (List.getElem?_eq_some_iff.1 hc).1)
  have h4 : rowBad cs (k + 1) = false := by simpa using h3
  unfold rowBad at h4
  rw [hc] at h4
  simp only [] at h4
  have hb : behindAt cs (k + 1) = (p.width == 2) := by simp [behindAt, hp]
  rw [hb] at h4
  unfold cellBad at h4
  simp only [Bool.or_eq_false_iff] at h4
  have h5 := h4.1.1.2
  have h6 : (c.width == 0) = (p.width == 2) := by simpa using h5
  constructor
  · intro hz
    rw [hz] at h6
    have : (p.width == 2) = true := h6.symm
    simpa using this
  · intro hz
    rw [hz] at h6
    have : (c.width == 0) = true := h6
    simpa using this
theorem part_fix (cs : List Cell) (h : lnOk cs = true) (l r : Nat) (hl : l ≤ r) : partB cs l r = txts (fixL ((cs.drop (min l cs.length)).take (min (r + 1) cs.length - min l cs.length))) := by
  by_cases hln : l < cs.length
  · obtain ⟨zs, hz⟩ : ∃ zs, zs = (cs.drop l).take (min (r + 1) cs.length - l) := ⟨_, rfl⟩
    have hzl : zs.length = min (r + 1) cs.length - l := by rw [hz, List.length_take, List.length_drop]; omega
    rw [show min l cs.length = l by omega, ← hz]
    have hat : ∀ j, j < zs.length → zs[j]? = cs[l + j]? := fun j hj => by rw [hz, List.getElem?_take, if_pos (by omega), List.getElem?_drop]
    have h0 : ∀ (k : Nat) p c, zs[k]? = some p → zs[k + 1]? = some c → (c.width = 0 ↔ p.width = 2) := fun k p c hp hc => by
      have q1 := (List.getElem?_eq_some_iff.1 hp).1
      have q2 := (List.getElem?_eq_some_iff.1 hc).1
      rw [hat k q1] at hp
      rw [hat (k + 1) q2] at hc
      exact row_pairs h (l + k) p c hp hc
    obtain ⟨_, i2⟩ := fix_inv zs h0 zs.length (Nat.le_refl _)
    have key : ∀ j, j ≤ zs.length → partTo cs l r j = txts ((fixL zs).take j) := by
      intro j
      induction j with
      | zero => intro _; rfl
      | succ j ih =>
        intro hj
        have hx : zs[j]? = some zs[j] := List.getElem?_eq_getElem (by omega)
        have hx2 : cs[l + j]? = some zs[j] := by rw [← hat j (by omega)]; exact hx
        obtain ⟨d, d1, d2, _⟩ := i2 j _ (by omega) hx
        have d1' : (fixL zs)[j]? = some d := d1
        rw [partTo_step hx2, txts_step d1', ih (by omega), d2]
        have e : halfC cs l r (l + j) zs[j] = halfZ zs j zs[j] := by
          unfold halfC halfZ
          rw [Bool.eq_iff_iff]
          simp only [Bool.or_eq_true, Bool.and_eq_true, beq_iff_eq]
          constructor
          · rintro (⟨a, b⟩ | ⟨a, b⟩)
            · exact .inl ⟨a, by omega⟩
            · exact .inr ⟨a, by omega⟩
          · rintro (⟨a, b⟩ | ⟨a, b⟩)
            · exact .inl ⟨a, by omega⟩
            · exact .inr ⟨a, by omega⟩
        rw [e]
    unfold partB
    rw [← hzl, key _ (Nat.le_refl _), List.take_of_length_le (by rw [fixL_len]; exact Nat.le_refl _)]
  · have e1 : min (r + 1) cs.length - l = 0 := by omega
    have e2 : min (r + 1) cs.length - min l cs.length = 0 := by omega
    unfold partB
    rw [e1, e2]
    rfl
theorem blkRow_part (l r : Nat) (x : Ln) (h : lnOk x.cells = true) (hl : l ≤ r) : blkRow l r x = Lib.trimRightB (partB x.cells l r) 32 := by
  rw [part_fix x.cells h l r hl]
  rfl
end Go.Proofs.YtfdolhppbimbmaaDoor
