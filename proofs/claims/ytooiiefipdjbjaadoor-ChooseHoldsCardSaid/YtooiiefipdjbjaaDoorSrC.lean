/- search.check, found and before; the statements' test of a pattern (42). The tables hold what the program's text lays. -/
import Derived.Test.YtooiiefipdjbjaaDoorScr
import Derived.Test.YtooiiefipdjbjaaDoorSrF
import Derived.Shelf.Strings.FuncGrows
namespace Go.Proofs.YtooiiefipdjbjaaDoor
set_option linter.unusedVariables false
set_option linter.unusedSimpArgs false
open Go.RowKit Go.Shelf

/-- A rune is a control character just if its first byte is one; the bytes behind the first one are none. -/
theorem decode_ctl (s : ByteArray) (pos : Nat) : ((Utf8.decode s pos).1 < 32 ↔ (s.get! pos).toNat < 32) ∧ 1 ≤ (Utf8.decode s pos).2 ∧ ∀ d, 0 < d → d < (Utf8.decode s pos).2 → 128 ≤ (s.get! (pos + d)).toNat := by
  have h0 := (s.get! pos).toNat_lt
  have key : ∀ d, d < 4 → (s.get! (pos + d)).toNat / 64 == 2 → 128 ≤ (s.get! (pos + d)).toNat := fun d _ h => by
    have := beq_iff_eq.1 h
    omega
  unfold Utf8.decode
  simp only [Nat.add_zero, Utf8.runeError]
  split
  · rename_i h
    exact ⟨Iff.rfl, Nat.le_refl _, fun d h1 h2 => by omega⟩
  rename_i hn
  split
  · rename_i h
    simp only [Bool.and_eq_true, decide_eq_true_eq] at h
    have k1 := key 1 (by omega) h.2.2
    split
    · refine ⟨by simp only []; omega, by simp only []; omega, fun d h1 h2 => ?_⟩
      obtain rfl : d = 1 := by simp only [] at h2; omega
      exact k1
    · exact ⟨by simp only []; omega, Nat.le_refl _, fun d h1 h2 => by simp only [] at h2; omega⟩
  split
  · rename_i h
    simp only [Bool.and_eq_true, decide_eq_true_eq] at h
    have k1 := key 1 (by omega) h.1.2.2
    have k2 := key 2 (by omega) h.2.2
    split
    · rename_i hc
      simp only [Bool.and_eq_true, decide_eq_true_eq] at hc
      refine ⟨by simp only []; omega, by simp only []; omega, fun d h1 h2 => ?_⟩
      rcases (show d = 1 ∨ d = 2 by simp only [] at h2; omega) with rfl | rfl
      · exact k1
      · exact k2
    · exact ⟨by simp only []; omega, Nat.le_refl _, fun d h1 h2 => by simp only [] at h2; omega⟩
  split
  · rename_i h
    simp only [Bool.and_eq_true, decide_eq_true_eq] at h
    have k1 := key 1 (by omega) h.1.1.2.2
    have k2 := key 2 (by omega) h.1.2.2
    have k3 := key 3 (by omega) h.2.2
    split
    · rename_i hc
      simp only [Bool.and_eq_true, decide_eq_true_eq] at hc
      refine ⟨by simp only []; omega, by simp only []; omega, fun d h1 h2 => ?_⟩
      rcases (show d = 1 ∨ d = 2 ∨ d = 3 by simp only [] at h2; omega) with rfl | rfl | rfl
      · exact k1
      · exact k2
      · exact k3
    · exact ⟨by simp only []; omega, Nat.le_refl _, fun d h1 h2 => by simp only [] at h2; omega⟩
  · exact ⟨by simp only []; omega, Nat.le_refl _, fun d h1 h2 => by simp only [] at h2; omega⟩
theorem ctl_from (s : ByteArray) : ∀ (f pos : Nat), s.size ≤ pos + f → (0 ≤ Lib.idxFuncFrom (fun n => decide (n < 32)) true s f pos ↔ ∃ j, pos ≤ j ∧ j < s.size ∧ (s.get! j).toNat < 32)
  | 0, pos, h => by
    unfold Lib.idxFuncFrom
    constructor
    · intro h; omega
    · rintro ⟨j, h1, h2, _⟩; omega
  | f + 1, pos, h => by
    unfold Lib.idxFuncFrom
    obtain ⟨d1, d2, d3⟩ := decode_ctl s pos
    split
    · rename_i hp
      split
      · rename_i hc
        have hc : (Utf8.decode s pos).1 < 32 := by simpa using hc
        exact ⟨fun _ => ⟨pos, Nat.le_refl _, hp, d1.1 hc⟩, fun _ => by omega⟩
      · rename_i hc
        have hc : ¬ (Utf8.decode s pos).1 < 32 := by simpa using hc
        rw [ctl_from s f _ (by omega)]
        constructor
        · rintro ⟨j, h1, h2, h3⟩
          exact ⟨j, by omega, h2, h3⟩
        · rintro ⟨j, h1, h2, h3⟩
          refine ⟨j, ?_, h2, h3⟩
          rcases Nat.lt_or_ge j (pos + (Utf8.decode s pos).2) with h4 | h4
          · exfalso
            rcases Nat.lt_or_eq_of_le h1 with h5 | h5
            · have := d3 (j - pos) (by omega) (by omega)
              rw [show pos + (j - pos) = j by omega] at this
              omega
            · subst h5
              exact hc (d1.2 h3)
          · exact h4
    · rename_i hp
      constructor
      · intro h; omega
      · rintro ⟨j, h1, h2, _⟩; omega
/-- Has a pattern no control characters? -/
def patB (p : ByteArray) : Bool := p.data.toList.all fun b => decide (32 ≤ b.toNat)
theorem get_list (s : ByteArray) (j : Nat) (h : j < s.size) : s.data.toList[j]? = some (s.get! j) := by
  have h' : j < s.data.size := h
  rw [Array.getElem?_toList, Array.getElem?_eq_getElem h']
  show some _ = some (s.data[j]!)
  rw [getElem!_pos s.data j h']
theorem patB_idx (p : ByteArray) : decide (0 ≤ Lib.idxFunc (fun n => decide (n < 32)) true p) = !patB p := by
  rw [Bool.eq_iff_iff, decide_eq_true_eq, Bool.not_eq_true']
  unfold Lib.idxFunc patB
  rw [ctl_from p p.size 0 (by omega), List.all_eq_false]
  constructor
  · rintro ⟨j, _, h2, h3⟩
    exact ⟨_, List.mem_iff_getElem?.2 ⟨j, get_list p j h2⟩, by simp; omega⟩
  · rintro ⟨b, hb, h⟩
    obtain ⟨j, hj⟩ := List.mem_iff_getElem?.1 hb
    have hl : j < p.size := by rw [Lib.size_eq]; exact (List.getElem?_eq_some_iff.1 hj).1
    rw [get_list p j hl] at hj
    cases hj
    exact ⟨j, Nat.zero_le _, hl, by simp at h; omega⟩
/-- Is a string a pattern? -/
def patOk (p : ByteArray) : Bool := decide (1 ≤ p.size) && (decide (p.size ≤ 200) && patB p)
theorem patOk_ok {p : ByteArray} (h : patOk p = true) : 1 ≤ p.size ∧ p.size ≤ 200 := by
  unfold patOk at h
  rw [Bool.and_eq_true, Bool.and_eq_true, decide_eq_true_eq, decide_eq_true_eq] at h
  exact ⟨h.1, h.2.1⟩
/-- What check answers: 0, or the error 2. -/
def ckR (ls : List Ln) (first : Int) (p : ByteArray) : Int := if rowsOk ls first && (decide (ls.length ≤ 1000) && patOk p) then 0 else 2
theorem ckR_rows {ls : List Ln} {first : Int} {p : ByteArray} (h : rowsOk ls first = false) : ckR ls first p = 2 := by unfold ckR; rw [h]; rfl
theorem ckR_long {ls : List Ln} {first : Int} {p : ByteArray} (h : ¬ ls.length ≤ 1000) : ckR ls first p = 2 := by unfold ckR; rw [decide_eq_false h]; simp
theorem ckR_pat {ls : List Ln} {first : Int} {p : ByteArray} (h : patOk p = false) : ckR ls first p = 2 := by unfold ckR; rw [h]; simp
theorem ckR_ok {ls : List Ln} {first : Int} {p : ByteArray} (h1 : rowsOk ls first = true) (h2 : ls.length ≤ 1000) (h3 : patOk p = true) : ckR ls first p = 0 := by unfold ckR; rw [h1, h3, decide_eq_true h2]; rfl
theorem ckR_zero {ls : List Ln} {first : Int} {p : ByteArray} (h : (ckR ls first p == 0) = true) : rowsOk ls first = true ∧ ls.length ≤ 1000 ∧ patOk p = true := by
  unfold ckR at h
  split at h
  · rename_i hh
    rw [Bool.and_eq_true, Bool.and_eq_true, decide_eq_true_eq] at hh
    exact hh
  · cases h
theorem ckR_not {ls : List Ln} {first : Int} {p : ByteArray} (h : (ckR ls first p == 0) = false) : ckR ls first p = 2 := by
  unfold ckR at h ⊢
  split at h
  · cases h
  · rename_i hh; rw [if_neg hh]
end Go.Proofs.YtooiiefipdjbjaaDoor
