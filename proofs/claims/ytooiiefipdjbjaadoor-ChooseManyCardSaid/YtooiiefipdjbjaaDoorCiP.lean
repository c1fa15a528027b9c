/- Many rows that are alike: the plain law (41). No condition. -/
import Derived.Test.YtooiiefipdjbjaaDoorChZ
namespace Go.Proofs.YtooiiefipdjbjaaDoor
set_option linter.unusedVariables false
set_option linter.unusedSimpArgs false
open Go.RowKit Go.Shelf

def abC : List Cell := chL ⟨#[97, 98]⟩
def mnL (n : Nat) (so : Bool) : List Ln := List.replicate n ⟨abC, so⟩
section
variable {n : Nat} {so : Bool}
theorem mn_at {i : Nat} (h : i < n) : (mnL n so)[i]? = some ⟨abC, so⟩ := by unfold mnL; rw [List.getElem?_replicate, if_pos h]
theorem mn_len : (mnL n so).length = n := List.length_replicate
theorem mn_cols (h : 0 < n) : cols (mnL n so) = 2 := by rw [cols_of (mn_at h)]; rfl
theorem mn_soft {i : Nat} (h : i < n) : softAt (mnL n so) i = so := softAt_of (mn_at h)
theorem mn_rows (h : 0 < n) : rowsOk (mnL n so) 0 = true := by
  have e : scrB (mnL n so) = true := by
    unfold scrB
    rw [mn_cols h, List.all_eq_true]
    intro x hx
    rw [(List.mem_replicate.1 hx).2]
    exact (show scrAt 2 ⟨abC, so⟩ = true by cases so <;> kernel_rfl)
  unfold rowsOk
  rw [e]
  rfl
theorem mn_wd {i : Nat} (h : i < n * 2) : wd (mnL n so) i = true := by
  have hn : 0 < n := by omega
  unfold wd
  rw [mn_cols hn, mn_at (show i / 2 < n by omega)]
  show wdL abC (i % 2) = true
  rcases (show i % 2 = 0 ∨ i % 2 = 1 by omega) with e | e <;> rw [e] <;> kernel_rfl
theorem mn_tg {a : Nat} (h : a + 1 < n * 2) : tg (mnL n so) a = (decide ((a + 1) % 2 ≠ 0) || so) := by
  have hn : 0 < n := by omega
  unfold tg
  rw [mn_cols hn, mn_len, decide_eq_true h, mn_soft (show a / 2 < n by omega)]
  rfl
theorem mn_pl {q : Nat} (h : 0 < n) (c : Nat) (hc : c < 2) : plI (mnL n so) 0 (2 * q + c) = ((q : Int), (c : Int)) := by
  unfold plI
  rw [mn_cols h, show (2 * q + c) / 2 = q by omega, show (2 * q + c) % 2 = c by omega]
  rw [Int.zero_add]
theorem mn_topN {q : Nat} (h : q < n) : topI (mnL n false) q = q := by
  cases q with
  | zero => rfl
  | succ q => rw [topI, mn_soft (by omega)]; rfl
theorem mn_botN {q : Nat} (h : q < n) : botI (mnL n false) q = q := botI_end (.inr (mn_soft h))
theorem mn_topS {q : Nat} (h : q < n) : topI (mnL n true) q = 0 := by
  rcases topI_stop (mnL n true) q with e | e
  · exact e
  · have := topI_le (mnL n true) q
    rw [mn_soft (by omega)] at e
    cases e
theorem mn_botS {q : Nat} (h : q < n) : botI (mnL n true) q = n - 1 := by
  have hl := botI_lt (ls := mnL n true) (i := q) (by rw [mn_len]; exact h)
  rw [mn_len] at hl
  rcases botI_stop (mnL n true) q with e | e
  · rw [mn_len] at e; omega
  · rw [mn_soft hl] at e; cases e
theorem mn_wA_N {q : Nat} (h : q < n) : wA (mnL n false) (2 * q + 1) = 2 * q := by
  unfold wA
  rw [if_pos (mn_wd (by omega))]
  have h0 := dnF_le (fun a => tg (mnL n false) a && wd (mnL n false) a) (2 * q + 1)
  have h1 := dnF_in (fun a => tg (mnL n false) a && wd (mnL n false) a) (2 * q + 1)
  have h2 := dnF_stop (fun a => tg (mnL n false) a && wd (mnL n false) a) (2 * q + 1)
  generalize dnF (fun a => tg (mnL n false) a && wd (mnL n false) a) (2 * q + 1) = d at *
  have k1 : 2 * q ≤ d := by
    apply Classical.byContradiction
    intro hlt
    have := h1 (2 * q - 1) (by omega) (by omega)
    rw [mn_tg (by omega), show 2 * q - 1 + 1 = 2 * q by omega, decide_eq_false (by omega)] at this
    simp at this
  have k2 : d ≠ 2 * q + 1 := by
    intro e
    rcases h2 with h2 | h2
    · omega
    · rw [e, Nat.add_sub_cancel, mn_tg (by omega), mn_wd (by omega), decide_eq_true (by omega)] at h2
      simp at h2
  omega
theorem mn_wB_N {q : Nat} (h : q < n) : wB (mnL n false) (2 * q + 1) = 2 * q + 1 := by
  unfold wB
  rw [if_pos (mn_wd (by omega))]
  have h0 := upF_ge (fun a => tg (mnL n false) a && wd (mnL n false) (a + 1)) ((mnL n false).length * cols (mnL n false) - (2 * q + 1)) (2 * q + 1)
  have h1 := upF_in (fun a => tg (mnL n false) a && wd (mnL n false) (a + 1)) ((mnL n false).length * cols (mnL n false) - (2 * q + 1)) (2 * q + 1)
  generalize upF (fun a => tg (mnL n false) a && wd (mnL n false) (a + 1)) ((mnL n false).length * cols (mnL n false) - (2 * q + 1)) (2 * q + 1) = d at *
  apply Classical.byContradiction
  intro hne
  have := h1 (2 * q + 1) (Nat.le_refl _) (by omega)
  rcases Nat.lt_or_ge (2 * q + 1 + 1) (n * 2) with hl | hl
  · rw [mn_tg hl, decide_eq_false (by omega)] at this
    simp at this
  · rw [tg_last (by rw [mn_len, mn_cols (by omega)]; exact hl)] at this
    simp at this
theorem mn_wA_S {q : Nat} (h : q < n) : wA (mnL n true) (2 * q + 1) = 0 := by
  unfold wA
  rw [if_pos (mn_wd (by omega))]
  have h0 := dnF_le (fun a => tg (mnL n true) a && wd (mnL n true) a) (2 * q + 1)
  have h2 := dnF_stop (fun a => tg (mnL n true) a && wd (mnL n true) a) (2 * q + 1)
  generalize dnF (fun a => tg (mnL n true) a && wd (mnL n true) a) (2 * q + 1) = d at *
  rcases h2 with h2 | h2
  · exact h2
  · apply Classical.byContradiction
    intro hd
    rw [mn_tg (by omega), mn_wd (by omega)] at h2
    simp at h2
theorem mn_wB_S {q : Nat} (h : q < n) : wB (mnL n true) (2 * q + 1) = 2 * (n - 1) + 1 := by
  have hcl : (mnL n true).length * cols (mnL n true) = n * 2 := by rw [mn_len, mn_cols (by omega)]
  unfold wB
  rw [if_pos (mn_wd (by omega)), hcl]
  have hg : ∀ a, n * 2 ≤ a + 1 → (fun a => tg (mnL n true) a && wd (mnL n true) (a + 1)) a = false := fun a ha => by
    simp only
    rw [tg_last (by rw [hcl]; exact ha)]
    rfl
  have h1 := upF_stop (fun a => tg (mnL n true) a && wd (mnL n true) (a + 1)) (n * 2) hg (n * 2 - (2 * q + 1)) (2 * q + 1) (by omega)
  have h2 := upF_lt (fun a => tg (mnL n true) a && wd (mnL n true) (a + 1)) (n * 2) hg (n * 2 - (2 * q + 1)) (2 * q + 1) (by omega)
  generalize upF (fun a => tg (mnL n true) a && wd (mnL n true) (a + 1)) (n * 2 - (2 * q + 1)) (2 * q + 1) = d at *
  rcases Nat.lt_or_ge (d + 1) (n * 2) with hl | hl
  · rw [mn_tg hl, mn_wd (by omega)] at h1
    simp at h1
  · omega
theorem mn_mm (q : Nat) : min (2 * q) (2 * q + 1) = 2 * q ∧ max (2 * q) (2 * q + 1) = 2 * q + 1 := by omega
theorem mn_chA {q : Nat} (h : q < n) : chA (mnL n so) 3 (min (2 * q) (2 * q + 1)) = topI (mnL n so) q * 2 := by
  unfold chA
  rw [if_neg (by decide), if_pos rfl, mn_cols (by omega), (mn_mm q).1, show 2 * q / 2 = q by omega]
theorem mn_chB {q : Nat} (h : q < n) : chB (mnL n so) 3 (max (2 * q) (2 * q + 1)) = botI (mnL n so) q * 2 + 1 := by
  unfold chB
  rw [if_neg (by decide), if_pos rfl, mn_cols (by omega), (mn_mm q).2, show (2 * q + 1) / 2 = q by omega]
theorem mn_spF {q : Nat} (h : q < n) : spF (mnL n false) 3 (q * 2) q (2 * q % 2) ((2 * q + 1) % 2) = 0 := by
  unfold spF
  have e : rawF (mnL n false) 3 (q * 2) q (2 * q % 2) ((2 * q + 1) % 2) = 0 := by
    unfold rawF
    rw [if_neg (by decide), mn_cols (by omega), if_pos (by omega)]
    omega
  rw [e]
  unfold fixF
  split <;> rfl
theorem mn_spT {q : Nat} (h : q < n) : spT (mnL n false) 3 (q * 2 + 1) q (2 * q % 2) ((2 * q + 1) % 2) = 2 := by
  unfold spT
  have e : rawT (mnL n false) 3 (q * 2 + 1) q (2 * q % 2) ((2 * q + 1) % 2) = 2 := by
    unfold rawT
    rw [if_neg (by decide), mn_cols (by omega), if_pos (by omega)]
    omega
  rw [e]
  unfold fixU widI
  rw [mn_at h]
  exact (show (if widAt abC (2 - 1) = 2 then 2 + 1 else 2) = 2 by kernel_rfl)
theorem mn_spans {q : Nat} (h : q < n) : spansL (mnL n false) 0 3 (2 * q) (2 * q + 1) = [⟨(q : Int), 0, 2⟩] := by
  have hc : cols (mnL n false) = 2 := mn_cols (by omega)
  unfold spansL spTo
  rw [mn_chA h, mn_chB h, mn_topN h, mn_botN h, hc, show q * 2 / 2 = q by omega, show (q * 2 + 1) / 2 + 1 - q = 1 by omega]
  show [(⟨0 + ((q + 0 : Nat) : Int), (spF (mnL n false) 3 (q * 2) (q + 0) (2 * q % 2) ((2 * q + 1) % 2) : Nat), (spT (mnL n false) 3 (q * 2 + 1) (q + 0) (2 * q % 2) ((2 * q + 1) % 2) : Nat)⟩ : Sn)] = _
  rw [Nat.add_zero, mn_spF h, mn_spT h, Int.zero_add]
  rfl
theorem mn_text {q : Nat} (h : q < n) : strL (textL (mnL n false) 3 (2 * q) (2 * q + 1)) = ⟨#[97, 98]⟩ := by
  have hc : cols (mnL n false) = 2 := mn_cols (by omega)
  unfold textL
  rw [mn_chA h, mn_chB h, mn_topN h, mn_botN h, hc, show (q * 2 + 1) / 2 - q * 2 / 2 = 0 by omega]
  have e : spP (mnL n false) 3 (2 * q) (2 * q + 1) 0 = pcL ⟨abC, false⟩ 0 2 := by
    unfold spP spPc
    rw [mn_chA h, mn_chB h, mn_topN h, mn_botN h, hc, show q * 2 / 2 + 0 = q by omega, mn_at h]
    simp only
    rw [mn_spF h, mn_spT h]
  have e2 : txtOf (spP (mnL n false) 3 (2 * q) (2 * q + 1)) (spO (mnL n false) 3 (2 * q) (2 * q + 1)) 0 = trB (pcL ⟨abC, false⟩ 0 2) := by
    rw [← e]
    unfold txtOf pcF
    simp [Lib.join, List.intercalate]
  rw [e2]
  exact (show strL (trB (pcL ⟨abC, false⟩ 0 2)) = ⟨#[97, 98]⟩ by kernel_rfl)
theorem mn_spansLen {q : Nat} (h : q < n) : (spansL (mnL n true) 0 3 (2 * q) (2 * q + 1)).length = n := by
  rw [spansL_len, mn_chA h, mn_chB h, mn_topS h, mn_botS h, mn_cols (by omega)]
  omega
end
end Go.Proofs.YtooiiefipdjbjaaDoor
