/- Rows of one letter (42): they are valid, and what their bytes are. No condition. -/
import Derived.Test.YtfdolhppbimbmaaDoorSrY
import Derived.Test.YtfdolhppbimbmaaDoorSrP
namespace Go.Proofs.YtfdolhppbimbmaaDoor
set_option linter.unusedVariables false
set_option linter.unusedSimpArgs false
open Go.RowKit

theorem ch_table : ((List.range 256).all fun i => !(decide (32 ≤ i) && decide (i ≤ 126)) || ((chC (UInt8.ofNat i)).valid && decide ((chC (UInt8.ofNat i)).txt = [UInt8.ofNat i]))) = true := by kernel_rfl
theorem ch_good {b : UInt8} (h1 : 32 ≤ b.toNat) (h2 : b.toNat ≤ 126) : (chC b).valid = true ∧ (chC b).txt = [b] := by
  have h := List.all_eq_true.1 ch_table b.toNat (List.mem_range.2 (by omega))
  rw [decide_eq_true h1, decide_eq_true h2, UInt8.ofNat_toNat] at h
  simpa using h
theorem chL_rep (n : Nat) (c : UInt8) : chL ⟨(List.replicate n c).toArray⟩ = List.replicate n (chC c) := by
  unfold chL
  show ((List.replicate n c).toArray.toList).map chC = _
  rw [List.map_replicate]
theorem rep_get {n k : Nat} {c d : Cell} (h : (List.replicate n c)[k]? = some d) : d = c ∧ k < n := by
  rw [List.getElem?_replicate] at h
  split at h
  · cases h; exact ⟨rfl, by assumption⟩
  · cases h
theorem rep_ok {n : Nat} {c : UInt8} (h1 : 32 ≤ c.toNat) (h2 : c.toNat ≤ 126) (hn : n ≤ 1000) : lnOk (List.replicate n (chC c)) = true := by
  unfold lnOk
  rw [List.length_replicate, decide_eq_true hn, Bool.true_and]
  refine rowOk_all fun k hk => ?_
  unfold rowBad
  rw [List.length_replicate] at hk
  rw [List.getElem?_replicate, if_pos hk]
  have hb : behindAt (List.replicate n (chC c)) k = false := by
    cases k with
    | zero => rfl
    | succ m =>
      have hg : (List.replicate n (chC c))[m]? = some (chC c) := by rw [List.getElem?_replicate, if_pos (by omega)]
      show (match (List.replicate n (chC c))[m]? with | some p => p.width == 2 | none => false) = false
      rw [hg]
      rfl
  show cellBad _ _ _ _ = false
  unfold cellBad
  rw [hb, (ch_good h1 h2).1]
  show (!true || ((1 : Int) == 0) != false || (false && _) || ((1 : Int) == 2 && _)) = false
  simp
theorem chC_not {c : UInt8} (h1 : 32 ≤ c.toNat) : chC c ≠ blankC := fun e => by
  have := congrArg Cell.rune e
  simp [chC, blankC] at this
  omega
theorem rep_used {n : Nat} {c : UInt8} (h1 : 32 ≤ c.toNat) : usedN (List.replicate n (chC c)) = n := by
  unfold usedN
  rw [List.length_replicate]
  cases n with
  | zero => rfl
  | succ m => exact usedTo_not (by rw [List.getElem?_replicate, if_pos (by omega)]; exact fun e => chC_not h1 (Option.some.inj e))
/-- Bytes of one row of a letter. -/
def repB (c : UInt8) (n : Int) (k m : Nat) : List Bp := (List.range' k m).map fun (i : Nat) => (⟨c, n, (i : Int)⟩ : Bp)
theorem cellsB_rep {n : Int} {c : UInt8} (h1 : 32 ≤ c.toNat) (h2 : c.toNat ≤ 126) : ∀ (m k : Nat), cellsB n k (List.replicate m (chC c)) = repB c n k m
  | 0, k => rfl
  | m + 1, k => by
    rw [List.replicate_succ, cellsB, cellsB_rep h1 h2 m (k + 1), cellB, (ch_good h1 h2).2]
    unfold repB
    rw [List.range'_succ]
    rfl
theorem rep_part {m : Nat} {c : UInt8} {soft last : Bool} (h1 : 32 ≤ c.toNat) : (⟨List.replicate m (chC c), soft⟩ : Ln).part last = List.replicate m (chC c) := by
  unfold Ln.part
  cases last
  · rfl
  · rw [if_pos rfl, rep_used h1, List.take_of_length_le (by rw [List.length_replicate]; exact Nat.le_refl _)]
theorem repB_b (c : UInt8) (n : Int) (k m : Nat) : (repB c n k m).map Bp.b = List.replicate m c := by
  unfold repB
  rw [List.map_map]
  apply List.ext_getElem?
  intro i
  rw [List.getElem?_map, List.getElem?_replicate]
  rcases Nat.lt_or_ge i m with h | h
  · rw [if_pos h, List.getElem?_eq_getElem (by simpa using h)]; rfl
  · rw [if_neg (by omega), List.getElem?_eq_none (by simpa using h)]; rfl
theorem long_all {n : Nat} {c : UInt8} (h1 : 32 ≤ c.toNat) (h2 : c.toNat ≤ 126) (hn : 1 ≤ n) : allM [⟨List.replicate n (chC c), false⟩] 0 (List.replicate n c) false = [⟨0, 0, 0, n - 1⟩] := by
  unfold allM
  rw [map_low_false]
  have hs : segs 0 [] [⟨List.replicate n (chC c), false⟩] = [repB c 0 0 n] := by
    unfold segs
    rw [if_neg (by simp), segs, List.nil_append, rowB, rep_part h1, cellsB_rep h1 h2]
  rw [hs, List.flatMap_cons, List.flatMap_nil, List.append_nil]
  unfold matchS
  rw [lowB_false, repB_b, hits_yes (by intro e; have := congrArg List.length e; simp at this; omega) (by rw [isPrefix_rep]; exact decide_eq_true (Nat.le_refl _)), List.length_replicate, List.drop_replicate, Nat.sub_self]
  show [mtOf (repB c 0 0 n) n 0] = _
  unfold mtOf
  have hg : ∀ i, i < n → (repB c 0 0 n).getD i default = ⟨c, 0, i⟩ := by
    intro i hi
    unfold repB
    rw [List.getD_eq_getElem?_getD, List.getElem?_map, List.getElem?_range' hi]
    simp
  rw [hg 0 (by omega), hg (0 + n - 1) (by omega)]
  congr 2
  push_cast
  omega
end Go.Proofs.YtfdolhppbimbmaaDoor
