/- Lines with blank cells at their end; what Line says of a markup, and of one with other bytes (48), in plain Lean. No condition. -/
import Derived.Test.YthcndmchlpohpaaGreatDoorMlS
namespace Go.Proofs.YthcndmchlpohpaaGreatDoor
set_option linter.unusedVariables false
set_option linter.unusedSimpArgs false
open Go.RowKit Go.Shelf

theorem usedTo_app (X Y : List Cell) : ∀ n, n ≤ X.length → usedTo (X ++ Y) n = usedTo X n
  | 0, _ => rfl
  | n + 1, h => by rw [usedTo, usedTo, List.getElem?_append_left (by omega), usedTo_app X Y n (by omega)]
theorem usedN_blanks (X : List Cell) (k : Nat) : usedN (X ++ List.replicate k blankC) = usedN X := by
  have h := usedTo_blanks X k
  unfold usedN
  rw [List.length_append, List.length_replicate, h, usedTo_app X _ _ (Nat.le_refl _)]
theorem mkL_blanks (X : List Cell) (k : Nat) (so : Bool) : mkL (X ++ List.replicate k blankC) so = mkL X so := by
  unfold mkL
  rw [usedN_blanks, List.take_append_of_le_length (usedN_le X)]
theorem usedN_take (cs : List Cell) : usedN (cs.take (usedN cs)) = usedN cs := by
  have key : ∀ n, n ≤ cs.length → usedTo cs n = n → usedTo (cs.take n) n = n := fun n hn h => by
    have := usedTo_app (cs.take n) (cs.drop n) n (by rw [List.length_take]; omega)
    rw [List.take_append_drop] at this
    rw [← this, h]
  have hu : ∀ n, n ≤ cs.length → usedTo cs (usedTo cs n) = usedTo cs n := by
    intro n
    induction n with
    | zero => intro _; rfl
    | succ n ih =>
      intro hn
      by_cases hb : cs[n]? = some blankC
      · rw [usedTo_blank hb]; exact ih (by omega)
      · rw [usedTo_not hb, usedTo_not hb]
  have h1 := usedN_le cs
  have h2 := key (usedN cs) h1 (hu cs.length (Nat.le_refl _))
  have h1' : usedTo cs cs.length ≤ cs.length := h1
  unfold usedN at h2 ⊢
  rw [List.length_take, Nat.min_eq_left h1']
  exact h2
theorem mkL_take (cs : List Cell) (so : Bool) : mkL (cs.take (usedN cs)) so = mkL cs so := by
  unfold mkL
  rw [usedN_take, List.take_take, Nat.min_self]
/-- A line that there may be, with blank cells behind it. -/
theorem lnOk_blanks {X : List Cell} {k : Nat} (h : lnOk X = true) (hk : X.length + k ≤ 1000) : lnOk (X ++ List.replicate k blankC) = true := by
  unfold lnOk at h ⊢
  simp only [Bool.and_eq_true] at h
  have hr : ∀ j, j < X.length → rowBad X j = false := fun j hj => by
    have := h.2
    unfold rowOk at this
    rw [List.all_eq_true] at this
    simpa using this j (List.mem_range.2 hj)
  rw [Bool.and_eq_true]
  refine ⟨decide_eq_true (by rw [List.length_append, List.length_replicate]; exact hk), rowOk_all fun j hj => ?_⟩
  have hwide : ∀ j c, X[j]? = some c → j + 1 = X.length → c.width ≠ 2 := fun j c hc hl hw => by
    have hj := (List.getElem?_eq_some_iff.1 hc).1
    have := hr j hj
    unfold rowBad at this
    rw [hc] at this
    simp [cellBad, hw, hl] at this
  rcases Nat.lt_or_ge j X.length with hjx | hjx
  · have hb := hr j hjx
    have hc : X[j]? = some X[j] := List.getElem?_eq_getElem hjx
    have hc2 : (X ++ List.replicate k blankC)[j]? = some X[j] := by rw [List.getElem?_append_left hjx, hc]
    have hbe : behindAt (X ++ List.replicate k blankC) j = behindAt X j := by
      cases j with
      | zero => rfl
      | succ m => show (match (X ++ List.replicate k blankC)[m]? with | some p => p.width == 2 | none => false) = (match X[m]? with | some p => p.width == 2 | none => false); rw [List.getElem?_append_left (by omega)]
    have hpe : penAt (X ++ List.replicate k blankC) j = penAt X j := by
      cases j with
      | zero => rfl
      | succ m => show (match (X ++ List.replicate k blankC)[m]?, (X ++ List.replicate k blankC)[m + 1]? with | some p, some c => !penEq c p | _, _ => false) = (match X[m]?, X[m + 1]? with | some p, some c => !penEq c p | _, _ => false); rw [List.getElem?_append_left (by omega), List.getElem?_append_left hjx]
    unfold rowBad at hb ⊢
    rw [hc] at hb
    rw [hc2, hbe, hpe]
    simp only [cellBad, Bool.or_eq_false_iff, Bool.and_eq_false_iff, beq_eq_false_iff_ne] at hb ⊢
    refine ⟨hb.1, ?_⟩
    rcases hb.2 with e | e
    · exact .inl e
    · by_cases hl : j + 1 = X.length
      · exact absurd hl e
      · rw [List.length_append, List.length_replicate]
        by_cases hw : X[j].width = 2
        · refine .inr ?_
          intro e2
          have h1 : k = 0 ∨ 0 < k := Nat.eq_zero_or_pos k
          omega
        · exact .inl hw
  · have hc2 : (X ++ List.replicate k blankC)[j]? = some blankC := by
      rw [List.getElem?_append_right hjx]
      rw [List.length_append, List.length_replicate] at hj
      exact List.getElem?_replicate_of_lt (by omega)
    have hbe : behindAt (X ++ List.replicate k blankC) j = false := by
      cases j with
      | zero => rfl
      | succ m =>
        show (match (X ++ List.replicate k blankC)[m]? with | some p => p.width == 2 | none => false) = false
        rcases Nat.lt_or_ge m X.length with hm | hm
        · have hcm : X[m]? = some X[m] := List.getElem?_eq_getElem hm
          rw [List.getElem?_append_left hm, hcm]
          have := hwide m _ hcm (by omega)
          simpa using this
        · rw [List.getElem?_append_right hm]
          rw [List.length_append, List.length_replicate] at hj
          rw [List.getElem?_replicate_of_lt (by omega)]
          rfl
    rw [bad_here hbe hc2]
    have hv : blankC.valid = true := by decide
    rw [hv]
    simp [blankC]
theorem lnOk_len {cs : List Cell} (h : lnOk cs = true) : cs.length ≤ 1000 := by unfold lnOk at h; simp at h; exact h.1
/-- The used cells of a line that there may be are such a line. -/
theorem lnOk_used {cs : List Cell} (h : lnOk cs = true) : lnOk (cs.take (usedN cs)) = true := by
  have hl := lnOk_len h
  unfold lnOk at h ⊢
  simp only [Bool.and_eq_true] at h ⊢
  have hr : ∀ j, j < cs.length → rowBad cs j = false := fun j hj => by
    have := h.2
    unfold rowOk at this
    rw [List.all_eq_true] at this
    simpa using this j (List.mem_range.2 hj)
  have hU := usedN_le cs
  have hln : (cs.take (usedN cs)).length = usedN cs := by rw [List.length_take, Nat.min_eq_left hU]
  refine ⟨decide_eq_true (by omega), rowOk_all fun j hj => ?_⟩
  rw [hln] at hj
  have hc : cs[j]? = some cs[j] := List.getElem?_eq_getElem (by omega)
  have hc2 : (cs.take (usedN cs))[j]? = some cs[j] := by rw [List.getElem?_take, if_pos hj, hc]
  have hb := hr j (by omega)
  have hbe : behindAt (cs.take (usedN cs)) j = behindAt cs j := by
    cases j with
    | zero => rfl
    | succ m => show (match (cs.take (usedN cs))[m]? with | some p => p.width == 2 | none => false) = (match cs[m]? with | some p => p.width == 2 | none => false); rw [List.getElem?_take, if_pos (by omega)]
  have hpe : penAt (cs.take (usedN cs)) j = penAt cs j := by
    cases j with
    | zero => rfl
    | succ m => show (match (cs.take (usedN cs))[m]?, (cs.take (usedN cs))[m + 1]? with | some p, some c => !penEq c p | _, _ => false) = (match cs[m]?, cs[m + 1]? with | some p, some c => !penEq c p | _, _ => false); rw [List.getElem?_take, if_pos (by omega), List.getElem?_take, if_pos hj]
  have hlast : ∀ c, cs[j]? = some c → c.width = 2 → j + 1 ≠ usedN cs := fun c hcc hw e => by
    rcases Nat.lt_or_ge (j + 1) cs.length with h1 | h1
    · obtain ⟨d, hd⟩ : ∃ d, cs[j + 1]? = some d := ⟨_, List.getElem?_eq_getElem h1⟩
      have hs : d = c.spacer := by
        rcases Decidable.em (d = c.spacer) with e2 | e2
        · exact e2
        · have := bad_next hcc hd hw e2
          rw [hr _ h1] at this; cases this
      rw [e] at hd
      have e3 := usedN_at hd
      rw [hs] at e3
      have e4 := congrArg Cell.width e3
      cases e4
    · have hbb := hr j (by omega)
      unfold rowBad at hbb
      rw [hcc] at hbb
      have h2 := (List.getElem?_eq_some_iff.1 hcc).1
      have h3 : j + 1 = cs.length := by omega
      simp [cellBad, hw, h3] at hbb
  unfold rowBad at hb ⊢
  rw [hc] at hb
  rw [hc2, hbe, hpe, hln]
  simp only [cellBad, Bool.or_eq_false_iff, Bool.and_eq_false_iff, beq_eq_false_iff_ne] at hb ⊢
  refine ⟨hb.1, ?_⟩
  by_cases hw : cs[j].width = 2
  · exact .inr (hlast _ hc hw)
  · exact .inl hw
theorem blank_bd : blankC.Bd := by constructor <;> decide
theorem bd_pad {X : List Cell} (h : ∀ c ∈ X, c.Bd) (k : Nat) : ∀ c ∈ X ++ List.replicate k blankC, c.Bd := fun c hc => by
  rcases List.mem_append.1 hc with hc | hc
  · exact h c hc
  · rw [List.eq_of_mem_replicate hc]; exact blank_bd
theorem mkL_len (cs : List Cell) (so : Bool) : (mkL cs so).length ≤ cs.length * 43 + 1 := by
  unfold mkL
  have h1 := mkFrom_len none (cs.take (usedN cs))
  have h2 : (cs.take (usedN cs)).length ≤ cs.length := by rw [List.length_take]; omega
  rw [List.length_append]
  split
  · simp only [List.length_singleton]; omega
  · simp only [List.length_nil]; omega
/-- What Line says of the markup of a line. -/
theorem line_mk {cs : List Cell} (h : lnOk cs = true) (hb : ∀ c ∈ cs, c.Bd) (so : Bool) (N : Int) :
    lineB (mkL cs so) N = if N < 0 ∨ 1000 < N then ([], false, 2) else if N < usedN cs then ([], false, 3) else (cs.take (usedN cs) ++ List.replicate (N.toNat - usedN cs) blankC, so, 0) := by
  have hl := lnOk_len h
  have hm := mkL_len cs so
  have hln : (cs.take (usedN cs)).length = usedN cs := by rw [List.length_take, Nat.min_eq_left (usedN_le cs)]
  unfold lineB
  rw [read_mk h hb so]
  simp only
  by_cases h1 : N < 0 ∨ 1000 < N
  · rw [if_pos h1, if_pos h1]
  · rw [if_neg h1, if_neg h1, if_neg (by omega), if_neg (by simp), if_neg (by rw [lnOk_used h, mkL_take]; simp), hln]
/-- Blank cells behind the used ones: the whole line again. -/
theorem used_blank {cs : List Cell} : ∀ j, usedN cs ≤ j → ∀ c, cs[j]? = some c → c = blankC := by
  have key : ∀ n, n ≤ cs.length → ∀ j, usedTo cs n ≤ j → j < n → cs[j]? = some blankC := by
    intro n
    induction n with
    | zero => intro _ j _ h; omega
    | succ n ih =>
      intro hn j h1 h2
      by_cases hb : cs[n]? = some blankC
      · rw [usedTo_blank hb] at h1
        rcases Nat.lt_or_eq_of_le (Nat.le_of_lt_succ h2) with h3 | h3
        · exact ih (by omega) j h1 h3
        · rw [h3]; exact hb
      · rw [usedTo_not hb] at h1; omega
  intro j hj c hc
  have h := key cs.length (Nat.le_refl _) j hj (List.getElem?_eq_some_iff.1 hc).1
  rw [hc] at h
  exact Option.some.inj h
theorem used_pad (cs : List Cell) (N : Nat) (hN : cs.length ≤ N) : cs.take (usedN cs) ++ List.replicate (N - usedN cs) blankC = cs ++ List.replicate (N - cs.length) blankC := by
  have hU := usedN_le cs
  apply List.ext_getElem?
  intro j
  have hln : (cs.take (usedN cs)).length = usedN cs := by rw [List.length_take, Nat.min_eq_left hU]
  rcases Nat.lt_or_ge j (usedN cs) with h1 | h1
  · rw [List.getElem?_append_left (by omega), List.getElem?_append_left (by omega), List.getElem?_take, if_pos h1]
  · rw [List.getElem?_append_right (by omega), hln]
    rcases Nat.lt_or_ge j cs.length with h2 | h2
    · rw [List.getElem?_append_left h2, List.getElem?_replicate_of_lt (by omega)]
      have hc : cs[j]? = some cs[j] := List.getElem?_eq_getElem h2
      rw [hc, used_blank j h1 _ hc]
    · rw [List.getElem?_append_right h2]
      rcases Nat.lt_or_ge j N with h3 | h3
      · rw [List.getElem?_replicate_of_lt (by omega), List.getElem?_replicate_of_lt (by omega)]
      · rw [List.getElem?_eq_none (by rw [List.length_replicate]; omega), List.getElem?_eq_none (by rw [List.length_replicate]; omega)]
theorem used_all (cs : List Cell) : cs.take (usedN cs) ++ List.replicate (cs.length - usedN cs) blankC = cs := by
  have := used_pad cs cs.length (Nat.le_refl _)
  rwa [Nat.sub_self, List.replicate_zero, List.append_nil] at this
/-- What Line says of any text: nothing, or a line of which it is the markup. -/
theorem line_good {l : List UInt8} {N : Int} (h : (lineB l N).2.2 = 0) : lnOk (lineB l N).1 = true ∧ mkL (lineB l N).1 (lineB l N).2.1 = l ∧ (lineB l N).1.length = N.toNat ∧ ∀ c ∈ (lineB l N).1, c.Bd := by
  have hbd := readB_bd l
  unfold lineB at h ⊢
  split at h
  · cases h
  · rename_i h1
    rw [if_neg h1]
    split at h
    · cases h
    · rename_i h2
      rw [if_neg h2]
      split at h
      · cases h
      · rename_i h3
        rw [if_neg h3]
        split at h
        · cases h
        · rename_i h4
          rw [if_neg h4]
          split at h
          · cases h
          · rename_i h5
            rw [if_neg h5]
            simp only [Decidable.not_not] at h4
            refine ⟨lnOk_blanks h4.1 (by omega), by rw [mkL_blanks]; exact h4.2, by simp only [List.length_append, List.length_replicate]; omega, bd_pad hbd _⟩
/-- What Line says of a markup with other bytes at one place. -/
theorem line_turned {cs : List Cell} (h : lnOk cs = true) (hb : ∀ c ∈ cs, c.Bd) (hn : cs.length ≤ 40) (so : Bool) (A B M C : List UInt8) (hs : mkL cs so = A ++ (B ++ C)) (hM : M.length ≤ 20) :
    (lineB (A ++ (M ++ C)) 200).2.2 ≠ 0 → lineB (A ++ (M ++ C)) 200 = ([], false, 6) ∧ A ++ (M ++ C) ≠ mkL cs so := by
  intro he
  have hl := mkL_len cs so
  have hlen : (A ++ (M ++ C)).length ≤ 2000 := by
    have : (mkL cs so).length = A.length + (B.length + C.length) := by rw [hs, List.length_append, List.length_append]
    rw [List.length_append, List.length_append]; omega
  refine ⟨?_, fun e => ?_⟩
  · have hbd := readB_bd (A ++ (M ++ C))
    unfold lineB at he ⊢
    rw [if_neg (by omega), if_neg (by omega)] at he ⊢
    by_cases h3 : (readB (A ++ (M ++ C))).2.2 = false
    · rw [if_pos h3]
    · rw [if_neg h3] at he ⊢
      by_cases h4 : lnOk (readB (A ++ (M ++ C))).1 = true ∧ mkL (readB (A ++ (M ++ C))).1 (readB (A ++ (M ++ C))).2.1 = A ++ (M ++ C)
      · rw [if_neg (by simpa using h4)] at he ⊢
        obtain ⟨k1, k2⟩ := h4
        have hx := congrArg Prod.fst (read_mk k1 hbd (readB (A ++ (M ++ C))).2.1)
        rw [k2] at hx
        simp only at hx
        have hxl : (readB (A ++ (M ++ C))).1.length ≤ usedN (readB (A ++ (M ++ C))).1 := by
          have := congrArg List.length hx
          rw [List.length_take] at this
          omega
        obtain ⟨c1, c2⟩ := cnt_mk k1 hbd (readB (A ++ (M ++ C))).2.1
        rw [k2] at c1 c2
        obtain ⟨d1, d2⟩ := cnt_mk h hb so
        rw [hs] at d1 d2
        have ht := cnt_turned A B M C d2 c2
        have hu := usedN_le cs
        rw [if_neg (by omega)] at he
        exact absurd rfl he
      · rw [if_pos h4]
  · rw [e] at he
    have hu := usedN_le cs
    rw [line_mk h hb so 200, if_neg (by omega), if_neg (by omega)] at he
    exact he rfl
end Go.Proofs.YthcndmchlpohpaaGreatDoor
