/- Runs of a line, one behind the other; a line by its markup (48), in plain Lean. No condition. -/
import Derived.Test.YthcndmchlpohpaaGreatDoorMlT
namespace Go.Proofs.YthcndmchlpohpaaGreatDoor
set_option linter.unusedVariables false
set_option linter.unusedSimpArgs false
open Go.RowKit Go.Shelf

def widS : List Rn → Nat
  | [] => 0
  | r :: rs => r.wid + widS rs
theorem widS_snoc (r : Rn) : ∀ rs : List Rn, widS (rs ++ [r]) = widS rs + r.wid
  | [] => by simp [widS]
  | x :: rs => by rw [List.cons_append, widS, widS, widS_snoc r rs]; omega
theorem widS_take {rs : List Rn} {k : Nat} {r : Rn} (h : rs[k]? = some r) : widS (rs.take (k + 1)) = widS (rs.take k) + r.wid := by
  rw [List.take_add_one, h, Option.toList_some, widS_snoc]
theorem txt_take {rs : List Rn} {k : Nat} {r : Rn} (h : rs[k]? = some r) : (rs.take (k + 1)).flatMap Rn.txt = (rs.take k).flatMap Rn.txt ++ r.txt := by
  rw [List.take_add_one, h, Option.toList_some, List.flatMap_append]; simp
theorem runsF_sum : ∀ (f i : Nat) (us : List Cell), us.length ≤ f → widS (runsF f i us) = us.length ∧ (runsF f i us).flatMap Rn.txt = txts us ∧ ∀ (k : Nat) (r : Rn), (runsF f i us)[k]? = some r → r.col = i + widS ((runsF f i us).take k) ∧ 1 ≤ r.wid
  | 0, i, us, h => by
    have : us = [] := List.eq_nil_of_length_eq_zero (by omega)
    subst this
    exact ⟨rfl, rfl, fun k r hr => by simp [runsF] at hr⟩
  | f + 1, i, [], _ => ⟨rfl, rfl, fun k r hr => by simp [runsF] at hr⟩
  | f + 1, i, c :: cs, h => by
    have hl : cs.length ≤ f := by simpa using h
    obtain ⟨m, hm⟩ : ∃ m, m = runLen (penOf c) cs := ⟨_, rfl⟩
    have hmle : m ≤ cs.length := by rw [hm]; exact runLen_le _ _
    have hd : (cs.drop m).length ≤ f := by rw [List.length_drop]; omega
    obtain ⟨i1, i2, i3⟩ := runsF_sum f (i + (m + 1)) (cs.drop m) hd
    have e : runsF (f + 1) i (c :: cs) = ⟨i, m + 1, txts ((c :: cs).take (m + 1)), c⟩ :: runsF f (i + (m + 1)) (cs.drop m) := by rw [hm]; rfl
    rw [e]
    refine ⟨?_, ?_, ?_⟩
    · rw [widS, i1, List.length_drop, List.length_cons]
      show m + 1 + (cs.length - m) = cs.length + 1
      omega
    · rw [List.flatMap_cons, i2]
      show txts ((c :: cs).take (m + 1)) ++ txts (cs.drop m) = _
      rw [← txts_append, List.take_succ_cons, List.cons_append, List.take_append_drop]
    · intro k r hr
      cases k with
      | zero =>
        obtain rfl := Option.some.inj hr
        exact ⟨rfl, Nat.succ_le_succ (Nat.zero_le _)⟩
      | succ k =>
        obtain ⟨k1, k2⟩ := i3 k r (by simpa using hr)
        refine ⟨?_, k2⟩
        rw [k1, List.take_succ_cons, widS]
        show i + (m + 1) + _ = i + (m + 1 + _)
        omega
theorem runsL_sum (cs : List Cell) : widS (runsL cs) = usedN cs ∧ (runsL cs).flatMap Rn.txt = txts (cs.take (usedN cs)) ∧ ∀ (k : Nat) (r : Rn), (runsL cs)[k]? = some r → r.col = widS ((runsL cs).take k) ∧ 1 ≤ r.wid := by
  have hl : (cs.take (usedN cs)).length = usedN cs := by rw [List.length_take, Nat.min_eq_left (usedN_le cs)]
  obtain ⟨h1, h2, h3⟩ := runsF_sum (usedN cs) 0 (cs.take (usedN cs)) (by omega)
  refine ⟨by rw [← hl]; rw [hl]; exact h1.trans hl, h2, fun k r hr => ?_⟩
  have := h3 k r hr
  rwa [Nat.zero_add] at this
theorem widS_pos : ∀ rs : List Rn, (∀ r ∈ rs, 1 ≤ r.wid) → rs.length ≤ widS rs
  | [], _ => Nat.le_refl _
  | r :: rs, h => by
    have := widS_pos rs (fun x hx => h x (List.mem_cons_of_mem _ hx))
    have := h r (List.mem_cons_self ..)
    rw [widS, List.length_cons]; omega
/-- The markup of a line, with as many columns, is the line. -/
theorem line_same {cs : List Cell} (h : lnOk cs = true) (hb : ∀ c ∈ cs, c.Bd) (so : Bool) : lineB (mkL cs so) (cs.length : Int) = (cs, so, 0) := by
  have hl := lnOk_len h
  have hu := usedN_le cs
  rw [line_mk h hb so, if_neg (by omega), if_neg (by omega), Int.toNat_natCast, used_all]
/-- Two lines with as many cells have the same markup just if they are equal. -/
theorem mkL_inj {xs ys : List Cell} (hx : lnOk xs = true) (hy : lnOk ys = true) (bx : ∀ c ∈ xs, c.Bd) (by' : ∀ c ∈ ys, c.Bd) (s t : Bool) (hl : xs.length = ys.length) : mkL xs s = mkL ys t ↔ xs = ys ∧ s = t := by
  constructor
  · intro e
    have h1 := line_same hx bx s
    have h2 := line_same hy by' t
    rw [e, hl, h2] at h1
    simp only [Prod.mk.injEq] at h1
    exact ⟨h1.1.symm, h1.2.1.symm⟩
  · rintro ⟨rfl, rfl⟩; rfl
end Go.Proofs.YthcndmchlpohpaaGreatDoor
