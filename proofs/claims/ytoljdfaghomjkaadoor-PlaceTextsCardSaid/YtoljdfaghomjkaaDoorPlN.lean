/- A numeral is read again as its number; the text of a place gives the place. No condition. -/
import Derived.Test.YtoljdfaghomjkaaDoorPlH
namespace Go.Proofs.YtoljdfaghomjkaaDoor
set_option linter.unusedVariables false
set_option linter.unusedSimpArgs false
open Go.RowKit

theorem dig_toNat {k : Nat} (h : k < 10) : (UInt8.ofNat (48 + k)).toNat = 48 + k := by
  rw [UInt8.toNat_ofNat']; omega
theorem dec_digits (u : Nat) : Lib.decDigits u ≠ [] ∧ ∀ b ∈ Lib.decDigits u, 48 ≤ b.toNat ∧ b.toNat ≤ 57 := by
  induction u using Nat.strongRecOn with
  | _ u ih =>
    rw [Lib.decDigits]
    by_cases h : u < 10
    · rw [dif_pos h]
      refine ⟨by simp, fun b hb => ?_⟩
      rw [List.mem_singleton] at hb
      subst hb
      rw [dig_toNat h]; omega
    · rw [dif_neg h]
      refine ⟨by simp, fun b hb => ?_⟩
      rw [List.mem_append, List.mem_singleton] at hb
      rcases hb with hb | rfl
      · exact (ih (u / 10) (by omega)).2 b hb
      · rw [dig_toNat (Nat.mod_lt _ (by decide))]
        have := Nat.mod_lt u (show 0 < 10 by decide)
        omega
theorem parse_app : ∀ (l : List UInt8) (acc v d : Nat), Lib.parseUint10 acc l = .ok v → d < 10 → v < 1000000000000000000 → Lib.parseUint10 acc (l ++ [UInt8.ofNat (48 + d)]) = .ok (v * 10 + d)
  | [], acc, v, d, h, hd, hv => by
    simp only [Lib.parseUint10, Lib.NumEnd.ok.injEq] at h
    subst h
    rw [List.nil_append, Lib.parseUint10, dig_toNat hd, if_pos (by omega), if_neg (by omega), if_neg (by omega), Lib.parseUint10]
    congr 1
    omega
  | c :: r, acc, v, d, h, hd, hv => by
    rw [List.cons_append]
    simp only [Lib.parseUint10] at h ⊢
    split at h
    · rename_i h1
      rw [if_pos h1]
      split at h
      · cases h
      · rename_i h2
        rw [if_neg h2]
        split at h
        · cases h
        · rename_i h3
          rw [if_neg h3]
          exact parse_app r _ v d h hd hv
    · cases h
theorem parse_dec (u : Nat) (hu : u < 1000000000000000000) : Lib.parseUint10 0 (Lib.decDigits u) = .ok u := by
  induction u using Nat.strongRecOn with
  | _ u ih =>
    rw [Lib.decDigits]
    by_cases h : u < 10
    · rw [dif_pos h]
      have := parse_app [] 0 0 u rfl h (by omega)
      simpa using this
    · rw [dif_neg h]
      have := parse_app _ 0 (u / 10) (u % 10) (ih (u / 10) (by omega) (by omega)) (Nat.mod_lt _ (by decide)) (by omega)
      rw [this]
      congr 1
      omega
theorem atoi_itoa (n : Int) (h0 : 0 ≤ n) (h1 : n < 1000000000000000000) : Lib.atoiAll (Lib.itoa n) = .ok n := by
  obtain ⟨u, rfl⟩ := Int.eq_ofNat_of_zero_le h0
  have hu : u < 1000000000000000000 := by omega
  have e : Lib.itoa (u : Int) = Lib.decDigits u := by
    unfold Lib.itoa
    rw [if_neg (by omega)]
    rfl
  rw [e]
  obtain ⟨hne, hd⟩ := dec_digits u
  have hp := parse_dec u hu
  cases hl : Lib.decDigits u with
  | nil => exact absurd hl hne
  | cons c r =>
    rw [hl] at hp hd
    have hc := hd c (List.mem_cons_self ..)
    rw [Lib.atoiAll_plain c r (by omega) (by omega)]
    have hm : Lib.parseMag (c :: r) = .ok u := by
      unfold Lib.parseMag
      rw [if_neg (by simp)]
      exact hp
    rw [hm]
    unfold Lib.signless
    simp only
    rw [if_neg (by omega)]
theorem index_at : ∀ (A B : List UInt8), (∀ b ∈ A, b ≠ 58) → Lib.index (A ++ 58 :: B) [58] = A.length
  | [], B, _ => by simp [Lib.index]
  | a :: A, B, h => by
    have h1 := index_at A B fun b hb => h b (List.mem_cons_of_mem _ hb)
    have h2 := h a (List.mem_cons_self ..)
    have h3 : ([58] : List UInt8).isPrefixOf (a :: (A ++ 58 :: B)) = false := by
      simp [List.isPrefixOf]
      exact fun e => h2 e.symm
    rw [List.cons_append, Lib.index, h3, h1]
    have h4 : ((A.length : Int) == -1) = false := by rw [beq_eq_false_iff_ne]; omega
    rw [h4]
    simp
theorem cut_at (A B : List UInt8) (h : ∀ b ∈ A, b ≠ 58) : Lib.cut (A ++ 58 :: B) [58] = (A, B, true) := by
  unfold Lib.cut
  rw [index_at A B h, if_pos (by omega)]
  simp
theorem has_txt {l c : Int} (h : vP l c = true) : HasPl (txt l c) l c := by
  have hb : (0 ≤ l ∧ l ≤ 1099511627776) ∧ 0 ≤ c ∧ c ≤ 1000 := by
    unfold vP at h
    simp at h
    omega
  have hd : (txt l c).data.toList = Lib.itoa l ++ 58 :: Lib.itoa c := by
    unfold txt
    simp
  have hc : Lib.cut (txt l c).data.toList [58] = (Lib.itoa l, Lib.itoa c, true) := by
    rw [hd]
    refine cut_at _ _ fun b hb' e => ?_
    subst e
    have e2 : Lib.itoa l = Lib.decDigits l.toNat := by
      unfold Lib.itoa
      rw [if_neg (by omega)]
    rw [e2] at hb'
    have := ((dec_digits l.toNat).2 _ hb').2
    exact absurd this (by decide)
  refine ⟨?_, ?_, h, rfl⟩
  · rw [hc]; exact atoi_itoa l (by omega) (by omega)
  · rw [hc]; exact atoi_itoa c (by omega) (by omega)
theorem txt_size (l c : Int) (hl : I64 l) (hc : I64 c) : (txt l c).size < 4294967281 := by
  have z1 : (Lib.itoa l).length ≤ 21 := Lib.itoa_length_le l hl.1 hl.2
  have z2 : (Lib.itoa c).length ≤ 21 := Lib.itoa_length_le c hc.1 hc.2
  have hd : (txt l c).data.toList = Lib.itoa l ++ 58 :: Lib.itoa c := by
    unfold txt
    simp
  rw [Lib.size_eq, hd, List.length_append, List.length_cons]
  omega
end Go.Proofs.YtoljdfaghomjkaaDoor
