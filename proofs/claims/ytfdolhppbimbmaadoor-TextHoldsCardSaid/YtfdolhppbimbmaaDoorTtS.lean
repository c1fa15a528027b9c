/- A rune's bytes, decoded again (40). No condition. -/
import Derived.Test.YtfdolhppbimbmaaDoorTtR
namespace Go.Proofs.YtfdolhppbimbmaaDoor
set_option linter.unusedVariables false
set_option linter.unusedSimpArgs false
open Go.RowKit
open Go.Extern.FmtText (enc1 enc2 enc3 enc4)

theorem enc_list (r : Nat) : Lib.encodeRune (r : Int) = (Utf8.encode (r : Int)).data.toList := by rw [enc_rune, strL_list]
theorem b_nat (n : Nat) (h : n < 256) : (UInt8.ofNat n).toNat = n := by simp; omega
set_option maxRecDepth 100000 in
theorem dec_enc (r : Nat) (hv : r < 55296 ∨ (57344 ≤ r ∧ r ≤ 1114111)) (t : List UInt8) : Lib.decodeL (Lib.encodeRune (r : Int) ++ t) = (r, (Lib.encodeRune (r : Int)).length) := by
  rw [enc_list, Lib.decodeL_N]
  have hval : Utf8.valid (r : Int) = true := by simp [Utf8.valid]; omega
  by_cases c1 : r < 128
  · rw [enc1 r c1]
    simp only [List.cons_append, List.nil_append, List.getD_cons_zero, List.length_cons, List.length_nil]
    rw [b_nat r (by omega)]
    unfold Lib.decodeN
    simp [c1]
  by_cases c2 : r < 2048
  · rw [enc2 r c1 c2]
    simp only [List.cons_append, List.nil_append, List.getD_cons_zero, List.getD_cons_succ, List.length_cons, List.length_nil]
    rw [b_nat (192 + r / 64) (by omega), b_nat (128 + r % 64) (by omega)]
    unfold Lib.decodeN
    have e1 : ¬ (192 + r / 64 < 128) := by omega
    have e2 : (192 + r / 64) / 32 = 6 := by omega
    have e3 : (128 + r % 64) / 64 = 2 := by omega
    have e4 : (192 + r / 64) % 32 * 64 + (128 + r % 64) % 64 = r := by omega
    have e5 : (192 + r / 64) % 32 * 64 + (128 + r) % 64 = r := by omega
    have e6 : 128 ≤ r := by omega
    simp [e1, e2, e3, e5, e6]
  by_cases c3 : r < 65536
  · rw [enc3 r c2 c3 (by omega)]
    simp only [List.cons_append, List.nil_append, List.getD_cons_zero, List.getD_cons_succ, List.length_cons, List.length_nil]
    rw [b_nat (224 + r / 4096) (by omega), b_nat (128 + r / 64 % 64) (by omega), b_nat (128 + r % 64) (by omega)]
    unfold Lib.decodeN
    have e1 : ¬ (224 + r / 4096 < 128) := by omega
    have e2 : ¬ ((224 + r / 4096) / 32 = 6) := by omega
    have e3 : (224 + r / 4096) / 16 = 14 := by omega
    have e4 : (128 + r / 64 % 64) / 64 = 2 := by omega
    have e5 : (128 + r % 64) / 64 = 2 := by omega
    have e6 : (224 + r / 4096) % 16 * 4096 + (128 + r / 64 % 64) % 64 * 64 + (128 + r % 64) % 64 = r := by omega
    have e7 : (224 + r / 4096) % 16 * 4096 + (128 + r / 64) % 64 * 64 + (128 + r) % 64 = r := by omega
    have e8 : 2048 ≤ r := by omega
    simp [e1, e2, e3, e4, e5, e7, e8]
    omega
  · rw [enc4 r c3 (by omega)]
    simp only [List.cons_append, List.nil_append, List.getD_cons_zero, List.getD_cons_succ, List.length_cons, List.length_nil]
    rw [b_nat (240 + r / 262144) (by omega), b_nat (128 + r / 4096 % 64) (by omega), b_nat (128 + r / 64 % 64) (by omega), b_nat (128 + r % 64) (by omega)]
    unfold Lib.decodeN
    have e1 : ¬ (240 + r / 262144 < 128) := by omega
    have e2 : ¬ ((240 + r / 262144) / 32 = 6) := by omega
    have e3 : ¬ ((240 + r / 262144) / 16 = 14) := by omega
    have e4 : (240 + r / 262144) / 8 = 30 := by omega
    have e5 : (128 + r / 4096 % 64) / 64 = 2 := by omega
    have e6 : (128 + r / 64 % 64) / 64 = 2 := by omega
    have e7 : (128 + r % 64) / 64 = 2 := by omega
    have e8 : (240 + r / 262144) % 8 * 262144 + (128 + r / 4096 % 64) % 64 * 4096 + (128 + r / 64 % 64) % 64 * 64 + (128 + r % 64) % 64 = r := by omega
    have e9 : (240 + r / 262144) % 8 * 262144 + (128 + r / 4096) % 64 * 4096 + (128 + r / 64) % 64 * 64 + (128 + r) % 64 = r := by omega
    have e10 : 65536 ≤ r := by omega
    simp [e1, e2, e3, e4, e5, e6, e7, e9, e10]
    omega
theorem runesF_step (s : ByteArray) (f pos : Nat) (r : Nat) (t : List UInt8) (hv : r < 55296 ∨ (57344 ≤ r ∧ r ≤ 1114111)) (h : s.data.toList.drop pos = Lib.encodeRune (r : Int) ++ t) : runesF s (f + 1) pos = (r : Int) :: runesF s f (pos + (Lib.encodeRune (r : Int)).length) := by
  have h1 := enc_len4 (r : Int)
  have hp : pos < s.size := by
    have e := congrArg List.length h
    rw [List.length_drop, List.length_append, ← Lib.size_eq] at e
    omega
  have hd : Utf8.decode s pos = (r, (Lib.encodeRune (r : Int)).length) := by rw [← Lib.decodeL_drop, h, dec_enc r hv t]
  rw [runesF, if_pos hp, hd]
theorem runesF_end (s : ByteArray) (f pos : Nat) (h : ¬ pos < s.size) : runesF s f pos = [] := by
  cases f with
  | zero => rfl
  | succ f => rw [runesF, if_neg h]
theorem runes_one (r : Nat) (hv : r < 55296 ∨ (57344 ≤ r ∧ r ≤ 1114111)) : runesS (strL (Lib.encodeRune (r : Int))) = [(r : Int)] := by
  have h1 := enc_len4 (r : Int)
  unfold runesS
  rw [strL_size]
  obtain ⟨f, hf⟩ : ∃ f, (Lib.encodeRune (r : Int)).length = f + 1 := ⟨_, (Nat.succ_pred_eq_of_pos (by omega)).symm⟩
  rw [hf, runesF_step _ f 0 r [] hv (by rw [strL_list]; simp), runesF_end _ _ _ (by rw [strL_size]; omega)]
theorem runes_two (r : Nat) (hv : r < 55296 ∨ (57344 ≤ r ∧ r ≤ 1114111)) : runesS (strL (Lib.encodeRune (r : Int) ++ Lib.encodeRune (r : Int))) = [(r : Int), (r : Int)] := by
  have h1 := enc_len4 (r : Int)
  unfold runesS
  rw [strL_size, List.length_append]
  obtain ⟨f, hf⟩ : ∃ f, (Lib.encodeRune (r : Int)).length + (Lib.encodeRune (r : Int)).length = f + 2 := ⟨(Lib.encodeRune (r : Int)).length + (Lib.encodeRune (r : Int)).length - 2, by omega⟩
  rw [hf, runesF_step _ (f + 1) 0 r (Lib.encodeRune (r : Int)) hv (by rw [strL_list]; simp), runesF_step _ f _ r [] hv (by rw [strL_list, Nat.zero_add]; simp), runesF_end _ _ _ (by rw [strL_size, List.length_append]; omega)]
end Go.Proofs.YtfdolhppbimbmaaDoor
