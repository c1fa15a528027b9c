/- A rune's bytes, decoded again (40). No condition. -/
import Derived.Test.YtfpopoeeokdbiaaDoorTtR
namespace Go.Proofs.YtfpopoeeokdbiaaDoor
set_option linter.unusedVariables false
set_option linter.unusedSimpArgs false
open Go.RowKit
open Go.Extern.FmtText (enc1 enc2 enc3 enc4)

theorem enc_list (r : Nat) : Lib.encodeRune (r : Int) = (Utf8.encode (r : Int)).data.toList := by rw [enc_rune, strL_list]
theorem b_nat (n : Nat) (h : n < 256) : (UInt8.ofNat n).toNat = n := by simp; omega
set_option maxRecDepth 100000 in
theorem dec_enc (r : Nat) (hv : r < 55296 ∨ (57344 ≤ r ∧ r ≤ 1114111)) (t : List UInt8) : Lib.decodeL (Lib.encodeRune (r : Int) ++ t) = (r, (Lib.encodeRune (r : Int)).length) := by
  rw [enc_list, Lib.decodeL_N]
  have hval : Utf8.valid (r : Int) = true := by simp [Utf8.valid]; omega
  by_cases c1 : r < 128
  · rw [enc1 r c1]
    simp only [List.cons_append, List.nil_append, List.getD_cons_zero, List.length_cons, List.length_nil]
    rw [b_nat r (by omega)]
    unfold Lib.decodeN
    simp [c1]
  by_cases c2 : r < 2048
  · rw [enc2 r c1 c2]
    simp only [List.cons_append, List.nil_append, List.getD_cons_zero, List.getD_cons_succ, List.length_cons, List.length_nil]
    rw [b_nat (192 + r / 64) (by omega), b_nat (128 + r % 64) (by omega)]
    unfold Lib.decodeN
    have e1 : ¬ (192 + r / 64 < 128) := by omega
    have e2 : (192 + r / 64) / 32 = 6 := by omega
    have e3 : (128 + r % 64) / 64 = 2 := by omega
    have e4 : (192 + r / 64) % 32 * 64 + (128 + r % 64) % 64 = r := by omega
    have e5 : (192 + r / 64) % 32 * 64 + (128 + r) % 64 = r := by omega
    have e6 : 128 ≤ r := by omega
    simp [e1, e2, e3, e5, e6]
  by_cases c3 : r < 65536
  · rw [enc3 r c2 c3 (by omega)]
    simp only [List.cons_append, List.nil_append, List.getD_cons_zero, List.getD_cons_succ, List.length_cons, List.length_nil]
    rw [b_nat (224 + r / 4096) (by omega), b_nat (128 + r / 64 % 64) (by omega), b_nat (128 + r % 64) (by omega)]
    unfold Lib.decodeN
    have e1 : ¬ (224 + r / 4096 < 128) := by omega
    have e2 : ¬ ((224 + r / 4096) / 32 = 6) := by omega
    have e3 : (224 + r / 4096) / 16 = 14 := by omega
    have e4 : (128 + r / 64 % 64) / 64 = 2 := by omega
    have e5 : (128 + r % 64) / 64 = 2 := by omega
    have e6 : (224 + r / 4096) % 16 * 4096 + (128 + r / 64 % 64) % 64 * 64 + (128 + r % 64) % 64 = r := by omega
    have e7 : (224 + r / 4096) % 16 * 4096 + (128 + r / 64) % 64 * 64 + (128 + r) % 64 = r := by omega
    have e8 : 2048 ≤ r := by omega
    simp [e1, e2, e3, e4, e5, e7, e8]
    omega
  · rw [enc4 r c3 (by omega)]
    simp only [List.cons_append, List.nil_append, List.getD_cons_zero, List.getD_cons_succ, List.length_cons, List.length_nil]
    rw [b_nat (240 + r / 262144) (by omega), b_nat (128 + r / 4096 % 64) (by omega), b_nat (128 + r / 64 % 64) (by omega), b_nat (128 + r % 64) (by omega)]
    unfold Lib.decodeN
    have e1 : ¬ (240 + r / 262144 < 128) := by omega
    have e2 : ¬ ((240 + r / 262144) / 32 = 6) := by omega
    have e3 : ¬ ((240 + r / 262144) / 16 = 14) := by omega
    have e4 : (240 + r / 262144) / 8 = 30 := by omega
    have e5 : (128 + r / 4096 % 64) / 64 = 2 := by omega
    have e6 : (128 + r / 64 % 64) / 64 = 2 := by omega
    have e7 : (128 + r % 64) / 64 = 2 := by omega
    have e8 : (240 + r / 262144) % 8 * 262144 + (128 + r / 4096 % 64) % 64 * 4096 + (128 + r / 64 % 64) % 64 * 64 + (128 + r % 64) % 64 = r := by omega
    have e9 : (240 + r / 262144) % 8 * 262144 + (128 + r / 4096) % 64 * 4096 + (128 + r / 64) % 64 * 64 + (128 + r) % 64 = r := by omega
    have e10 : 65536 ≤ r := by omega
    simp [e1, e2, e3, e4, e5, e6, e7, e9, e10]
    omega
theorem runesF_step (s : ByteArray) (f pos : Nat) (r : Nat) (t : List UInt8) (hv : r < 55296 ∨ (57344 ≤ r ∧ r ≤ 1114111)) (h : s.data.toList.drop pos = Lib.encodeRune (r : Int) ++ t) : runesF s (f + 1) pos = (r : Int) :: runesF s f (pos + (Lib.encodeRune (r : Int)).length) := by
  have h1 := enc_len4 (r : Int)
  have hp : pos < s.size := by
    have e := congrArg List.length h
    rw [List.length_drop, List.length_append, ← Lib.size_eq] at e
    omega
  have hd : Utf8.decode s pos = (r, (Lib.encodeRune (r : Int)).length) := by rw [← Lib.decodeL_drop, h, dec_enc r hv t]
  rw [runesF, if_pos hp, hd]
theorem runesF_end (s : ByteArray) (f pos : Nat) (h : ¬ pos < s.size) : runesF s f pos = [] := by
  cases f with
  | zero => rfl
  | succ f => rw [runesF, if_neg h]
theorem runes_one (r : Nat) (hv : r < 55296 ∨ (57344 ≤ r ∧ r ≤ 1114111)) : runesS (strL (Lib.encodeRune (r : Int))) = [(r : Int)] := by
  have h1 := enc_len4 (r : Int)
  unfold runesS
  rw [strL_size]
  obtain ⟨f, hf⟩ : ∃ f, (Lib.encodeRune (r : Int)).length = f + 1 := ⟨_, (Nat.succ_pred_eq_of_pos (by omega)).symm⟩
  rw [hf, runesF_step _ f 0 r [] hv (by rw [strL_list]; simp), runesF_end _ _ _ (by rw [strL_size]; omega)]
theorem runes_two (r : Nat) (hv : r < 55296 ∨ (57344 ≤ r ∧ r ≤ 1114111)) : runesS (strL (Lib.encodeRune (r : Int) ++ Lib.encodeRune (r : Int))) = [(r : Int), (r : Int)] := by
  have h1 := enc_len4 (r : Int)
  unfold runesS
  rw [strL_size, List.length_append]
  obtain ⟨f, hf⟩ : ∃ f, (Lib.encodeRune (r : Int)).length + (Lib.encodeRune (r : Int)).length = f + 2 := ⟨(Lib.encodeRune (r : Int)).length + (Lib.encodeRune (r : Int)).length - 2, by omega⟩
  rw [hf, runesF_step _ (f + 1) 0 r (Lib.encodeRune (r : Int)) hv (by rw [strL_list]; simp), runesF_step _ f _ r [] hv (by rw [strL_list, Nat.zero_add]; simp), runesF_end _ _ _ (by rw [strL_size, List.length_append]; omega)]
set_option maxHeartbeats 8000000 in
set_option maxRecDepth 100000 in
theorem textRunes_any (first : Int) (h0 : -2147483648 ≤ first) (h1 : first ≤ 2147483647) (w : World) (ht : Tabs w) :
    Calls Tryd.prog 5 #[.int .i32 first] w fun e w' => e = .returned (.bool true) ∧ Sees w w' := by
  have HT := Lib.hid ht
  have KN := Lib.hid (fun W (hs : Sees w W) => known_any W (ht.sees hs))
  have KW := Lib.hid (fun r W (hW : Sees w W) => widthOf_any r W (ht.sees hW))
  clear ht
  go_enter Tryd.func5, Tryd.ntmps5
  go_wp2_with fail
  go_loopw [3] (fun i W => ∃ k : Nat, k ≤ 60 ∧ i = .int .i64 k ∧ Sees w W) (fun i _ => 60 - (intOf i).toNat)
  case atStart => exact ⟨0, by omega, rfl, Sees.refl _⟩
  case round =>
    obtain ⟨k, hk, rfl, hS⟩ := hrel
    have HS := Lib.hid hS
    clear hS
    by_cases hlt : k < 60
    · have hlt2 : (k : Int) < 60 := by omega
      obtain ⟨r, hr⟩ : ∃ r, r = IntKind.i32.wrap (first + (k : Int)) := ⟨_, rfl⟩
      have hwk : IntKind.i32.wrap (k : Int) = (k : Int) := by unfold IntKind.wrap; simp [IntKind.signed, IntKind.bits]; omega
      have hr1 : IntKind.i32.wrap (first + (k : Int)) = r := hr.symm
      have hr2 : wrap32 (first + (k : Int)) = r := (IntWalk.i32_left _).symm.trans hr1
      clear hr
      rcases Bool.eq_false_or_eq_true (decide (r < 0)) with c1 | c1
      · go_wp2_with fail
        exact ⟨⟨k + 1, by omega, by go_num, HS.out⟩, by simp [intOf]; omega⟩
      rcases Bool.eq_false_or_eq_true (decide (r > 1114111)) with c2 | c2
      · have d2 : 1114111 < r := of_decide_eq_true c2
        go_wp2_with fail
        exact ⟨⟨k + 1, by omega, by go_num, HS.out⟩, by simp [intOf]; omega⟩
      have d2 : ¬ (1114111 < r) := of_decide_eq_false c2
      by_cases c3 : 55296 ≤ r ∧ r ≤ 57343
      · have e1 : decide (r ≥ 55296) = true := decide_eq_true c3.1
        have e2 : decide (r ≤ 57343) = true := decide_eq_true c3.2
        have e3 : 55296 ≤ r := c3.1
        have e4 : r ≤ 57343 := c3.2
        clear c3
        go_wp2_with fail
        exact ⟨⟨k + 1, by omega, by go_num, HS.out⟩, by simp [intOf]; omega⟩
      obtain ⟨q, rfl⟩ : ∃ q : Nat, r = q := ⟨r.toNat, by have := of_decide_eq_false c1; omega⟩
      have hv : q < 55296 ∨ (57344 ≤ q ∧ q ≤ 1114111) := by omega
      have HV := Lib.hid hv
      have hcv : ∀ W : World, (convert 36 9 (.slice (some ⟨W.heap.size, 0, none⟩) 1 1)).run Tryd.prog (W.alloc (.cells #[.int .i32 (q : Int)] 21)) = .ok (.string (strL (Lib.encodeRune (q : Int)))) (W.alloc (.cells #[.int .i32 (q : Int)] 21)) := fun W => by rw [conv_rune, enc_rune]
      obtain ⟨X, hXe⟩ : ∃ X, X = strL (Lib.encodeRune (q : Int)) := ⟨_, rfl⟩
      rw [← hXe] at hcv
      have hw4 := (enc_len4 (q : Int)).2
      have hxs : X.size ≤ 4 := by rw [hXe, strL_size]; exact hw4
      obtain ⟨m, hm⟩ : ∃ m, m = max 0 (wOf (q : Int)) := ⟨_, rfl⟩
      have hwr := wOf_range (q : Int)
      have hm2 : 0 ≤ m ∧ m ≤ 2 := by omega
      have KD1 : Hid (∀ W, Sees w W → Calls Tryd.prog 15 #[.string X] W fun e w' => e = .returned (.int .i64 m) ∧ Sees W w') := fun W hs => by
        have q1 := twidth_any X (by omega) W (HT.out.sees hs)
        rw [hXe, runes_one q HV.out] at q1
        simp only [widL, List.map_cons, List.map_nil, List.sum_cons, List.sum_nil, Int.add_zero] at q1
        rw [← hm, ← hXe] at q1
        exact q1
      have KD2 : Hid (∀ W, Sees w W → Calls Tryd.prog 15 #[.string (X ++ X)] W fun e w' => e = .returned (.int .i64 (2 * m)) ∧ Sees W w') := fun W hs => by
        have q1 := twidth_any (X ++ X) (by rw [ByteArray.size_append]; omega) W (HT.out.sees hs)
        rw [hXe, strL_app, runes_two q HV.out] at q1
        simp only [widL, List.map_cons, List.map_nil, List.sum_cons, List.sum_nil, Int.add_zero] at q1
        rw [← hm, ← strL_app, ← hXe, ← Int.two_mul] at q1
        exact q1
      have KX : Hid (∀ W, Sees w W → Calls Tryd.prog 14 #[.int .i32 (q : Int)] W fun e w' => e = .returned (.int .i64 (wOf (q : Int))) ∧ Sees W w') := fun W hW => KW.out _ W hW
      obtain ⟨x, hx⟩ : ∃ x, x = wOf (q : Int) := ⟨_, rfl⟩
      rw [← hx] at KX hm
      have hmx : max (0 : Int) x = m := hm.symm
      have hmul : IntKind.i64.wrap (2 * m) = 2 * m := IntWalk.i64_in _ (by omega)
      clear hx hm hXe hwr hv hw4 c3
      rcases HV.out with hA | hB
      · have f1 : decide ((q : Int) ≥ 55296) = false := decide_eq_false (by omega)
        have f2 : ¬ (55296 ≤ (q : Int)) := by omega
        have f3 : ¬ (55296 ≤ q) := by omega
        have f4 : ¬ ((q : Int) < 0) := by omega
        have f5 : ¬ (1114111 < q) := by omega
        go_wp2_with fail
        refine (KX.out _ (HS.out.alloc _)).mono ?_
        rintro e W2 ⟨rfl, s2⟩
        have HS2 := Lib.hid ((HS.out.alloc _).trans s2)
        clear s2
        go_wp2_with fail
        refine (KD1.out _ HS2.out).mono ?_
        rintro e W3 ⟨rfl, s3⟩
        have HS3 := Lib.hid (HS2.out.trans s3)
        clear s3
        go_wp2_with fail
        refine (KD2.out _ HS3.out).mono ?_
        rintro e W4 ⟨rfl, s4⟩
        have HS4 := Lib.hid (HS3.out.trans s4)
        clear s4
        go_wp2
        exact ⟨⟨k + 1, by omega, by go_num, HS4.out⟩, by simp [intOf]; omega⟩
      · have f1 : decide ((q : Int) ≤ 57343) = false := decide_eq_false (by omega)
        have f2 : ¬ ((q : Int) ≤ 57343) := by omega
        have f3 : ¬ (q ≤ 57343) := by omega
        have f4 : ¬ ((q : Int) < 0) := by omega
        have f5 : ¬ (1114111 < q) := by omega
        have f6 : decide ((q : Int) ≥ 55296) = true := decide_eq_true (by omega)
        have f7 : 55296 ≤ (q : Int) := by omega
        have f8 : 55296 ≤ q := by omega
        go_wp2_with fail
        refine (KX.out _ (HS.out.alloc _)).mono ?_
        rintro e W2 ⟨rfl, s2⟩
        have HS2 := Lib.hid ((HS.out.alloc _).trans s2)
        clear s2
        go_wp2_with fail
        refine (KD1.out _ HS2.out).mono ?_
        rintro e W3 ⟨rfl, s3⟩
        have HS3 := Lib.hid (HS2.out.trans s3)
        clear s3
        go_wp2_with fail
        refine (KD2.out _ HS3.out).mono ?_
        rintro e W4 ⟨rfl, s4⟩
        have HS4 := Lib.hid (HS3.out.trans s4)
        clear s4
        go_wp2
        exact ⟨⟨k + 1, by omega, by go_num, HS4.out⟩, by simp [intOf]; omega⟩
    · have hlt2 : ¬ ((k : Int) < 60) := by omega
      go_wp2_with fail
      refine (KN.out _ HS.out).mono ?_
      rintro e W2 ⟨rfl, s2⟩
      have HS2 := Lib.hid (HS.out.trans s2)
      clear s2
      go_wp2
      go_ret
      exact ⟨rfl, HS2.out⟩
end Go.Proofs.YtfpopoeeokdbiaaDoor
