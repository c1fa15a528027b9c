/- A page that is filled, and given back in parts. No condition. -/
import Derived.Test.YtfeoejpbmpdkaaaDoorKnown
namespace Go.Proofs.YtfeoejpbmpdkaaaDoor
set_option linter.unusedVariables false
set_option linter.unusedSimpArgs false
open Go.RowKit

/-- The lines that fill a page. -/
def abc (i : Nat) : Ln := ⟨[one (97 + (i : Int) % 26)], false⟩
def fl (n : Nat) : List Ln := (List.range n).map abc
theorem fl_succ (n : Nat) : fl (n + 1) = fl n ++ [abc n] := by simp [fl, List.range_succ]
theorem fl_length (n : Nat) : (fl n).length = n := by simp [fl]
theorem abc_all : ((List.range 26).all fun k => lnOk [one (97 + (k : Nat))]) = true := by kernel_rfl
theorem abc_ok (i : Nat) : lnOk (abc i).cells = true := by
  have h := abc_all
  rw [List.all_eq_true] at h
  have := h (i % 26) (List.mem_range.2 (Nat.mod_lt _ (by decide)))
  rw [Int.natCast_emod] at this
  exact this
theorem fl_part (n d k : Nat) (h : d + k < n) : ((fl n).drop d).take (n - d - k) = ((fl n).drop d).take (n - d - (k + 1)) ++ [abc (n - 1 - k)] := by
  rw [show n - d - k = n - d - (k + 1) + 1 by omega, List.take_add_one]
  congr 1
  rw [List.getElem?_drop, show d + (n - d - (k + 1)) = n - 1 - k by omega]
  simp [fl, show n - 1 - k < n by omega]

set_option maxRecDepth 1000000 in
set_option maxHeartbeats 4000000 in
theorem sheetFulls_out (a b c : Int) (w : World) (ht : Tabs w) (h : decide (a < 1) = true ∨ (decide (a < 1) = false ∧ decide (a > 1024) = true)) :
    Calls Tryd.prog 3 #[.int .u16 a, .int .u16 b, .int .u16 c] w fun e w' => e = .returned (.bool true) ∧ Sees w w' := by
  have Ht := Lib.hid ht
  clear ht
  rcases h with h1 | ⟨h1, h2⟩
  all_goals
    go_enter Tryd.func3, Tryd.ntmps3
    go_wp2_with fail
    refine (known07 w Ht.out).mono ?_
    rintro e w1 ⟨rfl, hs⟩
    go_wp2
    go_ret
    exact ⟨rfl, hs⟩
set_option maxRecDepth 1000000 in
set_option maxHeartbeats 4000000 in
theorem sheetFulls_in (n : Nat) (b c : Int) (w : World) (ht : Tabs w) (h1 : 1 ≤ n) (h2 : n ≤ 1024) (hb0 : 0 ≤ b) (hb1 : b ≤ 65535) (hc0 : 0 ≤ c) (hc1 : c ≤ 65535) :
    Calls Tryd.prog 3 #[.int .u16 n, .int .u16 b, .int .u16 c] w fun e w' => e = .returned (.bool true) ∧ Sees w w' := by
  have Ht := Lib.hid ht
  clear ht
  have d1 : decide ((n : Int) < 1) = false := decide_eq_false (by omega)
  have d2 : decide ((n : Int) > 1024) = false := decide_eq_false (by omega)
  go_enter Tryd.func3, Tryd.ntmps3
  go_wp2_with fail
  refine (new_pg (n : Int) w (by omega) (by omega)).mono ?_
  rintro e w1 ⟨rfl, P⟩
  have P1 := Lib.hid P
  clear P
  go_wp2_with fail
  go_loopw [9] (fun i W => ∃ k : Nat, k ≤ n ∧ i = .int .i64 k ∧ PgS w W.heap.size W w.heap.size n 0 (fl k)) (fun i _ => n - (intOf i).toNat)
  case atStart => exact ⟨0, by omega, rfl, P1.out⟩
  case round =>
    obtain ⟨k, hk, rfl, hP⟩ := hrel
    have H := Lib.hid hP
    clear hP
    by_cases hlt : k < n
    · go_wp2_with fail
      refine (text_any _ _).mono ?_
      rintro e W2 ⟨v', rfl, ho, hs⟩
      have H2 := Lib.hid (H.out.sees hs)
      obtain ⟨a', c', rfl⟩ := ho.slice
      have Ho := Lib.hid ho
      clear ho hs
      go_wp2_with fail
      refine (H2.out.push (Ht.out.sees H2.out.see) (fun b => wr.heap.size ≤ b) _ (abc k).cells false Ho.out.rdc (fun b hb => .inr hb) (abc_ok k) (by rw [fl_length]; omega)).mono ?_
      rintro e W3 ⟨rfl, hP3, _⟩
      have H3 := Lib.hid hP3
      clear hP3
      go_wp2
      refine ⟨⟨k + 1, by omega, by simp, by rw [fl_succ]; exact H3.out⟩, by simp [intOf]; omega⟩
    · obtain rfl : k = n := by omega
      obtain ⟨d, hd⟩ : ∃ d : Nat, b % ((k : Int) + 1) = d := Int.eq_ofNat_of_zero_le (Int.emod_nonneg _ (by omega))
      have hdk : d ≤ k := by have := Int.emod_lt_of_pos b (show 0 < (k : Int) + 1 by omega); omega
      obtain ⟨q, hq⟩ : ∃ q : Nat, c % ((k : Int) - d + 1) = q := Int.eq_ofNat_of_zero_le (Int.emod_nonneg _ (by omega))
      have hqk : d + q ≤ k := by have := Int.emod_lt_of_pos c (show 0 < (k : Int) - d + 1 by omega); omega
      have Hd := Lib.hid hd
      have Hq := Lib.hid hq
      clear hd hq
      go_wp2_with fail
      refine (text_any _ _).mono ?_
      rintro e W2 ⟨v', rfl, ho, hs⟩
      have H2 := Lib.hid (H.out.sees hs)
      obtain ⟨a', c', rfl⟩ := ho.slice
      have Ho := Lib.hid ho
      clear ho hs
      go_wp2_with fail
      refine (H2.out.push_full (Ht.out.sees H2.out.see) _ _ _ Ho.out.rd (by kernel_rfl) (by rw [fl_length]; omega)).mono ?_
      rintro e W3 ⟨rfl, hs⟩
      have H3 := Lib.hid (H2.out.sees hs)
      clear hs
      go_wp2_with fail
      refine (H3.out.roomIs 0 (by rw [fl_length]; omega)).mono ?_
      rintro e W4 ⟨rfl, hs⟩
      have H4 := Lib.hid (H3.out.sees hs)
      clear hs
      have hd := Hd.out
      have hq := Hq.out
      have hi0 : 0 ≤ (k : Int) - d := by omega
      have hi1 : (k : Int) - d ≤ 1024 := by omega
      go_wp2_with fail
      simp only [hd, hq]
      clear hd hq
      refine (H4.out.drop d (by rw [fl_length]; omega)).mono ?_
      rintro e W5 ⟨rfl, hP5, _⟩
      rw [Int.zero_add] at hP5
      have H5 := Lib.hid hP5
      clear hP5
      go_wp2_with fail
      refine (text_any _ _).mono ?_
      rintro e W6 ⟨v2, rfl, ho, hs⟩
      have H6 := Lib.hid (H5.out.sees hs)
      obtain ⟨a2, c2, rfl⟩ := ho.slice
      have Ho2 := Lib.hid ho
      clear ho hs
      go_wp2_with fail
      refine (H6.out.push_full (Ht.out.sees H6.out.see) _ _ _ Ho2.out.rd (by kernel_rfl) (by rw [List.length_drop, fl_length]; omega)).mono ?_
      rintro e W7 ⟨rfl, hs⟩
      have H7 := Lib.hid ((H6.out.sees hs).top)
      clear hs Ho Ho2
      go_wp2_with fail
      go_loopw [12] (fun i W => ∃ j : Nat, j ≤ q ∧ i = .int .i64 j ∧ PgS w W.heap.size W w.heap.size k d (((fl k).drop d).take (k - d - j))) (fun i _ => q - (intOf i).toNat)
      case atStart => exact ⟨0, by omega, rfl, by rw [Nat.sub_zero, List.take_of_length_le (by rw [List.length_drop, fl_length]; omega)]; exact H7.out⟩
      case round =>
        obtain ⟨j, hj, rfl, hP⟩ := hrel
        have H := Lib.hid hP
        clear hP
        by_cases hlt : j < q
        · have H8 : Hid (PgS w wr.heap.size wr w.heap.size k d (((fl k).drop d).take (k - d - (j + 1)) ++ [abc (k - 1 - j)])) := by
            unfold Hid; rw [← fl_part k d j (by omega)]; exact H.out
          have hi2 : 0 ≤ (k : Int) - 1 - j := by omega
          have hi3 : (k : Int) - 1 - j ≤ 1024 := by omega
          go_wp2_with fail
          refine (text_any _ _).mono ?_
          rintro e W8 ⟨v3, rfl, ho, hs⟩
          have H9 := Lib.hid (H8.out.sees hs)
          obtain ⟨a3, c3, rfl⟩ := ho.slice
          have Ho3 := Lib.hid ho
          clear ho hs
          have he : (abc (k - 1 - j)).cells = [one (97 + ((k : Int) - 1 - j) % 26)] := by
            unfold abc; simp only [show ((k - 1 - j : Nat) : Int) = (k : Int) - 1 - j by omega]
          have He := Lib.hid he
          clear he
          go_wp2_with fail
          refine (PgS.pops (abc (k - 1 - j)) H9.out (fun b => wr.heap.size ≤ b) (.slice a3 1 c3) (by rw [He.out]; exact Ho3.out.rdc) (fun b hb => .inr hb)).mono ?_
          rintro e W9 ⟨rfl, hP9, _⟩
          have H10 := Lib.hid hP9.top
          clear hP9
          go_wp2
          refine ⟨⟨j + 1, by omega, by simp, H10.out⟩, by simp [intOf]; omega⟩
        · obtain rfl : j = q := by omega
          have hi2 : 0 ≤ (k : Int) - d - j := by omega
          have hi3 : (k : Int) - d - j ≤ 1024 := by omega
          go_wp2_with fail
          refine (H.out.lenIs ((k : Int) - d - j) (by rw [List.length_take, List.length_drop, fl_length]; omega)).mono ?_
          rintro e X1 ⟨rfl, hs⟩
          have J1 := Lib.hid (H.out.sees hs)
          clear hs
          go_wp2_with fail
          refine (J1.out.roomIs (j : Int) (by rw [List.length_take, List.length_drop, fl_length]; omega)).mono ?_
          rintro e X2 ⟨rfl, hs⟩
          have J2 := Lib.hid (J1.out.sees hs)
          clear hs
          go_wp2_with fail
          refine (J2.out.goneIs (d : Int) rfl).mono ?_
          rintro e X3 ⟨rfl, hs⟩
          have J3 := Lib.hid (J2.out.sees hs)
          clear hs
          go_wp2_with fail
          refine (J3.out.lenIs ((k : Int) - d - j) (by rw [List.length_take, List.length_drop, fl_length]; omega)).mono ?_
          rintro e X4 ⟨rfl, hs⟩
          have J4 := Lib.hid (J3.out.sees hs)
          clear hs
          by_cases hz : (k : Int) - d - j = 0
          · have hzb : ((k : Int) - d - j == 0) = true := beq_iff_eq.2 hz
            clear hz
            go_wp2_with fail
            refine (known07 _ (Ht.out.sees J4.out.see)).mono ?_
            rintro e X5 ⟨rfl, hs⟩
            have J5 := Lib.hid (J4.out.see.trans hs)
            clear hs
            go_wp2
            go_ret
            exact ⟨by simp, J5.out⟩
          · have hzb : ((k : Int) - d - j == 0) = false := beq_eq_false_iff_ne.2 hz
            have hlt2 : d + j < k := by omega
            clear hz
            go_wp2_with fail
            refine (text_any _ _).mono ?_
            rintro e X5 ⟨v3, rfl, ho, hs⟩
            have J5 := Lib.hid (J4.out.sees hs)
            obtain ⟨a3, c3, rfl⟩ := ho.slice
            have Ho3 := Lib.hid ho
            clear ho hs
            go_wp2_with fail
            refine (J5.out.gets 0 (abc d) (by rw [List.getElem?_take, if_pos (by omega), List.getElem?_drop, Nat.add_zero]; unfold fl; rw [List.getElem?_map, List.getElem?_range (by omega)]; rfl) (.slice a3 1 c3) Ho3.out.rd).mono ?_
            rintro e X6 ⟨rfl, hs⟩
            have J6 := Lib.hid (J5.out.sees hs)
            clear hs
            go_wp2_with fail
            refine (known07 _ (Ht.out.sees J6.out.see)).mono ?_
            rintro e X7 ⟨rfl, hs⟩
            have J7 := Lib.hid (J6.out.see.trans hs)
            clear hs
            go_wp2
            go_ret
            exact ⟨by simp, J7.out⟩
end Go.Proofs.YtfeoejpbmpdkaaaDoor
