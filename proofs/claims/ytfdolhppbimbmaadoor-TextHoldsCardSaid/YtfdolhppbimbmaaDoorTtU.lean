/- scrollbacklaw40.trimmed, small (40). The tables hold what the program's text lays. -/
import Derived.Test.YtfdolhppbimbmaaDoorTtQ
namespace Go.Proofs.YtfdolhppbimbmaaDoor
set_option linter.unusedVariables false
set_option linter.unusedSimpArgs false
open Go.RowKit
attribute [local go_sem] Oper.semAt_some

theorem str_at (s : ByteArray) (k : Nat) (h : k < s.size) (W : World) : (Instr.index 9 (.string s) (.int .i64 (k : Int))).run Tryd.prog W = .ok (.int .u8 ((s.data.toList.getD k 0).toNat : Int)) W := by
  rw [run_index_string (h := Tryd.underlying9), dif_pos ⟨by omega, by omega⟩]
  simp only [Int.toNat_natCast]
  rw [List.getD_eq_getElem?_getD, List.getElem?_eq_getElem (by rw [← Lib.size_eq]; exact h)]
  rfl
set_option maxHeartbeats 4000000 in
set_option maxRecDepth 100000 in
theorem trimmed_any (s : ByteArray) (hs : s.size ≤ 100000000) (w : World) : Calls Tryd.prog 65 #[.string s] w fun e w' => e = .returned (.string (strL (Lib.trimRightB s.data.toList 32))) ∧ Sees w w' := by
  obtain ⟨T, hT⟩ : ∃ T, T = strL (Lib.trimRightB s.data.toList 32) := ⟨_, rfl⟩
  have HT := Lib.hid hT
  rw [← hT]
  clear hT
  go_enter Tryd.func65, Tryd.ntmps65
  go_wp2_with fail
  go_loopw [3] (fun i W => ∃ k : Nat, k ≤ s.size ∧ i = .int .i64 k ∧ Hid (∀ (j : Nat) b, k ≤ j → s.data.toList[j]? = some b → b = 32) ∧ Sees w W) (fun i _ => (intOf i).toNat)
  case atStart => exact ⟨s.size, Nat.le_refl _, rfl, (fun j b h hb => by have := (List.getElem?_eq_some_iff.1 hb).1; rw [← Lib.size_eq] at this; omega), Sees.refl _⟩
  case round =>
    obtain ⟨k, hk, rfl, hA, hS⟩ := hrel
    have HS := Lib.hid hS
    clear hS
    by_cases hk0 : 0 < k
    · have hki : (0 : Int) < (k : Int) := by omega
      obtain ⟨m, hm⟩ : ∃ m, m = k - 1 := ⟨_, rfl⟩
      have hsub : IntKind.i64.wrap ((k : Int) - 1) = (m : Int) := by rw [IntWalk.i64_in _ (by omega)]; omega
      have hms : m < s.size := by omega
      have hix := str_at s m hms
      have hnk : s.data.toList[m]? = some (s.data.toList.getD m 0) := by
        rw [List.getD_eq_getElem?_getD, List.getElem?_eq_getElem (by rw [← Lib.size_eq]; exact hms)]
        rfl
      obtain ⟨B, hB⟩ : ∃ B, B = s.data.toList.getD m 0 := ⟨_, rfl⟩
      rw [← hB] at hix hnk
      have HB := Lib.hid hnk
      have HM := Lib.hid hm
      clear hB hnk hm
      obtain ⟨x, hx⟩ : ∃ x : Int, x = (B.toNat : Int) := ⟨_, rfl⟩
      rw [← hx] at hix
      have HX := Lib.hid hx
      clear hx
      rcases Bool.eq_false_or_eq_true (x == 32) with c1 | c1
      · have hb : B = 32 := by
          have e1 : x = 32 := by simpa using c1
          have e2 := HX.out
          have e3 : B.toNat = 32 := by omega
          exact UInt8.toNat_inj.1 (by rw [e3]; rfl)
        have HBB := Lib.hid hb
        have hA2 : Hid (∀ (j : Nat) b, m ≤ j → s.data.toList[j]? = some b → b = 32) := fun j b hj hb2 => by
          by_cases hj2 : j = m
          · rw [hj2, HB.out] at hb2
            cases hb2
            exact HBB.out
          · exact hA.out j b (by have := HM.out; omega) hb2
        have hx32 : x = 32 := by simpa using c1
        clear hb
        go_wp2_with fail
        exact ⟨⟨m, by omega, by go_num, hA2, HS.out⟩, by have := HM.out; simp [intOf]; omega⟩
      · have hnb : B ≠ 32 := fun e => by
          have e2 := HX.out
          rw [e] at e2
          have e3 : x = 32 := by rw [e2]; rfl
          rw [e3] at c1
          simp at c1
        have hTe : T = strL (s.data.toList.take k) := by
          rw [HT.out, Lib.trimRightB_take s.data.toList 32 k (by rw [← Lib.size_eq]; exact hk) hA.out (fun b _ hb2 => by
            rw [← HM.out, HB.out] at hb2
            cases hb2
            exact hnb)]
        have HTE := Lib.hid hTe
        have hxn : ¬ (x = 32) := fun e => by rw [e] at c1; simp at c1
        clear hTe hnb
        go_wp2_with fail
        go_ret
        refine ⟨?_, HS.out⟩
        have e : s.extract 0 k = T := by
          rw [HTE.out]
          refine bytes_ext ?_
          rw [strL_list]
          simp
        show Ending.returned (.string (s.extract 0 k)) = _
        rw [e]
    · obtain rfl : k = 0 := by omega
      have hTe : Hid (T = ⟨#[]⟩) := by
        unfold RowKit.Hid
        rw [HT.out, Lib.trimRightB_take s.data.toList 32 0 (Nat.zero_le _) hA.out (fun b h => by omega)]
        rfl
      go_wp2
      go_ret
      exact ⟨by rw [hTe.out]; rfl, HS.out⟩
end Go.Proofs.YtfdolhppbimbmaaDoor
