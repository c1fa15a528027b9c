/- SearchAll (42). The tables hold what the program's text lays. -/
import Derived.Test.YtohiigmlkhpneaaDoorSrX
import Derived.Test.YtohiigmlkhpneaaDoorSrV
namespace Go.Proofs.YtohiigmlkhpneaaDoor
set_option linter.unusedVariables false
set_option linter.unusedSimpArgs false
open Go.RowKit Go.Shelf
attribute [local go_sem] Oper.semAt_some

theorem small_ck {ls : List Ln} {first : Int} {p : ByteArray} (h : smallB ls = true) : ls.length ≤ 10 ∧ ∀ x ∈ ls, x.cells.length ≤ 20 := smallB_ok h
theorem patOk_pos {p : ByteArray} (h : patOk p = true) : 1 ≤ p.size ∧ p.size ≤ 200 := patOk_ok h
theorem ne_of_pat {p : ByteArray} (h : patOk p = true) : p.data.toList ≠ [] := fun e => by
  have := (patOk_ok h).1
  rw [Lib.size_eq, e] at this
  simp at this
set_option maxHeartbeats 4000000 in
theorem searchAll_any (v : Value) (ls : List Ln) (first : Int) (p : ByteArray) (fold : Bool) (w : World) (hst : Std w) (ht : Tabs w) (ha : lnEl.Rd (fun b => b < w.heap.size) w v ls) :
    Calls Tryd.prog 3 #[v, .int .i64 first, .string p, .bool fold] w fun e w' => e = .returned (.bool true) ∧ Sees w w' := by
  obtain ⟨a, n, cp, rfl⟩ : ∃ a n cp, v = .slice a n cp := by obtain ⟨a, c, rfl⟩ := ha.slice; exact ⟨_, _, _, rfl⟩
  have KN := Lib.hid (fun W (hs : Sees w W) => known_any W (hst.sees hs) (ht.sees hs))
  have HA := Lib.hid ha
  have HT := Lib.hid ht
  have HST := Lib.hid hst
  go_enter Tryd.func3, Tryd.ntmps3
  have KS := Lib.hid (small_any _ _ ls w ha p)
  obtain ⟨B, hB⟩ : ∃ B, B = (smallB ls && decide (p.size ≤ 30)) := ⟨_, rfl⟩
  rw [← hB] at KS
  have HB := Lib.hid hB
  clear ha hst ht hB
  cases B
  · go_wp2_with fail
    refine KS.out.mono ?_
    rintro e W1 ⟨rfl, s⟩
    have HS1 := Lib.hid s
    clear s
    go_wp2_with fail
    refine (KN.out _ HS1.out).mono ?_
    rintro e W2 ⟨rfl, s⟩
    have HS2 := Lib.hid (HS1.out.trans s)
    clear s
    go_wp2
    go_ret
    exact ⟨rfl, HS2.out⟩
  · have hsm := HB.out.symm
    rw [Bool.and_eq_true, decide_eq_true_eq] at hsm
    obtain ⟨hl1, hcell⟩ := smallB_ok hsm.1
    have hp30 := hsm.2
    have hp : p.size ≤ 1000000000 := by omega
    clear hsm
    go_wp2_with fail
    refine KS.out.mono ?_
    rintro e W1 ⟨rfl, s⟩
    have HS1 := Lib.hid s
    have KR := Lib.hid (rows_any _ _ ls W1 (HT.out.sees s) (HA.out.sees s) (by omega) (fun x hx => by have := hcell x hx; omega) first)
    clear s KS
    obtain ⟨R, hR⟩ : ∃ R, R = rowsOk ls first := ⟨_, rfl⟩
    rw [← hR] at KR
    have HR := Lib.hid hR
    clear hR
    cases R
    · go_wp2_with fail
      refine KR.out.mono ?_
      rintro e W2 ⟨rfl, s⟩
      have HS2 := Lib.hid (HS1.out.trans s)
      clear s
      go_wp2_with fail
      refine (alls_no (HT.out.sees HS2.out) (rd_up HA.out HS2.out) (by omega) (fun x hx => by have := hcell x hx; omega) hp fold (ckR_rows HR.out.symm)).mono ?_
      rintro e W3 ⟨rfl, s⟩
      have HS3 := Lib.hid (HS2.out.trans s)
      clear s
      go_wp2_with fail
      refine (KN.out _ HS3.out).mono ?_
      rintro e W4 ⟨rfl, s⟩
      have HS4 := Lib.hid (HS3.out.trans s)
      clear s
      go_wp2
      go_ret
      exact ⟨rfl, HS4.out⟩
    · have KP := Lib.hid (fun W => pattern_any p hp W)
      obtain ⟨P, hP⟩ : ∃ P, P = patOk p := ⟨_, rfl⟩
      rw [← hP] at KP
      have HP := Lib.hid hP
      clear hP
      cases P
      · go_wp2_with fail
        refine KR.out.mono ?_
        rintro e W2 ⟨rfl, s⟩
        have HS2 := Lib.hid (HS1.out.trans s)
        clear s
        go_wp2_with fail
        refine (KP.out _).mono ?_
        rintro e W3 ⟨rfl, s⟩
        subst s
        go_wp2_with fail
        refine (alls_no (HT.out.sees HS2.out) (rd_up HA.out HS2.out) (by omega) (fun x hx => by have := hcell x hx; omega) hp fold (ckR_pat HP.out.symm)).mono ?_
        rintro e W4 ⟨rfl, s⟩
        have HS4 := Lib.hid (HS2.out.trans s)
        clear s
        go_wp2_with fail
        refine (KN.out _ HS4.out).mono ?_
        rintro e W5 ⟨rfl, s⟩
        have HS5 := Lib.hid (HS4.out.trans s)
        clear s
        go_wp2
        go_ret
        exact ⟨rfl, HS5.out⟩
      · have hck : ckR ls first p = 0 := ckR_ok HR.out.symm (by omega) HP.out.symm
        obtain ⟨hq1, hq2⟩ := patOk_ok HP.out.symm
        obtain ⟨_, hq3, hq4⟩ := rowsOk_ok HR.out.symm
        have hfew : (allM ls first p.data.toList fold).length ≤ 10000 := by
          have := allM_few hcell first p.data.toList fold
          have h3 : ls.length * (20 * 16) ≤ 10 * (20 * 16) := Nat.mul_le_mul_right _ hl1
          omega
        have HFEW := Lib.hid hfew
        have HCK := Lib.hid hck
        clear hfew hck
        go_wp2_with fail
        refine KR.out.mono ?_
        rintro e W2 ⟨rfl, s⟩
        have HS2 := Lib.hid (HS1.out.trans s)
        clear s
        go_wp2_with fail
        refine (KP.out _).mono ?_
        rintro e W3 ⟨rfl, s⟩
        subst s
        go_wp2_with fail
        refine (matched_any _ _ _ _ ls first p fold _ (HA.out.sees HS2.out) (by omega) (fun x hx => by have := hcell x hx; omega) hq3 hq4 hq1 hq2).mono ?_
        rintro e W4 ⟨v4, rfl, ho, s⟩
        have HS4 := Lib.hid (HS2.out.trans s)
        have HO := Lib.hid (ho.rd.mono (G := fun b => b < W4.heap.size) (fun b hb _ => hb))
        clear s ho
        go_wp2_with fail
        refine (alls_ok (HST.out.sees HS4.out) (HT.out.sees HS4.out) (rd_up HA.out HS4.out) fold HCK.out HO.out rfl HFEW.out).mono ?_
        rintro e W5 ⟨rfl, s⟩
        have HS5 := Lib.hid (HS4.out.trans s)
        clear s
        go_wp2_with fail
        refine (KN.out _ HS5.out).mono ?_
        rintro e W6 ⟨rfl, s⟩
        have HS6 := Lib.hid (HS5.out.trans s)
        clear s
        go_wp2
        go_ret
        exact ⟨rfl, HS6.out⟩
end Go.Proofs.YtohiigmlkhpneaaDoor
