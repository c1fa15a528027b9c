/- SearchHolds (42). The tables hold what the program's text lays. -/
import Derived.Test.YtfdolhppbimbmaaDoorShA
namespace Go.Proofs.YtfdolhppbimbmaaDoor
set_option linter.unusedVariables false
set_option linter.unusedSimpArgs false
open Go.RowKit Go.Shelf
attribute [local go_sem] Oper.semAt_some

set_option maxHeartbeats 2000000 in
set_option maxRecDepth 100000 in
theorem holds_bad (v : Value) (ls : List Ln) (first : Int) (p : ByteArray) (c : Int) (w : World) (hst : Std w) (ht : Tabs w) (ha : lnEl.Rd (fun b => b < w.heap.size) w v ls) (h : (smallB ls && decide (p.size ≤ 30)) = false ∨ c < 1 ∨ 20 < c) :
    Calls Tryd.prog 3 #[v, .int .i64 first, .string p, .int .i64 c] w fun e w' => e = .returned (.bool true) ∧ Sees w w' := by
  obtain ⟨a, n, cp, rfl⟩ : ∃ a n cp, v = .slice a n cp := by obtain ⟨a, c, rfl⟩ := ha.slice; exact ⟨_, _, _, rfl⟩
  have KN := Lib.hid (fun W (hs : Sees w W) => known_any W (hst.sees hs) (ht.sees hs))
  have KS := Lib.hid (small_any _ _ ls w ha p)
  obtain ⟨B, hB⟩ : ∃ B, B = (smallB ls && decide (p.size ≤ 30)) := ⟨_, rfl⟩
  rw [← hB] at KS h
  have H := Lib.hid h
  clear ha hst ht hB h
  go_enter Tryd.func3, Tryd.ntmps3
  go_wp2_with fail
  refine KS.out.mono ?_
  rintro e W1 ⟨rfl, s⟩
  have HS1 := Lib.hid s
  clear s KS
  cases B
  · go_wp2_with fail
    refine (KN.out _ HS1.out).mono ?_
    rintro e W2 ⟨rfl, s⟩
    have HS2 := Lib.hid (HS1.out.trans s)
    clear s
    go_wp2
    go_ret
    exact ⟨rfl, HS2.out⟩
  rcases Bool.eq_false_or_eq_true (decide (c < 1)) with g1 | g1
  · go_wp2_with fail
    refine (KN.out _ HS1.out).mono ?_
    rintro e W2 ⟨rfl, s⟩
    have HS2 := Lib.hid (HS1.out.trans s)
    clear s
    go_wp2
    go_ret
    exact ⟨rfl, HS2.out⟩
  rcases Bool.eq_false_or_eq_true (decide (c > 20)) with g2 | g2
  · go_wp2_with fail
    refine (KN.out _ HS1.out).mono ?_
    rintro e W2 ⟨rfl, s⟩
    have HS2 := Lib.hid (HS1.out.trans s)
    clear s
    go_wp2
    go_ret
    exact ⟨rfl, HS2.out⟩
  · exfalso
    have a1 := of_decide_eq_false g1
    have a2 := of_decide_eq_false g2
    rcases H.out with h | h | h
    · cases h
    · omega
    · omega
theorem searchHolds_any (v : Value) (ls : List Ln) (first : Int) (p : ByteArray) (c : Int) (w : World) (hst : Std w) (ht : Tabs w) (ha : lnEl.Rd (fun b => b < w.heap.size) w v ls) :
    Calls Tryd.prog 3 #[v, .int .i64 first, .string p, .int .i64 c] w fun e w' => e = .returned (.bool true) ∧ Sees w w' := by
  by_cases h : (smallB ls && decide (p.size ≤ 30)) = false ∨ c < 1 ∨ 20 < c
  · exact holds_bad v ls first p c w hst ht ha h
  · obtain ⟨C, rfl⟩ : ∃ C : Nat, c = C := ⟨c.toNat, by omega⟩
    have h1 : (smallB ls && decide (p.size ≤ 30)) = true := by
      cases hb : (smallB ls && decide (p.size ≤ 30))
      · exact absurd (.inl hb) h
      · rfl
    rw [Bool.and_eq_true, decide_eq_true_eq] at h1
    exact holds_good v ls first p C w hst ht ha h1.1 h1.2 (by omega) (by omega)
end Go.Proofs.YtfdolhppbimbmaaDoor
