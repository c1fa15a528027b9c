/- What 'Drop', 'Pop' and 'Set' refuse. No condition. -/
import Derived.Test.YtfeoejpbmpdkaaaDoorGet
namespace Go.Proofs.YtfeoejpbmpdkaaaDoor
set_option linter.unusedVariables false
set_option linter.unusedSimpArgs false
open Go.RowKit

theorem drop_no (s : Value) (i : Int) (w : World) (h : NoPg w s) :
    Calls Tryd.prog 16 #[s, .int .i64 i] w fun e w' => e = .returned (.int .i64 1) ∧ Sees w w' := by
  have H := Lib.hid h; clear h
  go_enter Tryd.func16, Tryd.ntmps16
  go_wp2_with fail
  refine (zero_no _ _ H.out).mono ?_
  rintro e w1 ⟨rfl, hs⟩
  go_wp2
  go_ret
  exact ⟨rfl, hs⟩
theorem drop_range (p : Nat) (most gone : Int) (a : Option Addr) (n c : Nat) (i : Int) (w : World) (h : PgAt w p most gone (.slice a n c)) (hm : 0 < most) (hi : decide (i < 0) = true ∨ (decide (i < 0) = false ∧ decide (i > (n : Int)) = true)) :
    Calls Tryd.prog 16 #[.pointer (some ⟨p, 0, none⟩), .int .i64 i] w fun e w' => e = .returned (.int .i64 3) ∧ Sees w w' := by
  have H := Lib.hid h
  have Hm := Lib.hid hm; clear h hm
  go_enter Tryd.func16, Tryd.ntmps16
  go_wp2_with fail
  refine (zero_at _ _ _ _ _ H.out Hm.out).mono ?_
  rintro e w1 ⟨rfl, hs⟩
  have Hs := Lib.hid hs; clear hs
  have q := (H.out.sees Hs.out).c2
  rcases hi with h1 | ⟨h1, h2⟩
  all_goals
    go_wp2
    go_ret
    exact ⟨rfl, Hs.out⟩

theorem pop_no (s : Value) (w : World) (h : NoPg w s) :
    Calls Tryd.prog 21 #[s] w fun e w' => e = .returned (.tuple #[.agg #[.slice none 0 0, .bool false], .int .i64 1]) ∧ Sees w w' := by
  have H := Lib.hid h; clear h
  go_enter Tryd.func21, Tryd.ntmps21
  go_wp2_with fail
  refine (zero_no _ _ (H.out.sees ((Sees.refl w).alloc _))).mono ?_
  rintro e w1 ⟨rfl, hs⟩
  have c0 : w1.cell? ⟨w.heap.size, 0, none⟩ = some (.slice none 0 0) := by rw [hs.cells _ _ (by simp)]; simp
  have c1 : w1.cell? ⟨w.heap.size, 1, none⟩ = some (.bool false) := by rw [hs.cells _ _ (by simp)]; simp
  have f1 : ∀ i, w1.frozen? ⟨w.heap.size, i, none⟩ = false := fun i => by rw [hs.frozens _ _ (by simp)]; simp
  have Hs := Lib.hid (((Sees.refl w).alloc _).trans hs); clear hs
  go_wp2
  refine bodyPost_ret_by (v := .tuple #[.agg #[.slice none 0 0, .bool false], .int .i64 1]) (by simp [results, Tryd.results21, go_sem, c0, c1]) rfl ⟨rfl, ?_⟩
  exact (Hs.out.setCell (p := ⟨w.heap.size, 0, none⟩) (Nat.le_refl _) _).setCell (p := ⟨w.heap.size, 1, none⟩) (Nat.le_refl _) _

theorem pop_none (p : Nat) (most gone : Int) (a : Option Addr) (c : Nat) (w : World) (h : PgAt w p most gone (.slice a 0 c)) (hm : 0 < most) :
    Calls Tryd.prog 21 #[.pointer (some ⟨p, 0, none⟩)] w fun e w' => e = .returned (.tuple #[.agg #[.slice none 0 0, .bool false], .int .i64 9]) ∧ Sees w w' := by
  have H := Lib.hid h; clear h
  go_enter Tryd.func21, Tryd.ntmps21
  go_wp2_with fail
  refine (zero_at _ _ _ _ _ (H.out.sees ((Sees.refl w).alloc _)) hm).mono ?_
  rintro e w1 ⟨rfl, hs⟩
  have c0 : w1.cell? ⟨w.heap.size, 0, none⟩ = some (.slice none 0 0) := by rw [hs.cells _ _ (by simp)]; simp
  have c1 : w1.cell? ⟨w.heap.size, 1, none⟩ = some (.bool false) := by rw [hs.cells _ _ (by simp)]; simp
  have f1 : ∀ i, w1.frozen? ⟨w.heap.size, i, none⟩ = false := fun i => by rw [hs.frozens _ _ (by simp)]; simp
  have Hs := Lib.hid (((Sees.refl w).alloc _).trans hs); clear hs
  have q := (H.out.sees Hs.out).c2
  go_wp2
  refine bodyPost_ret_by (v := .tuple #[.agg #[.slice none 0 0, .bool false], .int .i64 9]) (by simp [results, Tryd.results21, go_sem, c0, c1]) rfl ⟨rfl, ?_⟩
  exact (Hs.out.setCell (p := ⟨w.heap.size, 0, none⟩) (Nat.le_refl _) _).setCell (p := ⟨w.heap.size, 1, none⟩) (Nat.le_refl _) _

theorem set_no (s v : Value) (i : Int) (cs : List Cell) (soft : Bool) (w : World) (h : NoPg w s) (ha : RdCells w v cs) :
    Calls Tryd.prog 30 #[s, .int .i64 i, .agg #[v, .bool soft]] w fun e w' => e = .returned (.int .i64 1) ∧ Sees w w' := by
  obtain ⟨ao, ca, rfl, hh⟩ := ha
  clear hh
  have H := Lib.hid h; clear h
  go_enter Tryd.func30, Tryd.ntmps30
  go_wp2_with fail
  refine (zero_no _ _ (H.out.sees ((Sees.refl w).alloc _))).mono ?_
  rintro e w1 ⟨rfl, hs⟩
  go_wp2
  go_ret
  exact ⟨rfl, ((Sees.refl w).alloc _).trans hs⟩

set_option maxHeartbeats 1000000 in
theorem set_bad (p : Nat) (most gone : Int) (i : Int) (a : Option Addr) (k c : Nat) (v : Value) (cs : List Cell) (soft : Bool) (w : World) (ht : Tabs w) (h : PgAt w p most gone (.slice a k c)) (hm : 0 < most) (ha : RdCells w v cs) (hn : cs.length ≤ 1000000) (hl : lnOk cs = false) :
    Calls Tryd.prog 30 #[.pointer (some ⟨p, 0, none⟩), .int .i64 i, .agg #[v, .bool soft]] w fun e w' => e = .returned (.int .i64 2) ∧ Sees w w' := by
  have Ha := Lib.hid ha
  obtain ⟨ao, ca, rfl, hh⟩ := ha
  have H := Lib.hid h
  have Hm := Lib.hid hm
  have Hn := Lib.hid hn
  have Ht := Lib.hid ht
  clear h hm hn hh ht
  obtain ⟨n, hnc⟩ : ∃ n, n = cs.length := ⟨_, rfl⟩
  rw [← hnc] at Ha Hn ⊢
  have Hnc := Lib.hid hnc
  clear hnc
  go_enter Tryd.func30, Tryd.ntmps30
  go_wp2_with fail
  refine (zero_at _ p _ _ _ (H.out.sees ((Sees.refl w).alloc _)) Hm.out).mono ?_
  rintro e w1 ⟨rfl, hs⟩
  have c0 : w1.cell? ⟨w.heap.size, 0, none⟩ = some (.slice ao n ca) := by rw [hs.cells _ _ (by simp)]; simp
  have c1 : w1.cell? ⟨w.heap.size, 1, none⟩ = some (.bool soft) := by rw [hs.cells _ _ (by simp)]; simp
  have Hs := Lib.hid (((Sees.refl w).alloc _).trans hs); clear hs
  go_wp2_with fail
  refine (lineValid_any _ cs soft _ (Ht.out.sees Hs.out) (Ha.out.sees Hs.out) (by rw [← Hnc.out]; exact Hn.out)).mono ?_
  rintro e w2 ⟨rfl, hs2⟩
  have Hs2 := Lib.hid (Hs.out.trans hs2); clear hs2
  go_wp2
  go_ret
  exact ⟨rfl, Hs2.out⟩

set_option maxHeartbeats 1000000 in
theorem set_range (p : Nat) (most gone : Int) (i : Int) (a : Option Addr) (k c : Nat) (v : Value) (cs : List Cell) (soft : Bool) (w : World) (ht : Tabs w) (h : PgAt w p most gone (.slice a k c)) (hm : 0 < most) (ha : RdCells w v cs) (hn : cs.length ≤ 1000000) (hl : lnOk cs = true) (hi : decide (i < 0) = true ∨ (decide (i < 0) = false ∧ decide (i ≥ (k : Int)) = true)) :
    Calls Tryd.prog 30 #[.pointer (some ⟨p, 0, none⟩), .int .i64 i, .agg #[v, .bool soft]] w fun e w' => e = .returned (.int .i64 3) ∧ Sees w w' := by
  have Ha := Lib.hid ha
  obtain ⟨ao, ca, rfl, hh⟩ := ha
  have H := Lib.hid h
  have Hm := Lib.hid hm
  have Hn := Lib.hid hn
  have Ht := Lib.hid ht
  clear h hm hn hh ht
  obtain ⟨n, hnc⟩ : ∃ n, n = cs.length := ⟨_, rfl⟩
  rw [← hnc] at Ha Hn ⊢
  have Hnc := Lib.hid hnc
  clear hnc
  go_enter Tryd.func30, Tryd.ntmps30
  go_wp2_with fail
  refine (zero_at _ p _ _ _ (H.out.sees ((Sees.refl w).alloc _)) Hm.out).mono ?_
  rintro e w1 ⟨rfl, hs⟩
  have c0 : w1.cell? ⟨w.heap.size, 0, none⟩ = some (.slice ao n ca) := by rw [hs.cells _ _ (by simp)]; simp
  have c1 : w1.cell? ⟨w.heap.size, 1, none⟩ = some (.bool soft) := by rw [hs.cells _ _ (by simp)]; simp
  have Hs := Lib.hid (((Sees.refl w).alloc _).trans hs); clear hs
  go_wp2_with fail
  refine (lineValid_any _ cs soft _ (Ht.out.sees Hs.out) (Ha.out.sees Hs.out) (by rw [← Hnc.out]; exact Hn.out)).mono ?_
  rintro e w2 ⟨rfl, hs2⟩
  have Hs2 := Lib.hid (Hs.out.trans hs2); clear hs2
  have q := (H.out.sees Hs2.out).c2
  rcases hi with h1 | ⟨h1, h2⟩
  all_goals
    go_wp2
    go_ret
    exact ⟨rfl, Hs2.out⟩
end Go.Proofs.YtfeoejpbmpdkaaaDoor
