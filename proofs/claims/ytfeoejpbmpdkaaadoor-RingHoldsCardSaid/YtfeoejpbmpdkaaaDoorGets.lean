/- What the statements ask of Get and Pop. No condition. -/
import Derived.Test.YtfeoejpbmpdkaaaDoorPop
namespace Go.Proofs.YtfeoejpbmpdkaaaDoor
set_option linter.unusedVariables false
set_option linter.unusedSimpArgs false
open Go.RowKit

set_option maxHeartbeats 1000000 in
theorem gets_true (s : Value) (i e0 : Int) (u : Value) (l : Ln) (w : World) (hu : RdCells w u l.cells) (hn : l.cells.length ≤ 1000000)
    (hG : ∀ W, Sees w W → Calls Tryd.prog 60 #[s, .int .i64 i] W fun e w' => ∃ v', e = .returned (.tuple #[.agg #[v', .bool l.soft], .int .i64 e0]) ∧ RdCells w' v' l.cells ∧ Sees W w') :
    Calls Tryd.prog 20 #[s, .int .i64 i, .agg #[u, .bool l.soft], .int .i64 e0] w fun e w' => e = .returned (.bool true) ∧ Sees w w' := by
  have Hu := Lib.hid hu
  obtain ⟨ao, ca, rfl, _⟩ := hu
  have Hn := Lib.hid hn
  have HG := Lib.hid hG
  clear hn hG
  obtain ⟨n, hnc⟩ : ∃ n, n = l.cells.length := ⟨_, rfl⟩
  rw [← hnc] at Hu ⊢
  have Hnc := Lib.hid hnc
  clear hnc
  go_enter Tryd.func20, Tryd.ntmps20
  go_wp2_with fail
  refine (HG.out _ ((Sees.refl w).alloc _)).mono ?_
  rintro e w1 ⟨v', rfl, hv, hs⟩
  have Hv := Lib.hid hv
  obtain ⟨a', c', rfl, _⟩ := hv
  have c0 : w1.cell? ⟨w.heap.size, 0, none⟩ = some (.slice ao n ca) := by rw [hs.cells _ _ (by simp)]; simp
  have c1 : w1.cell? ⟨w.heap.size, 1, none⟩ = some (.bool l.soft) := by rw [hs.cells _ _ (by simp)]; simp
  have hz := hs.size
  have hz1 : w.heap.size < w1.heap.size := by simp at hz; omega
  clear hz
  have Hs := Lib.hid (((Sees.refl w).alloc _).trans hs); clear hs
  rw [← Hnc.out] at Hv ⊢
  go_wp2_with fail
  refine (sameLine_any _ _ l l _ ?_ ?_ Hn.out).mono ?_
  · exact Hv.out.sees ((Sees.refl w1).alloc _)
  · exact Hu.out.sees (Hs.out.trans ((Sees.refl w1).alloc _))
  rintro e w2 ⟨rfl, hs2⟩
  have h1 : decide (l = l) = true := by simp
  have h2 : (e0 == e0) = true := by simp
  have Hs2 := Lib.hid hs2; clear hs2
  go_wp2
  go_ret
  exact ⟨by simp, Hs.out.trans (((Sees.refl w1).alloc _).trans Hs2.out)⟩

set_option maxHeartbeats 1000000 in
theorem pops_true (F : Nat → Prop) (K : World → Prop) (s : Value) (e0 : Int) (u : Value) (l : Ln) (w : World) (hu : RdCells w u l.cells) (hn : l.cells.length ≤ 1000000) (hF : ∀ b, F b → b < w.heap.size) (hK : ∀ W W', K W → Sees W W' → K W')
    (hG : ∀ W, Sees w W → Calls Tryd.prog 21 #[s] W fun e w' => ∃ v', e = .returned (.tuple #[.agg #[v', .bool l.soft], .int .i64 e0]) ∧ RdCells w' v' l.cells ∧ RdCells w' u l.cells ∧ Keeps F W w' ∧ K w') :
    Calls Tryd.prog 17 #[s, .agg #[u, .bool l.soft], .int .i64 e0] w fun e w' => e = .returned (.bool true) ∧ K w' ∧ Keeps F w w' := by
  obtain ⟨ao, ca, rfl, _⟩ := hu
  have Hn := Lib.hid hn
  have HG := Lib.hid hG
  have HF := Lib.hid hF
  have HK := Lib.hid hK
  clear hn hG hF hK
  obtain ⟨n, hnc⟩ : ∃ n, n = l.cells.length := ⟨_, rfl⟩
  rw [← hnc] at HG ⊢
  have Hnc := Lib.hid hnc
  clear hnc
  go_enter Tryd.func17, Tryd.ntmps17
  go_wp2_with fail
  refine (HG.out _ ((Sees.refl w).alloc _)).mono ?_
  rintro e w1 ⟨v', rfl, hv, hu, hk, hKw⟩
  have Hv := Lib.hid hv
  have Hu := Lib.hid hu
  obtain ⟨a', c', rfl, _⟩ := hv
  have hnF : ¬ F w.heap.size := fun h => absurd (HF.out _ h) (Nat.lt_irrefl _)
  have c0 : w1.cell? ⟨w.heap.size, 0, none⟩ = some (.slice ao n ca) := hk.cell (a := ⟨w.heap.size, 0, none⟩) hnF (by simp)
  have c1 : w1.cell? ⟨w.heap.size, 1, none⟩ = some (.bool l.soft) := hk.cell (a := ⟨w.heap.size, 1, none⟩) hnF (by simp)
  have hz := hk.size
  have hz1 : w.heap.size < w1.heap.size := by simp at hz; omega
  have Hs := Lib.hid ((Keeps.of_sees (F := F) ((Sees.refl w).alloc (Obj.cells #[.slice ao n ca, .bool l.soft] 31))).trans hk)
  have HKw := Lib.hid hKw
  clear hk hz hnF hKw hu
  rw [← Hnc.out] at Hv ⊢
  go_wp2_with fail
  refine (sameLine_any _ _ l l _ ?_ ?_ Hn.out).mono ?_
  · exact Hv.out.sees ((Sees.refl w1).alloc _)
  · exact Hu.out.sees ((Sees.refl w1).alloc _)
  rintro e w2 ⟨rfl, hs2⟩
  have h1 : decide (l = l) = true := by simp
  have h2 : (e0 == e0) = true := by simp
  have Hs2 := Lib.hid (((Sees.refl w1).alloc _).trans hs2); clear hs2
  go_wp2
  go_ret
  exact ⟨by simp, HK.out _ _ HKw.out Hs2.out, Hs.out.trans (Keeps.of_sees Hs2.out)⟩

theorem none_true (n : Int) (w : World) (h : decide (n < 1) = true ∨ (decide (n < 1) = false ∧ decide (n > 1024) = true)) :
    Calls Tryd.prog 26 #[.int .i64 n] w fun e w' => e = .returned (.bool true) ∧ Sees w w' := by
  have H := Lib.hid h
  clear h
  go_enter Tryd.func26, Tryd.ntmps26
  go_wp2_with fail
  refine (new_bad n w H.out).mono ?_
  rintro e w1 ⟨rfl, hs⟩
  go_wp2
  go_ret
  exact ⟨rfl, hs⟩
end Go.Proofs.YtfeoejpbmpdkaaaDoor
