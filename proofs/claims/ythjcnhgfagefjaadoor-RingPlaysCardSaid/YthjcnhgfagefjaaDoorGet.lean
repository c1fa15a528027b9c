/- New pages; the law's lines of one cell. Looking at a line of a page. No condition. -/
import Derived.Test.YthjcnhgfagefjaaDoorPush2
namespace Go.Proofs.YthjcnhgfagefjaaDoor
set_option linter.unusedVariables false
set_option linter.unusedSimpArgs false
open Go.RowKit

theorem new_bad (n : Int) (w : World) (h : decide (n < 1) = true ∨ (decide (n < 1) = false ∧ decide (n > 1024) = true)) :
    Calls Tryd.prog 52 #[.int .i64 n] w fun e w' => e = .returned (.tuple #[.pointer none, .int .i64 2]) ∧ Sees w w' := by
  have hw := Sees.refl w
  rcases h with h1 | ⟨h1, h2⟩
  · go_enter Tryd.func52, Tryd.ntmps52
    go_wp2
    go_ret2
    exact ⟨rfl, hw⟩
  · go_enter Tryd.func52, Tryd.ntmps52
    go_wp2
    go_ret2
    exact ⟨rfl, hw⟩
theorem new_ok (n : Int) (w : World) (h1 : decide (n < 1) = false) (h2 : decide (n > 1024) = false) :
    Calls Tryd.prog 52 #[.int .i64 n] w fun e w' => e = .returned (.tuple #[.pointer (some ⟨w.heap.size, 0, none⟩), .int .i64 0]) ∧ Page (fun b => w.heap.size ≤ b) w' w.heap.size n 0 [] ∧ Sees w w' := by
  have hw := Sees.refl w
  go_enter Tryd.func52, Tryd.ntmps52
  go_wp2
  go_ret2
  exact ⟨rfl, ⟨Nat.le_refl _, .slice none 0 0, heap_alloc_new _ _, OwnL.nil _ _⟩, hw.alloc _⟩

/-- The cell of a line of a rune. -/
def one (r : Int) : Cell := ⟨r, 0, 0, 0, 1, 0, 0, 0, 0, 0, 0, 0, 0, 0, 0, 0⟩
end Go.Proofs.YthjcnhgfagefjaaDoor

namespace Go.Proofs.YthjcnhgfagefjaaDoor
set_option linter.unusedVariables false
set_option linter.unusedSimpArgs false
open Go.RowKit

theorem get_no (s : Value) (i : Int) (w : World) (h : NoPg w s) :
    Calls Tryd.prog 55 #[s, .int .i64 i] w fun e w' => e = .returned (.tuple #[.agg #[.slice none 0 0, .bool false], .int .i64 1]) ∧ Sees w w' := by
  have H := Lib.hid h; clear h
  go_enter Tryd.func55, Tryd.ntmps55
  go_wp2_with fail
  refine (zero_no _ _ (H.out.sees ((Sees.refl w).alloc _))).mono ?_
  rintro e w1 ⟨rfl, hs⟩
  have c0 : w1.cell? ⟨w.heap.size, 0, none⟩ = some (.slice none 0 0) := by rw [hs.cells _ _ (by simp)]; simp
  have c1 : w1.cell? ⟨w.heap.size, 1, none⟩ = some (.bool false) := by rw [hs.cells _ _ (by simp)]; simp
  have f1 : ∀ i, w1.frozen? ⟨w.heap.size, i, none⟩ = false := fun i => by rw [hs.frozens _ _ (by simp)]; simp
  have Hs := Lib.hid (((Sees.refl w).alloc _).trans hs); clear hs
  go_wp2
  refine bodyPost_ret_by (v := .tuple #[.agg #[.slice none 0 0, .bool false], .int .i64 1]) (by simp [results, Tryd.results55, go_sem, c0, c1]) rfl ⟨rfl, ?_⟩
  exact (Hs.out.setCell (p := ⟨w.heap.size, 0, none⟩) (Nat.le_refl _) _).setCell (p := ⟨w.heap.size, 1, none⟩) (Nat.le_refl _) _
theorem get_range (p : Nat) (most gone : Int) (a : Option Addr) (n c : Nat) (i : Int) (w : World) (h : PgAt w p most gone (.slice a n c)) (hm : 0 < most) (hi : decide (i < 0) = true ∨ (decide (i < 0) = false ∧ decide (i ≥ (n : Int)) = true)) :
    Calls Tryd.prog 55 #[.pointer (some ⟨p, 0, none⟩), .int .i64 i] w fun e w' => e = .returned (.tuple #[.agg #[.slice none 0 0, .bool false], .int .i64 3]) ∧ Sees w w' := by
  have H := Lib.hid h
  have Hm := Lib.hid hm; clear h hm
  go_enter Tryd.func55, Tryd.ntmps55
  go_wp2_with fail
  refine (zero_at _ _ _ _ _ (H.out.sees ((Sees.refl w).alloc _)) Hm.out).mono ?_
  rintro e w1 ⟨rfl, hs⟩
  have c0 : w1.cell? ⟨w.heap.size, 0, none⟩ = some (.slice none 0 0) := by rw [hs.cells _ _ (by simp)]; simp
  have c1 : w1.cell? ⟨w.heap.size, 1, none⟩ = some (.bool false) := by rw [hs.cells _ _ (by simp)]; simp
  have f1 : ∀ i, w1.frozen? ⟨w.heap.size, i, none⟩ = false := fun i => by rw [hs.frozens _ _ (by simp)]; simp
  have Hs := Lib.hid (((Sees.refl w).alloc _).trans hs); clear hs
  have q := (H.out.sees Hs.out).c2
  rcases hi with h1 | ⟨h1, h2⟩
  all_goals
    go_wp2
    refine bodyPost_ret_by (v := .tuple #[.agg #[.slice none 0 0, .bool false], .int .i64 3]) (by simp [results, Tryd.results55, go_sem, c0, c1]) rfl ⟨rfl, ?_⟩
    exact (Hs.out.setCell (p := ⟨w.heap.size, 0, none⟩) (Nat.le_refl _) _).setCell (p := ⟨w.heap.size, 1, none⟩) (Nat.le_refl _) _

set_option maxHeartbeats 1000000 in
theorem get_ok (F : Nat → Prop) (p : Nat) (most gone : Int) (ls : List Ln) (k : Nat) (l : Ln) (w : World) (h : Page F w p most gone ls) (hm : 0 < most) (hk : ls[k]? = some l) (hn : ls.length ≤ 1000000) (hc : l.cells.length ≤ 1000000) :
    Calls Tryd.prog 55 #[.pointer (some ⟨p, 0, none⟩), .int .i64 k] w fun e w' => ∃ v', e = .returned (.tuple #[.agg #[v', .bool l.soft], .int .i64 0]) ∧ OwnCells w' w.heap.size v' l.cells ∧ Sees w w' := by
  obtain ⟨Fp, sv, hp, hown⟩ := h
  obtain ⟨a, c, rfl⟩ := hown.slice
  have hkl : k < ls.length := (List.getElem?_eq_some_iff.1 hk).1
  obtain ⟨_, _, e0, hl⟩ := hown.rdl
  obtain ⟨b, o, l', sx, ea, _, hk', x1, x2, x3⟩ := RdL.line_at hl rfl hkl
  rw [hk] at hk'; cases hk'
  cases e0
  subst ea
  have H := Lib.hid hp
  have Hm := Lib.hid hm
  have X1 := Lib.hid x1
  have X2 := Lib.hid x2
  have X3 := Lib.hid x3.rd
  have Hc := Lib.hid hc
  clear hp hm x1 x2 x3 hown hl hk hc Fp
  obtain ⟨n, hnc⟩ : ∃ n, n = ls.length := ⟨_, rfl⟩
  rw [← hnc] at H hkl hn
  clear hnc
  have h1 : decide ((k : Int) < 0) = false := decide_eq_false (by omega)
  have h2 : decide ((k : Int) ≥ (n : Int)) = false := decide_eq_false (by omega)
  go_enter Tryd.func55, Tryd.ntmps55
  go_wp2_with fail
  refine (zero_at _ _ _ _ _ (H.out.sees ((Sees.refl w).alloc _)) Hm.out).mono ?_
  rintro e w1 ⟨rfl, hs⟩
  have c0 : w1.cell? ⟨w.heap.size, 0, none⟩ = some (.slice none 0 0) := by rw [hs.cells _ _ (by simp)]; simp
  have c1 : w1.cell? ⟨w.heap.size, 1, none⟩ = some (.bool false) := by rw [hs.cells _ _ (by simp)]; simp
  have f1 : ∀ i, w1.frozen? ⟨w.heap.size, i, none⟩ = false := fun i => by rw [hs.frozens _ _ (by simp)]; simp
  have hz1 := Lib.hid hs.size
  have Hs := Lib.hid (((Sees.refl w).alloc _).trans hs); clear hs
  have q := (H.out.sees Hs.out).c2
  have x1 := Hs.out.cell X1.out
  have x2 := Hs.out.cell X2.out
  go_wp2_with fail
  refine (copy_any _ _ _ _ (X3.out.sees Hs.out) Hc.out).mono ?_
  rintro e w2 ⟨v', rfl, ho, hs2⟩
  obtain ⟨a', c', rfl⟩ := ho.slice
  have hz : w.heap.size < w1.heap.size := by have := hz1.out; simp at this; omega
  have d0 : w2.cell? ⟨w.heap.size, 0, none⟩ = some (.slice none 0 0) := hs2.cell c0
  have d1 : w2.cell? ⟨w.heap.size, 1, none⟩ = some (.bool false) := hs2.cell c1
  have f2 : ∀ i, w2.frozen? ⟨w.heap.size, i, none⟩ = false := fun i => by rw [hs2.frozens _ _ hz]; exact f1 i
  have Ho := Lib.hid ho
  have Hs2 := Lib.hid (Hs.out.trans hs2); clear hs2 ho c0 c1 f1 x1 x2 q
  generalize l.cells.length = m at *
  go_wp2
  refine bodyPost_ret_by (v := .tuple #[.agg #[.slice a' m c', .bool l.soft], .int .i64 0]) (by simp [results, Tryd.results55, go_sem, d0, d1]) rfl ⟨_, rfl, ?_, ?_⟩
  · exact ((Ho.out.setCell (p := ⟨w.heap.size, 0, none⟩) (by simp; omega) _).setCell (p := ⟨w.heap.size, 1, none⟩) (by simp; omega) _).mono (by omega)
  · exact (Hs2.out.setCell (p := ⟨w.heap.size, 0, none⟩) (Nat.le_refl _) _).setCell (p := ⟨w.heap.size, 1, none⟩) (Nat.le_refl _) _
end Go.Proofs.YthjcnhgfagefjaaDoor
