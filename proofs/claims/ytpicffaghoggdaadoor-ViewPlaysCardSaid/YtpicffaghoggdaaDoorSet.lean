/- What 'Drop', 'Pop' and 'Set' refuse. One line of a row of lines is given anew. Giving a line of a page anew. No condition. -/
import Derived.Test.YtpicffaghoggdaaDoorGet
namespace Go.Proofs.YtpicffaghoggdaaDoor
set_option linter.unusedVariables false
set_option linter.unusedSimpArgs false
open Go.RowKit

theorem drop_no (s : Value) (i : Int) (w : World) (h : NoPg w s) :
    Calls Tryd.prog 110 #[s, .int .i64 i] w fun e w' => e = .returned (.int .i64 1) ∧ Sees w w' := by
  have H := Lib.hid h; clear h
  go_enter Tryd.func110, Tryd.ntmps110
  go_wp2_with fail
  refine (zero_no _ _ H.out).mono ?_
  rintro e w1 ⟨rfl, hs⟩
  go_wp2
  go_ret
  exact ⟨rfl, hs⟩
theorem drop_range (p : Nat) (most gone : Int) (a : Option Addr) (n c : Nat) (i : Int) (w : World) (h : PgAt w p most gone (.slice a n c)) (hm : 0 < most) (hi : decide (i < 0) = true ∨ (decide (i < 0) = false ∧ decide (i > (n : Int)) = true)) :
    Calls Tryd.prog 110 #[.pointer (some ⟨p, 0, none⟩), .int .i64 i] w fun e w' => e = .returned (.int .i64 3) ∧ Sees w w' := by
  have H := Lib.hid h
  have Hm := Lib.hid hm; clear h hm
  go_enter Tryd.func110, Tryd.ntmps110
  go_wp2_with fail
  refine (zero_at _ _ _ _ _ H.out Hm.out).mono ?_
  rintro e w1 ⟨rfl, hs⟩
  have Hs := Lib.hid hs; clear hs
  have q := (H.out.sees Hs.out).c2
  rcases hi with h1 | ⟨h1, h2⟩
  all_goals
    go_wp2
    go_ret
    exact ⟨rfl, Hs.out⟩

theorem pop_no (s : Value) (w : World) (h : NoPg w s) :
    Calls Tryd.prog 94 #[s] w fun e w' => e = .returned (.tuple #[.agg #[.slice none 0 0, .bool false], .int .i64 1]) ∧ Sees w w' := by
  have H := Lib.hid h; clear h
  go_enter Tryd.func94, Tryd.ntmps94
  go_wp2_with fail
  refine (zero_no _ _ (H.out.sees ((Sees.refl w).alloc _))).mono ?_
  rintro e w1 ⟨rfl, hs⟩
  have c0 : w1.cell? ⟨w.heap.size, 0, none⟩ = some (.slice none 0 0) := by rw [hs.cells _ _ (by simp)]; simp
  have c1 : w1.cell? ⟨w.heap.size, 1, none⟩ = some (.bool false) := by rw [hs.cells _ _ (by simp)]; simp
  have f1 : ∀ i, w1.frozen? ⟨w.heap.size, i, none⟩ = false := fun i => by rw [hs.frozens _ _ (by simp)]; simp
  have Hs := Lib.hid (((Sees.refl w).alloc _).trans hs); clear hs
  go_wp2
  refine bodyPost_ret_by (v := .tuple #[.agg #[.slice none 0 0, .bool false], .int .i64 1]) (by simp [results, Tryd.results94, go_sem, c0, c1]) rfl ⟨rfl, ?_⟩
  exact (Hs.out.setCell (p := ⟨w.heap.size, 0, none⟩) (Nat.le_refl _) _).setCell (p := ⟨w.heap.size, 1, none⟩) (Nat.le_refl _) _

theorem pop_none (p : Nat) (most gone : Int) (a : Option Addr) (c : Nat) (w : World) (h : PgAt w p most gone (.slice a 0 c)) (hm : 0 < most) :
    Calls Tryd.prog 94 #[.pointer (some ⟨p, 0, none⟩)] w fun e w' => e = .returned (.tuple #[.agg #[.slice none 0 0, .bool false], .int .i64 9]) ∧ Sees w w' := by
  have H := Lib.hid h; clear h
  go_enter Tryd.func94, Tryd.ntmps94
  go_wp2_with fail
  refine (zero_at _ _ _ _ _ (H.out.sees ((Sees.refl w).alloc _)) hm).mono ?_
  rintro e w1 ⟨rfl, hs⟩
  have c0 : w1.cell? ⟨w.heap.size, 0, none⟩ = some (.slice none 0 0) := by rw [hs.cells _ _ (by simp)]; simp
  have c1 : w1.cell? ⟨w.heap.size, 1, none⟩ = some (.bool false) := by rw [hs.cells _ _ (by simp)]; simp
  have f1 : ∀ i, w1.frozen? ⟨w.heap.size, i, none⟩ = false := fun i => by rw [hs.frozens _ _ (by simp)]; simp
  have Hs := Lib.hid (((Sees.refl w).alloc _).trans hs); clear hs
  have q := (H.out.sees Hs.out).c2
  go_wp2
  refine bodyPost_ret_by (v := .tuple #[.agg #[.slice none 0 0, .bool false], .int .i64 9]) (by simp [results, Tryd.results94, go_sem, c0, c1]) rfl ⟨rfl, ?_⟩
  exact (Hs.out.setCell (p := ⟨w.heap.size, 0, none⟩) (Nat.le_refl _) _).setCell (p := ⟨w.heap.size, 1, none⟩) (Nat.le_refl _) _

end Go.Proofs.YtpicffaghoggdaaDoor

namespace Go.Proofs.YtpicffaghoggdaaDoor
set_option linter.unusedVariables false
set_option linter.unusedSimpArgs false
open Go.RowKit

theorem mem_set2 {xs : List Value} {i : Nat} {a b x : Value} (h : x ∈ (xs.set i a).set (i + 1) b) : x ∈ xs ∨ x = a ∨ x = b := by
  rcases List.mem_or_eq_of_mem_set h with h | h
  · rcases List.mem_or_eq_of_mem_set h with h | h
    · exact .inl h
    · exact .inr (.inl h)
  · exact .inr (.inr h)
theorem linesIn.set {F : Nat → Prop} {w : World} {a : Value} {l : Ln} (ha : OwnCells w 0 a l.cells) (hF : ∀ g, a.ownBlock = some g → F g) : ∀ {xs : List Value} {ls : List Ln} (k : Nat), linesIn F w xs ls → (∀ g, a.ownBlock = some g → ∀ x ∈ xs, x.ownBlock ≠ some g) → k < ls.length →
    linesIn F w ((xs.set (k * 2) a).set (k * 2 + 1) (.bool l.soft)) (ls.set k l)
  | c :: b :: xs, m :: ls, 0, ⟨h1, h2, h3, h4⟩, hn, _ => ⟨ha, rfl, fun g hg => ⟨hF g hg, fun x hx => hn g hg x (List.mem_cons_of_mem _ (List.mem_cons_of_mem _ hx))⟩, h4⟩
  | c :: b :: xs, m :: ls, k + 1, ⟨h1, h2, h3, h4⟩, hn, hk => by
    rw [show (k + 1) * 2 = k * 2 + 1 + 1 by omega]
    simp only [List.set_cons_succ]
    refine ⟨h1, h2, fun g hg => ⟨(h3 g hg).1, fun x hx => ?_⟩, linesIn.set ha hF k h4 (fun g hg x hx => hn g hg x (List.mem_cons_of_mem _ (List.mem_cons_of_mem _ hx))) (by simpa using hk)⟩
    rcases mem_set2 hx with hx | rfl | rfl
    · exact (h3 g hg).2 x hx
    · intro he; exact hn g he c (List.mem_cons_self ..) hg
    · intro he; cases he
  | [], [], _, _, _, hk => absurd hk (by simp)
  | [], _ :: _, _, h, _, _ => h.elim
  | [_], [], _, h, _, _ => h.elim
  | [_], _ :: _, _, h, _, _ => h.elim
  | _ :: _ :: _, [], _, h, _, _ => h.elim

theorem OwnL.setLine {F : Nat → Prop} {W : World} {N : Nat} {g n c : Nat} {ls : List Ln} (h : OwnL (fun b => F b ∧ b < N) W (.slice (some ⟨g, 0, none⟩) n c) ls) (k : Nat) (hk : k < ls.length) (a : Value) (l : Ln) (ha : OwnCells W N a l.cells) (hN : ∀ b, N ≤ b → F b) :
    OwnL F ((W.setCell ⟨g, k * 2, none⟩ a).setCell ⟨g, k * 2 + 1, none⟩ (.bool l.soft)) (.slice (some ⟨g, 0, none⟩) n c) (ls.set k l) := by
  obtain ⟨xs, ⟨h1, h2⟩, hF, hin⟩ := h
  have hg := hF g rfl
  have hk2 : Keeps (fun b => b = g) W ((W.setCell ⟨g, k * 2, none⟩ a).setCell ⟨g, k * 2 + 1, none⟩ (.bool l.soft)) :=
    Keeps.setCell (F := fun b => b = g) (Keeps.setCell (F := fun b => b = g) (Keeps.refl _ W) (p := ⟨g, k * 2, none⟩) (fun _ => rfl) _) (p := ⟨g, k * 2 + 1, none⟩) (fun _ => rfl) _
  rcases h2 with ⟨h, _⟩ | ⟨g', cap, cur, hv, _, hr, q1, q2, q3, q4⟩
  · cases h
  cases hv
  refine ⟨(xs.set (k * 2) a).set (k * 2 + 1) (.bool l.soft), ⟨by simpa using h1, .inr ⟨g, c, (cur.setIfInBounds (k * 2) a).setIfInBounds (k * 2 + 1) (.bool l.soft), by simp, Nat.zero_le _, ?_, by simpa using q1, q2, by simpa using q3, ?_⟩⟩, fun b e => (hF b e).1, ?_⟩
  · rw [heap_setCell_same _ _ _ _ _ _ (heap_setCell_same _ _ _ _ _ _ hr)]
  · simp only [Array.toList_setIfInBounds, List.take_set, List.length_set, q4]
  · have hm := (hin.keeps hk2 (fun b hb e => hb.2 (by rw [e]; rfl)))
    refine linesIn.set ((ha.keeps hk2 (fun b hb e => ?_)).mono (Nat.zero_le _)) (fun b hb => ⟨hN b (ha.base hb).1, fun e => ?_⟩) k (hm.mono (fun b _ h => ⟨h.1.1, h.2⟩)) (fun b hb x hx e => ?_) hk
    · have := (ha.base hb).1; have := hg.2; subst e; omega
    · have := (hin.blocks x hx b e).1.1.2; have := (ha.base hb).1; omega
    · have e2 : g = b := by cases e; rfl
      have := (ha.base hb).1; have := hg.2; omega
end Go.Proofs.YtpicffaghoggdaaDoor

namespace Go.Proofs.YtpicffaghoggdaaDoor
set_option linter.unusedVariables false
set_option linter.unusedSimpArgs false
open Go.RowKit

/-- What the writing region of 'Set' leans on. -/
def SetInv (F : Nat → Prop) (w : World) (p : Nat) (most gone : Int) (sv : Value) (ls : List Ln) (sl : Value) (soft : Bool) (d : Nat → Bool) (W : World) : Prop :=
  Keeps F w W ∧ W.heap[w.heap.size]? = some (.cells #[sl, .bool soft] 40 (0, 0)) ∧ PgAt W p most gone sv ∧ (d 8 = false → OwnL (fun b => (F b ∧ b ≠ p) ∧ b < w.heap.size) W sv ls)
theorem SetInv.sees {F : Nat → Prop} {w : World} {p : Nat} {most gone : Int} {sv : Value} {ls : List Ln} {sl : Value} {soft : Bool} {d d' : Nat → Bool} {W W' : World} (h : SetInv F w p most gone sv ls sl soft d W) (hd : ∀ x, d x = true → d' x = true) (hs : Sees W W') : SetInv F w p most gone sv ls sl soft d' W' := by
  obtain ⟨h1, h2, h3, h4⟩ := h
  have hf : ∀ x, d' x = false → d x = false := fun x hx => by
    cases e : d x
    · rfl
    · rw [hd x e] at hx; cases hx
  exact ⟨h1.trans (Keeps.of_sees hs), by rw [hs.block _ (Array.getElem?_eq_some_iff.1 h2).1]; exact h2, h3.sees hs, fun h => (h4 (hf _ h)).sees hs⟩
theorem OwnL.some {F : Nat → Prop} {w : World} {v : Value} {ls : List Ln} (h : OwnL F w v ls) (hk : 0 < ls.length) : ∃ g c, v = .slice (.some ⟨g, 0, none⟩) ls.length c := by
  obtain ⟨xs, ⟨_, h⟩, _⟩ := h
  rcases h with ⟨_, h⟩ | ⟨g, cap, cur, rfl, _⟩
  · omega
  · exact ⟨_, _, rfl⟩

end Go.Proofs.YtpicffaghoggdaaDoor
