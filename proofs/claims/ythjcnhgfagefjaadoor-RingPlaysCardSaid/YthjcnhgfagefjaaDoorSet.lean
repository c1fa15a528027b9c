/- What 'Drop', 'Pop' and 'Set' refuse. One line of a row of lines is given anew. Giving a line of a page anew. No condition. -/
import Derived.Test.YthjcnhgfagefjaaDoorGet
namespace Go.Proofs.YthjcnhgfagefjaaDoor
set_option linter.unusedVariables false
set_option linter.unusedSimpArgs false
open Go.RowKit

theorem drop_no (s : Value) (i : Int) (w : World) (h : NoPg w s) :
    Calls Tryd.prog 58 #[s, .int .i64 i] w fun e w' => e = .returned (.int .i64 1) ∧ Sees w w' := by
  have H := Lib.hid h; clear h
  go_enter Tryd.func58, Tryd.ntmps58
  go_wp2_with fail
  refine (zero_no _ _ H.out).mono ?_
  rintro e w1 ⟨rfl, hs⟩
  go_wp2
  go_ret
  exact ⟨rfl, hs⟩
theorem drop_range (p : Nat) (most gone : Int) (a : Option Addr) (n c : Nat) (i : Int) (w : World) (h : PgAt w p most gone (.slice a n c)) (hm : 0 < most) (hi : decide (i < 0) = true ∨ (decide (i < 0) = false ∧ decide (i > (n : Int)) = true)) :
    Calls Tryd.prog 58 #[.pointer (some ⟨p, 0, none⟩), .int .i64 i] w fun e w' => e = .returned (.int .i64 3) ∧ Sees w w' := by
  have H := Lib.hid h
  have Hm := Lib.hid hm; clear h hm
  go_enter Tryd.func58, Tryd.ntmps58
  go_wp2_with fail
  refine (zero_at _ _ _ _ _ H.out Hm.out).mono ?_
  rintro e w1 ⟨rfl, hs⟩
  have Hs := Lib.hid hs; clear hs
  have q := (H.out.sees Hs.out).c2
  rcases hi with h1 | ⟨h1, h2⟩
  all_goals
    go_wp2
    go_ret
    exact ⟨rfl, Hs.out⟩

theorem pop_no (s : Value) (w : World) (h : NoPg w s) :
    Calls Tryd.prog 57 #[s] w fun e w' => e = .returned (.tuple #[.agg #[.slice none 0 0, .bool false], .int .i64 1]) ∧ Sees w w' := by
  have H := Lib.hid h; clear h
  go_enter Tryd.func57, Tryd.ntmps57
  go_wp2_with fail
  refine (zero_no _ _ (H.out.sees ((Sees.refl w).alloc _))).mono ?_
  rintro e w1 ⟨rfl, hs⟩
  have c0 : w1.cell? ⟨w.heap.size, 0, none⟩ = some (.slice none 0 0) := by rw [hs.cells _ _ (by simp)]; simp
  have c1 : w1.cell? ⟨w.heap.size, 1, none⟩ = some (.bool false) := by rw [hs.cells _ _ (by simp)]; simp
  have f1 : ∀ i, w1.frozen? ⟨w.heap.size, i, none⟩ = false := fun i => by rw [hs.frozens _ _ (by simp)]; simp
  have Hs := Lib.hid (((Sees.refl w).alloc _).trans hs); clear hs
  go_wp2
  refine bodyPost_ret_by (v := .tuple #[.agg #[.slice none 0 0, .bool false], .int .i64 1]) (by simp [results, Tryd.results57, go_sem, c0, c1]) rfl ⟨rfl, ?_⟩
  exact (Hs.out.setCell (p := ⟨w.heap.size, 0, none⟩) (Nat.le_refl _) _).setCell (p := ⟨w.heap.size, 1, none⟩) (Nat.le_refl _) _

theorem pop_none (p : Nat) (most gone : Int) (a : Option Addr) (c : Nat) (w : World) (h : PgAt w p most gone (.slice a 0 c)) (hm : 0 < most) :
    Calls Tryd.prog 57 #[.pointer (some ⟨p, 0, none⟩)] w fun e w' => e = .returned (.tuple #[.agg #[.slice none 0 0, .bool false], .int .i64 9]) ∧ Sees w w' := by
  have H := Lib.hid h; clear h
  go_enter Tryd.func57, Tryd.ntmps57
  go_wp2_with fail
  refine (zero_at _ _ _ _ _ (H.out.sees ((Sees.refl w).alloc _)) hm).mono ?_
  rintro e w1 ⟨rfl, hs⟩
  have c0 : w1.cell? ⟨w.heap.size, 0, none⟩ = some (.slice none 0 0) := by rw [hs.cells _ _ (by simp)]; simp
  have c1 : w1.cell? ⟨w.heap.size, 1, none⟩ = some (.bool false) := by rw [hs.cells _ _ (by simp)]; simp
  have f1 : ∀ i, w1.frozen? ⟨w.heap.size, i, none⟩ = false := fun i => by rw [hs.frozens _ _ (by simp)]; simp
  have Hs := Lib.hid (((Sees.refl w).alloc _).trans hs); clear hs
  have q := (H.out.sees Hs.out).c2
  go_wp2
  refine bodyPost_ret_by (v := .tuple #[.agg #[.slice none 0 0, .bool false], .int .i64 9]) (by simp [results, Tryd.results57, go_sem, c0, c1]) rfl ⟨rfl, ?_⟩
  exact (Hs.out.setCell (p := ⟨w.heap.size, 0, none⟩) (Nat.le_refl _) _).setCell (p := ⟨w.heap.size, 1, none⟩) (Nat.le_refl _) _

theorem set_no (s v : Value) (i : Int) (cs : List Cell) (soft : Bool) (w : World) (h : NoPg w s) (ha : RdCells w v cs) :
    Calls Tryd.prog 45 #[s, .int .i64 i, .agg #[v, .bool soft]] w fun e w' => e = .returned (.int .i64 1) ∧ Sees w w' := by
  obtain ⟨ao, ca, rfl, hh⟩ := ha
  clear hh
  have H := Lib.hid h; clear h
  go_enter Tryd.func45, Tryd.ntmps45
  go_wp2_with fail
  refine (zero_no _ _ (H.out.sees ((Sees.refl w).alloc _))).mono ?_
  rintro e w1 ⟨rfl, hs⟩
  go_wp2
  go_ret
  exact ⟨rfl, ((Sees.refl w).alloc _).trans hs⟩

set_option maxHeartbeats 1000000 in
theorem set_bad (p : Nat) (most gone : Int) (i : Int) (a : Option Addr) (k c : Nat) (v : Value) (cs : List Cell) (soft : Bool) (w : World) (ht : Tabs w) (h : PgAt w p most gone (.slice a k c)) (hm : 0 < most) (ha : RdCells w v cs) (hn : cs.length ≤ 1000000) (hl : lnOk cs = false) :
    Calls Tryd.prog 45 #[.pointer (some ⟨p, 0, none⟩), .int .i64 i, .agg #[v, .bool soft]] w fun e w' => e = .returned (.int .i64 2) ∧ Sees w w' := by
  have Ha := Lib.hid ha
  obtain ⟨ao, ca, rfl, hh⟩ := ha
  have H := Lib.hid h
  have Hm := Lib.hid hm
  have Hn := Lib.hid hn
  have Ht := Lib.hid ht
  clear h hm hn hh ht
  obtain ⟨n, hnc⟩ : ∃ n, n = cs.length := ⟨_, rfl⟩
  rw [← hnc] at Ha Hn ⊢
  have Hnc := Lib.hid hnc
  clear hnc
  go_enter Tryd.func45, Tryd.ntmps45
  go_wp2_with fail
  refine (zero_at _ p _ _ _ (H.out.sees ((Sees.refl w).alloc _)) Hm.out).mono ?_
  rintro e w1 ⟨rfl, hs⟩
  have c0 : w1.cell? ⟨w.heap.size, 0, none⟩ = some (.slice ao n ca) := by rw [hs.cells _ _ (by simp)]; simp
  have c1 : w1.cell? ⟨w.heap.size, 1, none⟩ = some (.bool soft) := by rw [hs.cells _ _ (by simp)]; simp
  have Hs := Lib.hid (((Sees.refl w).alloc _).trans hs); clear hs
  go_wp2_with fail
  refine (lineValid_any _ cs soft _ (Ht.out.sees Hs.out) (Ha.out.sees Hs.out) (by rw [← Hnc.out]; exact Hn.out)).mono ?_
  rintro e w2 ⟨rfl, hs2⟩
  have Hs2 := Lib.hid (Hs.out.trans hs2); clear hs2
  go_wp2
  go_ret
  exact ⟨rfl, Hs2.out⟩

set_option maxHeartbeats 1000000 in
theorem set_range (p : Nat) (most gone : Int) (i : Int) (a : Option Addr) (k c : Nat) (v : Value) (cs : List Cell) (soft : Bool) (w : World) (ht : Tabs w) (h : PgAt w p most gone (.slice a k c)) (hm : 0 < most) (ha : RdCells w v cs) (hn : cs.length ≤ 1000000) (hl : lnOk cs = true) (hi : decide (i < 0) = true ∨ (decide (i < 0) = false ∧ decide (i ≥ (k : Int)) = true)) :
    Calls Tryd.prog 45 #[.pointer (some ⟨p, 0, none⟩), .int .i64 i, .agg #[v, .bool soft]] w fun e w' => e = .returned (.int .i64 3) ∧ Sees w w' := by
  have Ha := Lib.hid ha
  obtain ⟨ao, ca, rfl, hh⟩ := ha
  have H := Lib.hid h
  have Hm := Lib.hid hm
  have Hn := Lib.hid hn
  have Ht := Lib.hid ht
  clear h hm hn hh ht
  obtain ⟨n, hnc⟩ : ∃ n, n = cs.length := ⟨_, rfl⟩
  rw [← hnc] at Ha Hn ⊢
  have Hnc := Lib.hid hnc
  clear hnc
  go_enter Tryd.func45, Tryd.ntmps45
  go_wp2_with fail
  refine (zero_at _ p _ _ _ (H.out.sees ((Sees.refl w).alloc _)) Hm.out).mono ?_
  rintro e w1 ⟨rfl, hs⟩
  have c0 : w1.cell? ⟨w.heap.size, 0, none⟩ = some (.slice ao n ca) := by rw [hs.cells _ _ (by simp)]; simp
  have c1 : w1.cell? ⟨w.heap.size, 1, none⟩ = some (.bool soft) := by rw [hs.cells _ _ (by simp)]; simp
  have Hs := Lib.hid (((Sees.refl w).alloc _).trans hs); clear hs
  go_wp2_with fail
  refine (lineValid_any _ cs soft _ (Ht.out.sees Hs.out) (Ha.out.sees Hs.out) (by rw [← Hnc.out]; exact Hn.out)).mono ?_
  rintro e w2 ⟨rfl, hs2⟩
  have Hs2 := Lib.hid (Hs.out.trans hs2); clear hs2
  have q := (H.out.sees Hs2.out).c2
  rcases hi with h1 | ⟨h1, h2⟩
  all_goals
    go_wp2
    go_ret
    exact ⟨rfl, Hs2.out⟩
end Go.Proofs.YthjcnhgfagefjaaDoor

namespace Go.Proofs.YthjcnhgfagefjaaDoor
set_option linter.unusedVariables false
set_option linter.unusedSimpArgs false
open Go.RowKit

theorem mem_set2 {xs : List Value} {i : Nat} {a b x : Value} (h : x ∈ (xs.set i a).set (i + 1) b) : x ∈ xs ∨ x = a ∨ x = b := by
  rcases List.mem_or_eq_of_mem_set h with h | h
  · rcases List.mem_or_eq_of_mem_set h with h | h
    · exact .inl h
    · exact .inr (.inl h)
  · exact .inr (.inr h)
theorem linesIn.set {F : Nat → Prop} {w : World} {a : Value} {l : Ln} (ha : OwnCells w 0 a l.cells) (hF : ∀ g, a.ownBlock = some g → F g) : ∀ {xs : List Value} {ls : List Ln} (k : Nat), linesIn F w xs ls → (∀ g, a.ownBlock = some g → ∀ x ∈ xs, x.ownBlock ≠ some g) → k < ls.length →
    linesIn F w ((xs.set (k * 2) a).set (k * 2 + 1) (.bool l.soft)) (ls.set k l)
  | c :: b :: xs, m :: ls, 0, ⟨h1, h2, h3, h4⟩, hn, _ => ⟨ha, rfl, fun g hg => ⟨hF g hg, fun x hx => hn g hg x (List.mem_cons_of_mem _ (List.mem_cons_of_mem _ hx))⟩, h4⟩
  | c :: b :: xs, m :: ls, k + 1, ⟨h1, h2, h3, h4⟩, hn, hk => by
    rw [show (k + 1) * 2 = k * 2 + 1 + 1 by omega]
    simp only [List.set_cons_succ]
    refine ⟨h1, h2, fun g hg => ⟨(h3 g hg).1, fun x hx => ?_⟩, linesIn.set ha hF k h4 (fun g hg x hx => hn g hg x (List.mem_cons_of_mem _ (List.mem_cons_of_mem _ hx))) (by simpa using hk)⟩
    rcases mem_set2 hx with hx | rfl | rfl
    · exact (h3 g hg).2 x hx
    · intro he; exact hn g he c (List.mem_cons_self ..) hg
    · intro he; cases he
  | [], [], _, _, _, hk => absurd hk (by simp)
  | [], _ :: _, _, h, _, _ => h.elim
  | [_], [], _, h, _, _ => h.elim
  | [_], _ :: _, _, h, _, _ => h.elim
  | _ :: _ :: _, [], _, h, _, _ => h.elim

theorem OwnL.setLine {F : Nat → Prop} {W : World} {N : Nat} {g n c : Nat} {ls : List Ln} (h : OwnL (fun b => F b ∧ b < N) W (.slice (some ⟨g, 0, none⟩) n c) ls) (k : Nat) (hk : k < ls.length) (a : Value) (l : Ln) (ha : OwnCells W N a l.cells) (hN : ∀ b, N ≤ b → F b) :
    OwnL F ((W.setCell ⟨g, k * 2, none⟩ a).setCell ⟨g, k * 2 + 1, none⟩ (.bool l.soft)) (.slice (some ⟨g, 0, none⟩) n c) (ls.set k l) := by
  obtain ⟨xs, ⟨h1, h2⟩, hF, hin⟩ := h
  have hg := hF g rfl
  have hk2 : Keeps (fun b => b = g) W ((W.setCell ⟨g, k * 2, none⟩ a).setCell ⟨g, k * 2 + 1, none⟩ (.bool l.soft)) :=
    Keeps.setCell (F := fun b => b = g) (Keeps.setCell (F := fun b => b = g) (Keeps.refl _ W) (p := ⟨g, k * 2, none⟩) (fun _ => rfl) _) (p := ⟨g, k * 2 + 1, none⟩) (fun _ => rfl) _
  rcases h2 with ⟨h, _⟩ | ⟨g', cap, cur, hv, _, hr, q1, q2, q3, q4⟩
  · cases h
  cases hv
  refine ⟨(xs.set (k * 2) a).set (k * 2 + 1) (.bool l.soft), ⟨by simpa using h1, .inr ⟨g, c, (cur.setIfInBounds (k * 2) a).setIfInBounds (k * 2 + 1) (.bool l.soft), by simp, Nat.zero_le _, ?_, by simpa using q1, q2, by simpa using q3, ?_⟩⟩, fun b e => (hF b e).1, ?_⟩
  · rw [heap_setCell_same _ _ _ _ _ _ (heap_setCell_same _ _ _ _ _ _ hr)]
  · simp only [Array.toList_setIfInBounds, List.take_set, List.length_set, q4]
  · have hm := (hin.keeps hk2 (fun b hb e => hb.2 (by rw [e]; rfl)))
    refine linesIn.set ((ha.keeps hk2 (fun b hb e => ?_)).mono (Nat.zero_le _)) (fun b hb => ⟨hN b (ha.base hb).1, fun e => ?_⟩) k (hm.mono (fun b _ h => ⟨h.1.1, h.2⟩)) (fun b hb x hx e => ?_) hk
    · have := (ha.base hb).1; have := hg.2; subst e; omega
    · have := (hin.blocks x hx b e).1.1.2; have := (ha.base hb).1; omega
    · have e2 : g = b := by cases e; rfl
      have := (ha.base hb).1; have := hg.2; omega
end Go.Proofs.YthjcnhgfagefjaaDoor

namespace Go.Proofs.YthjcnhgfagefjaaDoor
set_option linter.unusedVariables false
set_option linter.unusedSimpArgs false
open Go.RowKit

/-- What the writing region of 'Set' leans on. -/
def SetInv (F : Nat → Prop) (w : World) (p : Nat) (most gone : Int) (sv : Value) (ls : List Ln) (sl : Value) (soft : Bool) (d : Nat → Bool) (W : World) : Prop :=
  Keeps F w W ∧ W.heap[w.heap.size]? = some (.cells #[sl, .bool soft] 36 (0, 0)) ∧ PgAt W p most gone sv ∧ (d 8 = false → OwnL (fun b => (F b ∧ b ≠ p) ∧ b < w.heap.size) W sv ls)
theorem SetInv.sees {F : Nat → Prop} {w : World} {p : Nat} {most gone : Int} {sv : Value} {ls : List Ln} {sl : Value} {soft : Bool} {d d' : Nat → Bool} {W W' : World} (h : SetInv F w p most gone sv ls sl soft d W) (hd : ∀ x, d x = true → d' x = true) (hs : Sees W W') : SetInv F w p most gone sv ls sl soft d' W' := by
  obtain ⟨h1, h2, h3, h4⟩ := h
  have hf : ∀ x, d' x = false → d x = false := fun x hx => by
    cases e : d x
    · rfl
    · rw [hd x e] at hx; cases hx
  exact ⟨h1.trans (Keeps.of_sees hs), by rw [hs.block _ (Array.getElem?_eq_some_iff.1 h2).1]; exact h2, h3.sees hs, fun h => (h4 (hf _ h)).sees hs⟩
theorem OwnL.some {F : Nat → Prop} {w : World} {v : Value} {ls : List Ln} (h : OwnL F w v ls) (hk : 0 < ls.length) : ∃ g c, v = .slice (.some ⟨g, 0, none⟩) ls.length c := by
  obtain ⟨xs, ⟨_, h⟩, _⟩ := h
  rcases h with ⟨_, h⟩ | ⟨g, cap, cur, rfl, _⟩
  · omega
  · exact ⟨_, _, rfl⟩

set_option maxHeartbeats 2000000 in
theorem set_ok (F G : Nat → Prop) (p : Nat) (most gone : Int) (ls : List Ln) (j : Nat) (v : Value) (cs : List Cell) (soft : Bool) (w : World) (ht : Tabs w) (h : Page F w p most gone ls) (hm : 0 < most) (hj : j < ls.length) (hjn : ls.length ≤ 1000000) (ha : RdC G w v cs) (hFG : ∀ b, G b → ¬ F b) (hn : cs.length ≤ 1000000) (hl : lnOk cs = true) :
    Calls Tryd.prog 45 #[.pointer (some ⟨p, 0, none⟩), .int .i64 j, .agg #[v, .bool soft]] w fun e w' => e = .returned (.int .i64 0) ∧ Page (fun b => F b ∨ w.heap.size ≤ b) w' p most gone (ls.set j ⟨cs, soft⟩) ∧ Keeps F w w' := by
  have Ha := Lib.hid ha
  obtain ⟨ao, ca, rfl, hh⟩ := ha
  obtain ⟨Fp, sv, hp, hown⟩ := h
  obtain ⟨g, c, hsv⟩ := hown.some (by omega)
  have H := Lib.hid hp
  have Hp := Lib.hid hp.lt
  have HL := Lib.hid (hown.mono (G := fun b => (F b ∧ b ≠ p) ∧ b < w.heap.size) (fun b hb h => ⟨h, hb⟩))
  have Hg : Hid ((F g ∧ g ≠ p) ∧ g < w.heap.size) := by subst hsv; obtain ⟨_, _, h, _⟩ := HL.out; exact h g rfl
  have Hm := Lib.hid hm
  have Hn := Lib.hid hn
  have Ht := Lib.hid ht
  have HF := Lib.hid Fp
  have HFG := Lib.hid hFG
  have Hj := Lib.hid hj
  clear hm hn hh ht hp hown Fp hFG
  subst hsv
  obtain ⟨n, hnc⟩ : ∃ n, n = cs.length := ⟨_, rfl⟩
  rw [← hnc] at Ha Hn ⊢
  have Hnc := Lib.hid hnc
  clear hnc
  obtain ⟨k, hkc⟩ : ∃ k, k = ls.length := ⟨_, rfl⟩
  rw [← hkc] at H HL hj hjn
  have Hkc := Lib.hid hkc
  clear hkc
  have h1 : decide ((j : Int) < 0) = false := decide_eq_false (by omega)
  have h2 : decide ((j : Int) ≥ (k : Int)) = false := decide_eq_false (by omega)
  go_enter Tryd.func45, Tryd.ntmps45
  go_wp2_with fail
  refine (zero_at _ p _ _ _ (H.out.sees ((Sees.refl w).alloc _)) Hm.out).mono ?_
  rintro e w1 ⟨rfl, hs⟩
  have c0 : w1.cell? ⟨w.heap.size, 0, none⟩ = some (.slice ao n ca) := by rw [hs.cells _ _ (by simp)]; simp
  have c1 : w1.cell? ⟨w.heap.size, 1, none⟩ = some (.bool soft) := by rw [hs.cells _ _ (by simp)]; simp
  have Hb : Hid (w1.heap[w.heap.size]? = some (.cells #[.slice ao n ca, .bool soft] 36 (0, 0))) := by
    unfold Hid; rw [hs.block _ (by simp)]; exact heap_alloc_new _ _
  have Hs := Lib.hid (((Sees.refl w).alloc _).trans hs); clear hs
  go_wp2_with fail
  refine (lineValid_any _ cs soft _ (Ht.out.sees Hs.out) (Ha.out.rd.sees Hs.out) (by rw [← Hnc.out]; exact Hn.out)).mono ?_
  rintro e w3 ⟨rfl, hs2⟩
  have Hb3 : Hid (w3.heap[w.heap.size]? = some (.cells #[.slice ao n ca, .bool soft] 36 (0, 0))) := by
    unfold Hid; rw [hs2.block _ (Array.getElem?_eq_some_iff.1 Hb.out).1]; exact Hb.out
  have Hs3 := Lib.hid (Hs.out.trans hs2); clear hs2 c0 c1 Hb Hs
  have q := (H.out.sees Hs3.out).c2
  go_wp2
  clear q
  have hi0 : ∀ d, SetInv F w p most gone (.slice (some ⟨g, 0, none⟩) k c) ls (.slice ao n ca) soft d w3 := fun d => ⟨Keeps.of_sees Hs3.out, Hb3.out, H.out.sees Hs3.out, fun _ => HL.out.sees Hs3.out⟩
  have hst : allStay (fun _ => True) [.is (.pointer (some ⟨p, 0, none⟩)), .is (.pointer (some ⟨p, 0, none⟩)), .is (.pointer (some ⟨p, 2, none⟩)), .is (.slice (some ⟨g, 0, none⟩) k c), .is (.int .i64 j), .is (.agg #[.slice ao n ca, .bool soft]),
      .so (fun x W => ∃ v', x = .agg #[v', .bool soft] ∧ OwnCells W w.heap.size v' cs), .is (.pointer (some ⟨g, j * 2, none⟩)),
      .so (fun _ W => OwnL (fun b => (F b ∨ w.heap.size ≤ b) ∧ b ≠ p) W (.slice (some ⟨g, 0, none⟩) k c) (ls.set j ⟨cs, soft⟩))] :=
    ⟨fun u W W' _ ⟨v', h1, h2⟩ hs => ⟨v', h1, h2.sees hs⟩, fun u W W' _ h hs => h.sees hs, trivial⟩
  have hval : ∀ x v, (Spec.is x).val v = x := fun _ _ => rfl
  have hval2 : ∀ V v, (Spec.so V).val v = v := fun _ _ => rfl
  refine wp_rgD _ (SetInv F w p most gone (.slice (some ⟨g, 0, none⟩) k c) ls (.slice ao n ca) soft) (by kernel_rfl) (by kernel_rfl) (fun d => (hi0 d).sees (fun _ h => h) (Sees.refl w3).drew) (fun d d' W W' h hd hs => h.sees hd hs) hst ?_
  refine ⟨fun d vs W hI hr hV => .inl ⟨by go_simp, .inl (by go_simp)⟩, ?_⟩
  refine ⟨fun d vs W hI hr hV => .inl ⟨by go_simp, .inl (by go_simp)⟩, ?_⟩
  refine ⟨fun d vs W hI hr hV => .inl ⟨by go_simp, .inl (by go_simp)⟩, ?_⟩
  refine ⟨fun d vs W hI hr hV => .inl ⟨by go_simp, .inl (by have q := hI.2.2.1.c2; clear hI hV; go_simp)⟩, ?_⟩
  refine ⟨fun d vs W hI hr hV => .inl ⟨by go_simp, .inl (by go_simp)⟩, ?_⟩
  refine ⟨fun d vs W hI hr hV => .inl ⟨by go_simp, .inl (by have q := cell_row2 hI.2.1; obtain ⟨q0, q1⟩ := q; clear hI hV; go_simp)⟩, ?_⟩
  refine ⟨fun d vs W hI hr hV => ?_, ?_⟩
  · have hrd : RdCells W (.slice ao n ca) cs := (Ha.out.keeps hI.1 HFG.out).rd
    have hz := hI.1.size
    refine .inl ⟨by go_simp, .inr (.inr ⟨61, #[.agg #[.slice ao n ca, .bool soft]], by go_simp, ?_⟩)⟩
    refine (copy_any _ cs soft W hrd (by rw [← Hnc.out]; exact Hn.out)).mono ?_
    rintro e W' ⟨v', rfl, ho, hs⟩
    exact ⟨_, rfl, rgGoodD_sees hst (hI.sees (fun x hx => by simp only [hx, Bool.true_or]) hs) ⟨v', rfl, ho.mono (by omega)⟩ hs⟩
  refine ⟨fun d vs W hI hr hV => .inl ⟨by go_simp, .inl (by clear hI hV; go_simp)⟩, ?_⟩
  refine ⟨fun d vs W hI hr hV => ?_, ?_⟩
  · obtain ⟨v', e, ho⟩ : ∃ v', vs 6 = .agg #[v', .bool soft] ∧ OwnCells W w.heap.size v' cs := hV 6 _ (by kernel_rfl) rfl
    obtain ⟨a', c', rfl⟩ := ho.slice
    obtain ⟨k1, k2, k3, k4⟩ := hI
    have k4 := k4 (hr 8 (by kernel_rfl))
    have hpl := Hp.out
    have hg := Hg.out
    have hset := OwnL.setLine (F := fun b => (F b ∨ w.heap.size ≤ b) ∧ b ≠ p) (N := w.heap.size) (k4.mono (fun b _ h => ⟨⟨.inl h.1.1, h.1.2⟩, h.2⟩)) j Hj.out _ ⟨cs, soft⟩ ho (fun b hb => ⟨.inr hb, by omega⟩)
    obtain ⟨_, _, e0, hl⟩ := k4.rdl
    obtain ⟨b, o, l', sx, ea, _, _, x1, x2, _⟩ := RdL.line_at hl rfl Hj.out
    simp only [Value.slice.injEq] at e0
    obtain ⟨e1, _, _⟩ := e0
    subst e1
    cases ea
    have f0 : ∀ i, W.frozen? ⟨g, i, none⟩ = false := by
      obtain ⟨xs, ⟨_, hrr⟩, _⟩ := k4
      rcases hrr with ⟨h, _⟩ | ⟨g', cap, cur, hv, _, hrow, _⟩
      · cases h
      · cases hv; exact fun i => frozen_of_row W g i _ _ hrow
    rw [Nat.zero_add] at x1 x2
    refine .inl ⟨by clear hV hset; go_simp, .inr (.inl ⟨(W.setCell ⟨g, j * 2, none⟩ (.slice a' cs.length c')).setCell ⟨g, j * 2 + 1, none⟩ (.bool soft), by clear hV hset k1 k2 k3 k4 hl; go_simp, rgGoodD_turn ⟨?_, ?_, ?_, fun h => by simp at h⟩ hset ⟨.inr (.inr fun u ⟨v', h1, h2⟩ => ⟨v', h1, ?_⟩), .inl rfl, trivial⟩⟩)⟩
    · exact (k1.setCell (p := ⟨g, j * 2, none⟩) (fun _ => hg.1.1) _).setCell (p := ⟨g, j * 2 + 1, none⟩) (fun _ => hg.1.1) _
    · rw [heap_setCell_other _ _ _ _ (by simp; omega), heap_setCell_other _ _ _ _ (by simp; omega)]; exact k2
    · unfold PgAt; rw [heap_setCell_other _ _ _ _ (by simp; omega), heap_setCell_other _ _ _ _ (by simp; omega)]; exact k3
    · exact (h2.setCell (p := ⟨g, j * 2, none⟩) hg.2 _).setCell (p := ⟨g, j * 2 + 1, none⟩) hg.2 _
  intro d vs W hI hdn hV
  have HP : Hid (Page (fun b => F b ∨ w.heap.size ≤ b) W p most gone (ls.set j ⟨cs, soft⟩)) := ⟨.inl HF.out, _, hI.2.2.1, hV 8 _ rfl⟩
  have Hk := Lib.hid hI.1
  clear hI hV hdn hst
  go_simp
  go_wp2
  go_ret
  exact ⟨rfl, HP.out, Hk.out⟩
end Go.Proofs.YthjcnhgfagefjaaDoor
