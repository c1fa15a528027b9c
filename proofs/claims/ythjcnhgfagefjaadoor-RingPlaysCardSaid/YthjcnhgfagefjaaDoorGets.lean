/- Taking the last line away. What the statements ask of Get and Pop. No condition. -/
import Derived.Test.YthjcnhgfagefjaaDoorLinesOf
import Derived.Test.YthjcnhgfagefjaaDoorSeq
import Derived.IntWalk
namespace Go.Proofs.YthjcnhgfagefjaaDoor
set_option linter.unusedVariables false
set_option linter.unusedSimpArgs false
open Go.RowKit

theorem linesIn.last {F : Nat → Prop} {w : World} {l : Ln} : ∀ {xs : List Value} {ls : List Ln}, linesIn F w xs (ls ++ [l]) →
    ∃ a, xs[ls.length * 2]? = some a ∧ xs[ls.length * 2 + 1]? = some (.bool l.soft) ∧ OwnCells w 0 a l.cells ∧ (∀ g, a.ownBlock = some g → F g) ∧ linesIn (fun b => F b ∧ a.ownBlock ≠ some b) w (xs.take (ls.length * 2)) ls
  | a :: b :: xs, [], ⟨h1, h2, h3, h4⟩ => ⟨a, rfl, by simp [h2], h1, fun g hg => (h3 g hg).1, by simp [linesIn]⟩
  | c :: b :: xs, k :: ls, ⟨h1, h2, h3, h4⟩ => by
    obtain ⟨a, e1, e2, e3, e4, e5⟩ := linesIn.last h4
    refine ⟨a, by simpa [show (ls.length + 1) * 2 = ls.length * 2 + 2 by omega] using e1, by simpa [show (ls.length + 1) * 2 + 1 = ls.length * 2 + 1 + 2 by omega] using e2, e3, e4, ?_⟩
    simp only [List.length_cons]
    rw [show (ls.length + 1) * 2 = ls.length * 2 + 1 + 1 by omega]
    simp only [List.take_succ_cons]
    exact ⟨h1, h2, fun g hg => ⟨⟨(h3 g hg).1, (h3 g hg).2 a (List.mem_iff_getElem?.2 ⟨_, e1⟩)⟩, fun x hx => (h3 g hg).2 x (List.mem_of_mem_take hx)⟩, e5⟩
  | [], [], h => h.elim
  | [], _ :: _, h => h.elim
  | [_], [], h => h.elim
  | [_], _ :: _, h => h.elim

set_option maxRecDepth 100000 in
set_option maxHeartbeats 1000000 in
theorem pop_ok (F : Nat → Prop) (p : Nat) (most gone : Int) (ls : List Ln) (l : Ln) (w : World) (h : Page F w p most gone (ls ++ [l])) (hm : 0 < most) (hn : ls.length ≤ 1024) :
    Calls Tryd.prog 57 #[.pointer (some ⟨p, 0, none⟩)] w fun e w' => ∃ v', e = .returned (.tuple #[.agg #[v', .bool l.soft], .int .i64 0]) ∧ OwnCells w' 0 v' l.cells ∧ (∀ g, v'.ownBlock = some g → F g ∧ g < w.heap.size) ∧ Page (fun b => F b ∧ v'.ownBlock ≠ some b) w' p most gone ls ∧ Keeps (fun b => b = p) w w' := by
  obtain ⟨Fp, sv, hp, hown⟩ := h
  obtain ⟨g, c, hsv⟩ := hown.some (by simp)
  subst hsv
  have H := Lib.hid hp
  have HL := Lib.hid hown
  have HF := Lib.hid Fp
  have Hm := Lib.hid hm
  clear hp hown Fp hm
  rw [List.length_append, List.length_cons, List.length_nil, Nat.zero_add] at H HL
  obtain ⟨n, hnc⟩ : ∃ n, n = ls.length := ⟨_, rfl⟩
  rw [← hnc] at H HL hn
  have Hnc := Lib.hid hnc
  clear hnc
  go_enter Tryd.func57, Tryd.ntmps57
  go_wp2_with fail
  refine (zero_at _ p _ _ _ (H.out.sees ((Sees.refl w).alloc _)) Hm.out).mono ?_
  rintro e w1 ⟨rfl, hs⟩
  have q := (H.out.sees (((Sees.refl w).alloc _).trans hs)).c2
  have Hres : Hid (w1.heap[w.heap.size]? = some (.cells #[.slice none 0 0, .bool false] 36 (0, 0))) := by
    unfold Hid; rw [hs.block _ (by simp)]; exact heap_alloc_new _ _
  go_wp2
  have hw1 : Sees w w1 := ((Sees.refl w).alloc _).trans hs
  obtain ⟨xs, ⟨hx1, hx2⟩, hF, hin⟩ := HL.out
  rcases hx2 with ⟨h, _⟩ | ⟨g', cap, cur, hv, _, hrow, q1, q2, q3, q4⟩
  · cases h
  simp only [Value.slice.injEq, Option.some.injEq, Addr.mk.injEq, and_true] at hv
  obtain ⟨rfl, hnl, rfl⟩ := hv
  obtain ⟨v', e1, e2, e3, e4, hin⟩ := hin.last
  rw [← Hnc.out] at e1 e2 hin
  rw [← hnl] at hx1 q1 q4
  obtain ⟨a', c', hv'⟩ := e3.slice
  have x1 : w.cell? ⟨g, n * 2, none⟩ = some v' := by
    rw [cell_of_row _ _ _ _ _ _ hrow]
    have hj := (List.getElem?_eq_some_iff.1 e1).1
    rw [← q4, List.getElem?_take, if_pos (by omega)] at e1
    rw [← e1]; simp
  have x2 : w.cell? ⟨g, n * 2 + 1, none⟩ = some (.bool l.soft) := by
    rw [cell_of_row _ _ _ _ _ _ hrow]
    have hj := (List.getElem?_eq_some_iff.1 e2).1
    rw [← q4, List.getElem?_take, if_pos (by omega)] at e2
    rw [← e2]; simp
  have Hw1 := Lib.hid hw1
  have Hin := Lib.hid hin
  have HFg := Lib.hid hF
  have He3 := Lib.hid e3
  have He4 := Lib.hid e4
  have Hrow := Lib.hid hrow
  have Hx1 := Lib.hid x1
  have Hx2 := Lib.hid x2
  have Hcap := Lib.hid q1
  have Hq2 := Lib.hid q2
  have Hq3 := Lib.hid q3
  have Hq4 := Lib.hid q4
  have Hxl := Lib.hid hx1
  clear hw1 hin hF e3 e4 hrow x1 x2 e1 e2 q hnl hx1 q1 q2 q3 q4
  subst hv'
  refine wpFrom_go (by kernel_rfl) (by kernel_rfl) (fun hB w2 hw2 => ?_)
  have Hw2 := Lib.hid hw2; clear hw2 hs
  have hst : segStay (Sees w2) [.is (.pointer (some ⟨p, 0, none⟩)), .is (.pointer (some ⟨p, 0, none⟩)), .is (.pointer (some ⟨p, 2, none⟩)), .is (.slice (some ⟨g, 0, none⟩) (n + 1) c), .is (.pointer (some ⟨p, 0, none⟩)), .is (.pointer (some ⟨p, 0, none⟩)), .is (.pointer (some ⟨p, 2, none⟩)), .is (.slice (some ⟨g, 0, none⟩) (n + 1) c), .is (.int .i64 ((n : Int) + 1)), .is (.int .i64 (n : Int)), .is (.pointer (some ⟨g, n * 2, none⟩)), .is (.agg #[.slice a' l.cells.length c', .bool l.soft]), .so (fun x W => ∃ b, x = .pointer (some ⟨b, 0, none⟩) ∧ w2.heap.size ≤ b ∧ W.heap[b]? = some (.cells #[.slice none 0 0, .bool false] 36 (0, 0)))] :=
    ⟨fun u W W' _ ⟨b, h1, h2, h3⟩ hs => ⟨b, h1, h2, by rw [hs.block _ (Array.getElem?_eq_some_iff.1 h3).1]; exact h3⟩, trivial⟩
  have hval : ∀ x v, (Spec.is x).val v = x := fun _ _ => rfl
  have hval2 : ∀ V v, (Spec.so V).val v = v := fun _ _ => rfl
  refine wpFrom_any 13 _ hB (by kernel_rfl) rfl hst (by simp only [List.cons_append, List.nil_append, List.drop_succ_cons, List.drop_zero, List.take_succ_cons, List.take_zero, Nat.reduceSub]; rfl) ?_
  refine ⟨fun vs W hI hV => .inl ⟨by go_simp, .inl (by go_simp)⟩, ?_⟩
  refine ⟨fun vs W hI hV => .inl ⟨by go_simp, .inl (by go_simp)⟩, ?_⟩
  refine ⟨fun vs W hI hV => .inl ⟨by go_simp, .inl (by go_simp)⟩, ?_⟩
  refine ⟨fun vs W hI hV => .inl ⟨by go_simp, .inl (by have q := (H.out.sees (Hw1.out.trans (Hw2.out.trans hI))).c2; clear hI hV; go_simp)⟩, ?_⟩
  refine ⟨fun vs W hI hV => .inl ⟨by go_simp, .inl (by go_simp)⟩, ?_⟩
  refine ⟨fun vs W hI hV => .inl ⟨by go_simp, .inl (by have hw1 := IntWalk.i64_in (n : Int) (by omega); clear hI hV; go_simp)⟩, ?_⟩
  refine ⟨fun vs W hI hV => .inl ⟨by go_simp, .inl (by have hw1 : (n : Int) < (n : Int) + 1 := (by omega); clear hI hV; go_simp)⟩, ?_⟩
  refine ⟨fun vs W hI hV => .inl ⟨by go_simp, .inl (by have q := (H.out.sees (Hw1.out.trans (Hw2.out.trans hI))).c2; clear hI hV; go_simp)⟩, ?_⟩
  refine ⟨fun vs W hI hV => .inl ⟨by go_simp, .inl (by go_simp)⟩, ?_⟩
  refine ⟨fun vs W hI hV => .inl ⟨by go_simp, .inl (by have hw1 := IntWalk.i64_in (n : Int) (by omega); clear hI hV; go_simp)⟩, ?_⟩
  refine ⟨fun vs W hI hV => .inl ⟨by go_simp, .inl (by have hw1 : (n : Int) < (n : Int) + 1 := (by omega); clear hI hV; go_simp)⟩, ?_⟩
  refine ⟨fun vs W hI hV => .inl ⟨by go_simp, .inl (by have q1 := Sees.cell (Hw1.out.trans (Hw2.out.trans hI)) Hx1.out; have q2 := Sees.cell (Hw1.out.trans (Hw2.out.trans hI)) Hx2.out; clear hI hV; go_simp)⟩, ?_⟩
  refine ⟨fun vs W hI hV => .inl ⟨by go_simp, .inl ⟨.pointer (some ⟨W.heap.size, 0, none⟩), W.alloc (.cells #[.slice none 0 0, .bool false] 36), by clear hI hV; go_simp, rgGood_mk hst hI ⟨_, rfl, hI.size, heap_alloc_new _ _⟩ ((Sees.refl W).alloc _)⟩⟩, ?_⟩
  intro vs W hI hV
  obtain ⟨b, eb, hb, hrb⟩ := hV 12 _ rfl
  have hcb := cell_row2 hrb
  obtain ⟨cb0, cb1⟩ := hcb
  have frb : ∀ i, W.frozen? ⟨b, i, none⟩ = false := fun i => frozen_of_row W b i _ _ hrb
  have HW := Lib.hid (Hw2.out.trans hI)
  have Hrb := Lib.hid hrb
  have Hb := Lib.hid hb
  clear hV hI hst hrb hb
  go_simp
  clear eb
  refine wpFrom_to 14 hB (fun _ _ _ _ _ h => h) (by kernel_rfl) (by simp only [List.cons_append, List.nil_append, List.drop_succ_cons, List.drop_zero, List.take_succ_cons, List.take_zero, Nat.reduceSub]; rfl) ?_
  go_wp2
  refine wpFrom_end rfl ?_; go_wp2
  refine wpFrom_go (by kernel_rfl) (by kernel_rfl) (fun hB2 w3 hw3 => ?_)
  have Hw3 := Lib.hid hw3; clear hw3 cb0 cb1 frb
  have hst2 : segStay (Sees w3) [.is (.pointer (some ⟨p, 0, none⟩)), .is (.pointer (some ⟨p, 0, none⟩)), .is (.pointer (some ⟨p, 0, none⟩)), .is (.pointer (some ⟨p, 2, none⟩)), .is (.slice (some ⟨g, 0, none⟩) (n + 1) c), .is (.pointer (some ⟨p, 0, none⟩)), .is (.pointer (some ⟨p, 0, none⟩)), .is (.pointer (some ⟨p, 2, none⟩)), .is (.slice (some ⟨g, 0, none⟩) (n + 1) c), .is (.int .i64 ((n : Int) + 1)), .is (.int .i64 (n : Int)), .is (.slice (some ⟨g, 0, none⟩) n c), .is (.pointer (some ⟨p, 0, none⟩)), .is (.pointer (some ⟨p, 2, none⟩))] := trivial
  have hbz : w1.heap.size ≤ b := Nat.le_trans Hw2.out.size Hb.out
  have HWs : Hid (Sees w1 ((W.setCell ⟨b, 0, none⟩ (.slice a' l.cells.length c')).setCell ⟨b, 1, none⟩ (.bool l.soft))) := Lib.hid ((HW.out.setCell (p := ⟨b, 0, none⟩) hbz _).setCell (p := ⟨b, 1, none⟩) hbz _)
  have Hb3 : Hid (w3.heap[b]? = some (.cells #[.slice a' l.cells.length c', .bool l.soft] 36 (0, 0))) := by
    unfold Hid
    have h1 := set_row2 (u := .slice a' l.cells.length c') (v := .bool l.soft) Hrb.out
    rw [Hw3.out.block _ (Array.getElem?_eq_some_iff.1 h1).1]; exact h1
  have HW3 : Hid (Sees w1 w3) := Lib.hid (HWs.out.trans Hw3.out)
  have Hbz := Lib.hid hbz
  clear hbz HWs Hrb HW
  refine wpFrom_any 14 _ hB2 (by kernel_rfl) rfl hst2 (by simp only [List.cons_append, List.nil_append, List.drop_succ_cons, List.drop_zero, List.take_succ_cons, List.take_zero, Nat.reduceSub]; rfl) ?_
  refine ⟨fun vs W hI hV => .inl ⟨by go_simp, .inl (by go_simp)⟩, ?_⟩
  refine ⟨fun vs W hI hV => .inl ⟨by go_simp, .inl (by go_simp)⟩, ?_⟩
  refine ⟨fun vs W hI hV => .inl ⟨by go_simp, .inl (by go_simp)⟩, ?_⟩
  refine ⟨fun vs W hI hV => .inl ⟨by go_simp, .inl (by go_simp)⟩, ?_⟩
  refine ⟨fun vs W hI hV => .inl ⟨by go_simp, .inl (by have q := (H.out.sees (Hw1.out.trans (HW3.out.trans hI))).c2; clear hI hV; go_simp)⟩, ?_⟩
  refine ⟨fun vs W hI hV => .inl ⟨by go_simp, .inl (by go_simp)⟩, ?_⟩
  refine ⟨fun vs W hI hV => .inl ⟨by go_simp, .inl (by go_simp)⟩, ?_⟩
  refine ⟨fun vs W hI hV => .inl ⟨by go_simp, .inl (by go_simp)⟩, ?_⟩
  refine ⟨fun vs W hI hV => .inl ⟨by go_simp, .inl (by have q := (H.out.sees (Hw1.out.trans (HW3.out.trans hI))).c2; clear hI hV; go_simp)⟩, ?_⟩
  refine ⟨fun vs W hI hV => .inl ⟨by go_simp, .inl (by go_simp)⟩, ?_⟩
  refine ⟨fun vs W hI hV => .inl ⟨by go_simp, .inl (by have hw1 := IntWalk.i64_in (n : Int) (by omega); clear hI hV; go_simp)⟩, ?_⟩
  refine ⟨fun vs W hI hV => .inl ⟨by go_simp, .inl (by have hw1 : (n : Int) ≤ (c : Int) := (by have := Hcap.out; omega); have hw2 : n ≤ c := (by have := Hcap.out; omega); clear hI hV; go_simp)⟩, ?_⟩
  refine ⟨fun vs W hI hV => .inl ⟨by go_simp, .inl (by go_simp)⟩, ?_⟩
  refine ⟨fun vs W hI hV => .inl ⟨by go_simp, .inl (by go_simp)⟩, ?_⟩
  intro vs2 W2 hI2 hV2
  clear hV2 hst2
  have HW4 := Lib.hid (HW3.out.trans hI2)
  have Hp4 := Lib.hid (H.out.sees (Hw1.out.trans HW4.out))
  have d2 := Hp4.out.c2
  have fr := Hp4.out.fr
  have Hb4 : Hid (W2.heap[b]? = some (.cells #[.slice a' l.cells.length c', .bool l.soft] 36 (0, 0))) := by
    unfold Hid; rw [hI2.block _ (Array.getElem?_eq_some_iff.1 Hb3.out).1]; exact Hb3.out
  have Hr4 : Hid (W2.heap[w.heap.size]? = some (.cells #[.slice none 0 0, .bool false] 36 (0, 0))) := by
    unfold Hid; rw [HW4.out.block _ (Array.getElem?_eq_some_iff.1 Hres.out).1]; exact Hres.out
  have hpz : p < w.heap.size := H.out.lt
  have hwz : w.heap.size < w1.heap.size := (Array.getElem?_eq_some_iff.1 Hres.out).1
  have n1 : p ≠ b := by have := Hbz.out; omega
  have n2 : w.heap.size ≠ b := by have := Hbz.out; omega
  have n3 : w.heap.size ≠ p := by omega
  obtain ⟨e0, e1⟩ := cell_row2 Hb4.out
  obtain ⟨r0, r1⟩ := cell_row2 Hr4.out
  have fr2 : ∀ i, W2.frozen? ⟨w.heap.size, i, none⟩ = false := fun i => frozen_of_row W2 _ i _ _ Hr4.out
  clear hI2
  have Hn1 := Lib.hid n1
  have Hn2 := Lib.hid n2
  have Hn3 := Lib.hid n3
  have Hpz := Lib.hid hpz
  have Hwz := Lib.hid hwz
  go_simp
  refine wpFrom_to 15 hB2 (fun _ _ _ _ _ h => h) (by kernel_rfl) (by simp only [List.cons_append, List.nil_append, List.drop_succ_cons, List.drop_zero, List.take_succ_cons, List.take_zero, Nat.reduceSub]; rfl) ?_
  go_wp2
  refine wpFrom_end rfl ?_; go_wp2
  have hsee := Hw1.out.trans HW4.out
  have hk : ∀ u v y, Keeps (fun b => b = p) w (((W2.setCell ⟨p, 2, none⟩ u).setCell ⟨w.heap.size, 0, none⟩ v).setCell ⟨w.heap.size, 1, none⟩ y) := fun u v y =>
    Keeps.setCell (Keeps.setCell (Keeps.setCell (F := fun b => b = p) (Keeps.of_sees hsee) (p := ⟨p, 2, none⟩) (fun _ => rfl) u) (p := ⟨w.heap.size, 0, none⟩) (fun h => absurd h (Nat.lt_irrefl _)) v) (p := ⟨w.heap.size, 1, none⟩) (fun h => absurd h (Nat.lt_irrefl _)) y
  have hgF := HFg.out g rfl
  refine bodyPost_ret_by (v := .tuple #[.agg #[.slice a' l.cells.length c', .bool l.soft], .int .i64 0]) (by simp [results, Tryd.results57, go_sem, r0, r1, Hn3.out]) rfl ⟨_, rfl, ?_, ?_, ⟨⟨HF.out, ?_⟩, .slice (some ⟨g, 0, none⟩) n c, ?_, xs.take (n * 2), ?_, ?_, ?_⟩, hk _ _ _⟩
  · exact He3.out.keeps (hk _ _ _) (fun b hb e => (He4.out b hb).1.2 e)
  · exact fun b hb => ⟨(He4.out b hb).1.1, (He3.out.base hb).2⟩
  · exact fun e => (He4.out p e).1.2 rfl
  · unfold PgAt
    rw [heap_setCell_other _ _ _ _ (by simpa using Ne.symm Hn3.out), heap_setCell_other _ _ _ _ (by simpa using Ne.symm Hn3.out)]
    exact Hp4.out.set (some ⟨g, 0, none⟩) n c
  · refine ⟨by rw [List.length_take, Hxl.out, ← Hnc.out]; omega, .inr ⟨g, c, cur, by rw [← Hnc.out], Nat.zero_le _, ?_, by rw [← Hnc.out]; have := Hcap.out; omega, Hq2.out, Hq3.out, ?_⟩⟩
    · rw [(hk _ _ _).block g (Array.getElem?_eq_some_iff.1 Hrow.out).1 hgF.2]; exact Hrow.out
    · rw [← Hq4.out, List.take_take, ← Hnc.out]; congr 1; omega
  · intro b hb
    have e2 : g = b := by cases hb; rfl
    subst e2
    exact ⟨⟨hgF.1, fun e => (He4.out g e).2 rfl⟩, hgF.2⟩
  · refine (Hin.out.keeps (hk _ _ _) (fun b hb e => hb.1.1.2 e)).mono fun b hb h => ⟨⟨⟨h.1.1.1, h.2⟩, h.1.1.2⟩, h.1.2⟩
end Go.Proofs.YthjcnhgfagefjaaDoor

namespace Go.Proofs.YthjcnhgfagefjaaDoor
set_option linter.unusedVariables false
set_option linter.unusedSimpArgs false
open Go.RowKit

end Go.Proofs.YthjcnhgfagefjaaDoor
