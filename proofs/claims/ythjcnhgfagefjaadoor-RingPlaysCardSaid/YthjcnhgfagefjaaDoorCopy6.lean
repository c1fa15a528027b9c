/- The reference's copy of a line. No condition. -/
import Derived.Test.YthjcnhgfagefjaaDoorRg2
namespace Go.Proofs.YthjcnhgfagefjaaDoor
set_option linter.unusedVariables false
set_option linter.unusedSimpArgs false
open Go.RowKit

theorem cell_row2 {w : World} {g : Nat} {x y : Value} {t : TypeId} {fr : Nat × Nat} (h : w.heap[g]? = some (.cells #[x, y] t fr)) : w.cell? ⟨g, 0, none⟩ = some x ∧ w.cell? ⟨g, 1, none⟩ = some y := by
  rw [cell_of_row _ _ _ _ _ _ h, cell_of_row _ _ _ _ _ _ h]; exact ⟨rfl, rfl⟩
theorem set_row2 {w : World} {g : Nat} {x y u v : Value} {t : TypeId} (h : w.heap[g]? = some (.cells #[x, y] t (0, 0))) : ((w.setCell ⟨g, 0, none⟩ u).setCell ⟨g, 1, none⟩ v).heap[g]? = some (.cells #[u, v] t (0, 0)) := by
  rw [heap_setCell_same _ _ _ _ _ _ (heap_setCell_same _ _ _ _ _ _ h)]; rfl
theorem size_setCell (w : World) (p : Addr) (v : Value) : (w.setCell p v).heap.size = w.heap.size := by simp [World.setCell]

/-- What the region of 'Copy' leans on: the box; the result's place. -/
def CopyInv (w0 : World) (B : Nat) (sl : Value) (soft : Bool) (W : World) : Prop :=
  W.heap[B]? = some (.cells #[sl, .bool soft] 36 (0, 0)) ∧ (∃ x y, W.heap[B + 1]? = some (.cells #[x, y] 36 (0, 0))) ∧ Keeps (fun b => b = B + 1) w0 W
theorem CopyInv.sees {w0 W W' : World} {B : Nat} {sl : Value} {soft : Bool} (h : CopyInv w0 B sl soft W) (hs : Sees W W') : CopyInv w0 B sl soft W' := by
  obtain ⟨h1, ⟨x, y, h2⟩, h3⟩ := h
  exact ⟨by rw [hs.block _ (Array.getElem?_eq_some_iff.1 h1).1]; exact h1, ⟨x, y, by rw [hs.block _ (Array.getElem?_eq_some_iff.1 h2).1]; exact h2⟩, h3.trans (Keeps.of_sees hs)⟩

theorem RdCells.keeps' {w W : World} {B : Nat} {v : Value} {cs : List Cell} (h : RdCells w v cs) (hk : Keeps (fun b => b = B) w W) (hB : ∀ a n c, v = .slice (some a) n c → cs ≠ [] → a.block ≠ B) : RdCells W v cs := by
  obtain ⟨ao, cap, h1, h2⟩ := h
  refine ⟨ao, cap, h1, fun hne => ?_⟩
  obtain ⟨b, o, h3, h4⟩ := h2 hne
  exact ⟨b, o, h3, fun i c hc j x hx => hk.cell (fun e => hB ⟨b, o, none⟩ _ _ (by rw [h1, h3]) hne e) (h4 i c hc j x hx)⟩

set_option maxHeartbeats 1000000 in
theorem refCopy_any (v : Value) (cs : List Cell) (soft : Bool) (w : World) (ha : RdCells w v cs) (hn : cs.length ≤ 1000000) :
    Calls Tryd.prog 24 #[.agg #[v, .bool soft]] w fun e w' => ∃ v', e = .returned (.agg #[v', .bool soft]) ∧ OwnCells w' (w.heap.size + 2) v' cs ∧ Sees w w' := by
  obtain ⟨ao, ca, hv, hh⟩ := ha
  subst hv
  have Ha := Lib.hid (show RdCells w (.slice ao cs.length ca) cs from ⟨ao, ca, rfl, hh⟩)
  have Hn := Lib.hid hn
  clear hh hn
  generalize hnc : cs.length = n at *
  have Hnc := Lib.hid hnc; clear hnc
  go_enter Tryd.func24, Tryd.ntmps24
  go_wp2
  refine wp_world fun w0 hw0 => ?_
  have hi0 : CopyInv w0 w.heap.size (.slice ao n ca) soft w0 := by
    subst hw0
    exact ⟨heap_alloc2_old _ _ _, ⟨_, _, heap_alloc2_new _ _ _⟩, Keeps.refl _ _⟩
  have Ha0 : Hid (RdCells w0 (.slice ao n ca) cs) := by rw [hw0]; exact Ha.out.sees (((Sees.refl w).alloc _).alloc _)
  have Hs0 : Hid (Sees w w0) := by rw [hw0]; exact ((Sees.refl w).alloc _).alloc _
  have Hb : Hid (∀ a n' c, Value.slice ao n ca = .slice (some a) n' c → cs ≠ [] → a.block ≠ w.heap.size + 1) := by
    intro a n' c e hne
    obtain ⟨ao', cap', e', hh⟩ := Ha.out
    obtain ⟨b, o, e2, hat⟩ := hh hne
    obtain ⟨c0, r, rfl⟩ := List.exists_cons_of_ne_nil hne
    have : b < w.heap.size := block_lt_of_cell ((hat 0 c0 rfl) 0 _ rfl)
    cases e'; cases e; cases e2
    simp; omega
  have hz0 : w0.heap.size = w.heap.size + 2 := by rw [hw0]; simp
  clear hw0
  have hst : allStay (CopyInv w0 w.heap.size (.slice ao n ca) soft) [.is (.pointer (some ⟨w.heap.size, 0, none⟩)), .is (.slice ao n ca), .so (fun x W => OwnCells W (w.heap.size + 2) x cs), .is (.pointer (some ⟨w.heap.size, 1, none⟩)), .is (.bool soft),
      .so (fun x W => ∃ v', x = .agg #[v', .bool soft] ∧ OwnCells W (w.heap.size + 2) v' cs), .so (fun _ W => ∃ v', W.heap[w.heap.size + 1]? = some (.cells #[v', .bool soft] 36 (0, 0)) ∧ OwnCells W (w.heap.size + 2) v' cs)] :=
    ⟨fun u W W' _ h hs => h.sees hs, fun u W W' _ ⟨v', h1, h2⟩ hs => ⟨v', h1, h2.sees hs⟩, fun u W W' _ ⟨v', h1, h2⟩ hs => ⟨v', by rw [hs.block _ (Array.getElem?_eq_some_iff.1 h1).1]; exact h1, h2.sees hs⟩, trivial⟩
  have hval : ∀ x v, (Spec.is x).val v = x := fun _ _ => rfl
  have hval2 : ∀ V v, (Spec.so V).val v = v := fun _ _ => rfl
  refine wp_rg _ _ (by kernel_rfl) (by kernel_rfl) (hi0.sees (Sees.refl w0).drew) (fun W W' h hs => h.sees hs) hst ?_
  refine ⟨fun vs W hI hV => .inl ⟨by go_simp, .inl (by go_simp)⟩, ?_⟩
  refine ⟨fun vs W hI hV => .inl ⟨by go_simp, .inl (by have q := (cell_row2 hI.1).1; go_simp)⟩, ?_⟩
  refine ⟨fun vs W hI hV => ?_, ?_⟩
  · obtain ⟨v', W', h1, h2, h3⟩ := run_append_new 34 (w.heap.size + 2) (.slice ao n ca) cs (Ha0.out.keeps' hI.2.2 Hb.out) (by rw [Hnc.out]; have := Hn.out; omega) (by have := hI.2.2.size; omega)
    exact .inl ⟨by go_simp, .inl ⟨v', W', exec_append rfl rfl rfl h1, rgGood_sees hst hI (hI.sees h3) h2 h3⟩⟩
  refine ⟨fun vs W hI hV => .inl ⟨by go_simp, .inl (by go_simp)⟩, ?_⟩
  refine ⟨fun vs W hI hV => .inl ⟨by go_simp, .inl (by have q := (cell_row2 hI.1).2; go_simp)⟩, ?_⟩
  refine ⟨fun vs W hI hV => ?_, ?_⟩
  · have h2 : OwnCells W (w.heap.size + 2) (vs 2) cs := hV 2 _ (by kernel_rfl) rfl
    obtain ⟨a', c', e⟩ := h2.slice
    exact .inl ⟨by go_simp, .inl ⟨.agg #[.slice a' cs.length c', .bool soft], W, by go_simp, rgGood_sees hst hI hI ⟨_, rfl, e ▸ h2⟩ (Sees.refl W)⟩⟩
  refine ⟨fun vs W hI hV => ?_, ?_⟩
  · obtain ⟨v', e, h2⟩ : ∃ v', vs 5 = .agg #[v', .bool soft] ∧ OwnCells W (w.heap.size + 2) v' cs := hV 5 _ (by kernel_rfl) rfl
    obtain ⟨a', c', rfl⟩ := h2.slice
    obtain ⟨hI1, ⟨x, y, hr⟩, hI3⟩ := id hI
    obtain ⟨q0, q1⟩ := cell_row2 hr
    have f0 := frozen_of_row W (w.heap.size + 1) 0 _ _ hr
    have f1 := frozen_of_row W (w.heap.size + 1) 1 _ _ hr
    refine .inl ⟨by go_simp, .inr (.inl ⟨(W.setCell ⟨w.heap.size + 1, 0, none⟩ (.slice a' cs.length c')).setCell ⟨w.heap.size + 1, 1, none⟩ (.bool soft), by go_simp, rgGood_turn ⟨?_, ⟨_, _, set_row2 hr⟩, ?_⟩ ⟨_, set_row2 hr, ?_⟩ ?_⟩)⟩
    · rw [heap_setCell_other _ _ _ _ (by simp), heap_setCell_other _ _ _ _ (by simp)]; exact hI1
    · exact (hI3.setCell (p := ⟨w.heap.size + 1, 0, none⟩) (fun _ => rfl) _).setCell (p := ⟨w.heap.size + 1, 1, none⟩) (fun _ => rfl) _
    · exact (h2.setCell (p := ⟨w.heap.size + 1, 0, none⟩) (by simp) _).setCell (p := ⟨w.heap.size + 1, 1, none⟩) (by simp) _
    · exact ⟨.inr fun u hu => (hu.setCell (p := ⟨w.heap.size + 1, 0, none⟩) (by simp) _).setCell (p := ⟨w.heap.size + 1, 1, none⟩) (by simp) _,
        .inr fun u ⟨v2, h1, h2⟩ => ⟨v2, h1, (h2.setCell (p := ⟨w.heap.size + 1, 0, none⟩) (by simp) _).setCell (p := ⟨w.heap.size + 1, 1, none⟩) (by simp) _⟩, .inl rfl, trivial⟩
  intro vs W hI hV
  obtain ⟨v', hr, hown⟩ : ∃ v', W.heap[w.heap.size + 1]? = some (.cells #[v', .bool soft] 36 (0, 0)) ∧ OwnCells W (w.heap.size + 2) v' cs := hV 6 _ rfl
  obtain ⟨q0, q1⟩ := cell_row2 hr
  have Hown := Lib.hid hown
  have Hk := Lib.hid hI.2.2
  clear hI hV hst hr hown
  have Hs := Lib.hid (((Keeps.of_sees (F := fun _ => False) Hs0.out).trans' Hk.out (fun b hb e => absurd (show b = w.heap.size + 1 from e) (by omega))).sees_end (fun _ _ h => h))
  obtain ⟨a', c', rfl⟩ := Hown.out.slice
  go_simp
  go_wp2
  exact bodyPost_ret (v := .agg #[.slice a' cs.length c', .bool soft]) (by simp [results, Tryd.results24, go_sem, q0, q1]) rfl ⟨_, rfl, Hown.out, Hs.out⟩
end Go.Proofs.YthjcnhgfagefjaaDoor
