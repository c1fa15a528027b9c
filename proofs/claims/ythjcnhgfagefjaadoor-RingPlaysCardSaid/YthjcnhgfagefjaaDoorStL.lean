/- Changing cells of one's own. Lines of one's own that are changed one by one. No condition. -/
import Derived.Test.YthjcnhgfagefjaaDoorThere
namespace Go.Proofs.YthjcnhgfagefjaaDoor
set_option linter.unusedVariables false
set_option linter.unusedSimpArgs false
open Go.RowKit

/-- A row of cells whose runes and widths can be changed. -/
def StRow (W : World) (g n : Nat) : Prop :=
  ∃ cur t, W.heap[g]? = some (.cells cur t (0, 0)) ∧ ∀ i, i < n → (∃ z, cur[i * 16]? = some (.int .i32 z)) ∧ ∃ z, cur[i * 16 + 4]? = some (.int .i64 z)
theorem StRow.set {W : World} {g n : Nat} (h : StRow W g n) (i : Nat) (a b : Int) : StRow ((W.setCell ⟨g, i * 16, none⟩ (.int .i32 a)).setCell ⟨g, i * 16 + 4, none⟩ (.int .i64 b)) g n := by
  obtain ⟨cur, t, h1, h2⟩ := h
  refine ⟨_, t, heap_setCell_same _ _ _ _ _ _ (heap_setCell_same _ _ _ _ _ _ h1), fun j hj => ?_⟩
  obtain ⟨⟨z, e1⟩, ⟨y, e2⟩⟩ := h2 j hj
  have k1 := (Array.getElem?_eq_some_iff.1 e1).1
  have k2 := (Array.getElem?_eq_some_iff.1 e2).1
  have hs : ((cur.setIfInBounds (i * 16) (.int .i32 a)).setIfInBounds (i * 16 + 4) (.int .i64 b)).size = cur.size := by simp
  constructor
  · by_cases hij : i = j
    · subst hij
      exact ⟨a, by rw [Array.getElem?_setIfInBounds_ne (by omega), Array.getElem?_setIfInBounds_self_of_lt (by omega)]⟩
    · exact ⟨z, by rw [Array.getElem?_setIfInBounds_ne (by omega), Array.getElem?_setIfInBounds_ne (by omega)]; exact e1⟩
  · by_cases hij : i = j
    · subst hij
      exact ⟨b, by rw [Array.getElem?_setIfInBounds_self_of_lt (by simpa using k2)]⟩
    · exact ⟨y, by rw [Array.getElem?_setIfInBounds_ne (by omega), Array.getElem?_setIfInBounds_ne (by omega)]; exact e2⟩
theorem OwnCells.stain {W : World} {base g n c : Nat} {cs : List Cell} (h : OwnCells W base (.slice (some ⟨g, 0, none⟩) n c) cs) : StRow W g n := by
  obtain ⟨h1, h2⟩ := h
  rcases h2 with ⟨h2, _⟩ | ⟨g', cap, cur, hv, _, hg, hn, _, hsz, htk⟩
  · cases h2
  · simp only [Value.slice.injEq, Option.some.injEq, Addr.mk.injEq, and_true] at hv
    obtain ⟨rfl, rfl, rfl⟩ := hv
    refine ⟨cur, _, hg, fun i hi => ?_⟩
    have hc := List.getElem?_eq_getElem hi
    have f0 := flat_get cs i 0 _ hc (by decide)
    have f4 := flat_get cs i 4 _ hc (by decide)
    rw [← htk, List.getElem?_take, if_pos (by omega)] at f0 f4
    refine ⟨⟨(cs[i]).rune, ?_⟩, ⟨(cs[i]).width, ?_⟩⟩
    · rw [Nat.add_zero] at f0; simpa [Cell.vals] using f0
    · simpa [Cell.vals] using f4

set_option maxRecDepth 100000 in
set_option maxHeartbeats 1000000 in
theorem stain_row (g n c : Nat) (w : World) (h : StRow w g n) (hn : n ≤ 1000000) :
    Calls Tryd.prog 27 #[.slice (some ⟨g, 0, none⟩) n c] w fun e w' => e = .returned (.tuple #[]) ∧ Keeps (fun b => b = g) w w' := by
  have H := Lib.hid h
  clear h
  go_enter Tryd.func27, Tryd.ntmps27
  go_wp2
  go_loopw [2] (fun i W => ∃ k : Nat, k ≤ n ∧ i = .int .i64 k ∧ StRow W g n ∧ Keeps (fun b => b = g) w W) (fun i _ => n - (intOf i).toNat)
  case atStart => exact ⟨0, by omega, rfl, H.out, Keeps.refl _ _⟩
  case round =>
    obtain ⟨k, hk, rfl, hS, hK⟩ := hrel
    have HS := Lib.hid hS
    have HK := Lib.hid hK
    by_cases hlt : k < n
    · obtain ⟨cur, t, q1, q2⟩ := hS
      obtain ⟨⟨z, e1⟩, ⟨y, e2⟩⟩ := q2 k hlt
      have c0 : wr.cell? ⟨g, k * 16, none⟩ = some (.int .i32 z) := by rw [cell_of_row _ _ _ _ _ _ q1]; exact e1
      have c4 : wr.cell? ⟨g, k * 16 + 4, none⟩ = some (.int .i64 y) := by rw [cell_of_row _ _ _ _ _ _ q1]; exact e2
      have fr : ∀ i, wr.frozen? ⟨g, i, none⟩ = false := fun i => frozen_of_row wr g i _ _ q1
      clear q1 q2 e1 e2 hK
      go_wp2
      refine ⟨⟨k + 1, by omega, by simp, HS.out.set k _ _, (HK.out.setCell (p := ⟨g, k * 16, none⟩) (fun _ => rfl) _).setCell (p := ⟨g, k * 16 + 4, none⟩) (fun _ => rfl) _⟩, by simp [intOf]; omega⟩
    · go_wp2
      go_end0
      exact ⟨rfl, HK.out⟩
theorem stain_own (base : Nat) (v : Value) (cs : List Cell) (w : World) (h : OwnCells w base v cs) (hn : cs.length ≤ 1000000) :
    Calls Tryd.prog 27 #[v] w fun e w' => e = .returned (.tuple #[]) ∧ Keeps (fun b => v.ownBlock = some b) w w' := by
  rcases h.2 with ⟨rfl, h2⟩ | ⟨g, cap, cur, rfl, _⟩
  · go_enter Tryd.func27, Tryd.ntmps27
    go_wp2
    go_loopw [2] (fun i W => i = .int .i64 0 ∧ W = w) (fun i _ => 0)
    case atStart => exact ⟨rfl, rfl⟩
    case round =>
      obtain ⟨rfl, rfl⟩ := hrel
      go_wp2
      go_end0
      exact ⟨rfl, Keeps.refl _ _⟩
  · refine (stain_row g _ cap w h.stain hn).mono ?_
    rintro e w' ⟨rfl, hk⟩
    exact ⟨rfl, hk.mono (fun b _ e => by subst e; rfl)⟩
end Go.Proofs.YthjcnhgfagefjaaDoor

namespace Go.Proofs.YthjcnhgfagefjaaDoor
set_option linter.unusedVariables false
set_option linter.unusedSimpArgs false
open Go.RowKit

theorem linesIn.cutF {F P : Nat → Prop} {w : World} : ∀ {xs : List Value} {ls : List Ln}, linesIn F w xs ls → (∀ x ∈ xs, ∀ g, x.ownBlock = some g → P g) → linesIn (fun b => F b ∧ P b) w xs ls
  | [], [], _, _ => trivial
  | a :: b :: xs, l :: ls, ⟨h1, h2, h3, h4⟩, hP => ⟨h1, h2, fun g hg => ⟨⟨(h3 g hg).1, hP a (by simp) g hg⟩, (h3 g hg).2⟩, cutF h4 (fun x hx => hP x (by simp [hx]))⟩
  | [], _ :: _, h, _ => h.elim
  | [_], [], h, _ => h.elim
  | [_], _ :: _, h, _ => h.elim
  | _ :: _ :: _, [], h, _ => h.elim
/-- A row of lines of one's own, from the line 'k' on. -/
def StL (B : Nat) (W : World) (b : Nat) (ls : List Ln) (k : Nat) : Prop :=
  ∃ xs cur t, W.heap[b]? = some (.cells cur t (0, 0)) ∧ cur.toList.take (ls.length * 2) = xs ∧ B ≤ b ∧ linesIn (fun x => B ≤ x ∧ x ≠ b) W (xs.drop (k * 2)) (ls.drop k)
theorem StL.sees {B : Nat} {W W' : World} {b k : Nat} {ls : List Ln} (h : StL B W b ls k) (hs : Sees W W') : StL B W' b ls k := by
  obtain ⟨xs, cur, t, h1, h2, h3, h4⟩ := h
  exact ⟨xs, cur, t, by rw [hs.block _ (Array.getElem?_eq_some_iff.1 h1).1]; exact h1, h2, h3, h4.keeps (Keeps.of_sees (F := fun _ => False) hs) (fun _ _ h => h)⟩
theorem StL.of {B : Nat} {W : World} {a : Option Addr} {n c : Nat} {ls : List Ln} (h : OwnL (fun b => B ≤ b) W (.slice a n c) ls) (h0 : ls ≠ []) : ∃ b, a = some ⟨b, 0, none⟩ ∧ StL B W b ls 0 := by
  obtain ⟨xs, ⟨h1, h2⟩, hF, h3⟩ := h
  rcases h2 with ⟨_, h2⟩ | ⟨g, cap, cur, e, _, hg, hn, _, hsz, htk⟩
  · exact absurd (List.eq_nil_of_length_eq_zero h2) h0
  · cases e
    refine ⟨g, rfl, xs, cur, _, hg, htk, hF g rfl, ?_⟩
    simp only [Nat.zero_mul, List.drop_zero]
    exact h3.mono (fun b _ h => ⟨h.1, fun e => h.2 (by rw [e]; rfl)⟩)
theorem StL.step {B : Nat} {W : World} {b k : Nat} {ls : List Ln} (h : StL B W b ls k) {l : Ln} (hl : ls[k]? = some l) : ∃ a c, W.cell? ⟨b, k * 2, none⟩ = some (.slice a l.cells.length c) ∧ W.cell? ⟨b, k * 2 + 1, none⟩ = some (.bool l.soft) ∧ OwnCells W 0 (.slice a l.cells.length c) l.cells ∧
    (∀ g, Value.ownBlock (.slice a l.cells.length c) = some g → B ≤ g) ∧ ∀ W', Keeps (fun x => Value.ownBlock (.slice a l.cells.length c) = some x) W W' → StL B W' b ls (k + 1) := by
  obtain ⟨xs, cur, t, h1, h2, h3, h4⟩ := h
  have hk := (List.getElem?_eq_some_iff.1 hl).1
  have hd : ls.drop k = l :: ls.drop (k + 1) := by
    rw [List.drop_eq_getElem_cons hk, (List.getElem?_eq_some_iff.1 hl).2]
  rw [hd] at h4
  have htail : xs.drop ((k + 1) * 2) = (xs.drop (k * 2)).drop 2 := by rw [List.drop_drop]; congr 1; omega
  generalize hys : xs.drop (k * 2) = ys at h4 htail
  rcases ys with _ | ⟨u, _ | ⟨v, ys⟩⟩
  · exact h4.elim
  · exact h4.elim
  obtain ⟨q1, q2, q3, q4⟩ := h4
  obtain ⟨a, c, rfl⟩ := q1.slice
  have e0 : xs[k * 2]? = some (.slice a l.cells.length c) := by
    have := congrArg (fun z => z[0]?) hys; simpa using this
  have e1 : xs[k * 2 + 1]? = some v := by
    have := congrArg (fun z => z[1]?) hys; simpa using this
  have at_ : ∀ j u, xs[j]? = some u → W.cell? ⟨b, j, none⟩ = some u := by
    intro j u hu
    rw [cell_of_row _ _ _ _ _ _ h1]
    rw [← h2, List.getElem?_take] at hu
    split at hu
    · rw [← hu]; simp
    · cases hu
  refine ⟨a, c, at_ _ _ e0, by rw [at_ _ _ e1, q2], q1, fun g hg => (q3 g hg).1.1, fun W' hk' => ⟨xs, cur, t, ?_, h2, h3, ?_⟩⟩
  · rw [hk'.block _ (Array.getElem?_eq_some_iff.1 h1).1 (fun e => (q3 b e).1.2 rfl)]; exact h1
  · rw [htail]
    simp only [List.drop_succ_cons, List.drop_zero]
    exact ((q4.cutF (P := fun g => Value.ownBlock (.slice a l.cells.length c) ≠ some g) (fun x hx g hg e => (q3 g e).2 x hx hg)).keeps hk' (fun b hb e => hb.2 e)).mono (fun b _ h => h.1)
end Go.Proofs.YthjcnhgfagefjaaDoor
