/- Pages: the lines that a page holds, each in memory of its own. No condition. -/
import Derived.Test.YthjcnhgfagefjaaDoorRg3
namespace Go.Proofs.YthjcnhgfagefjaaDoor
set_option linter.unusedVariables false
set_option linter.unusedSimpArgs false
open Go.RowKit

theorem OwnCells.keeps {G : Nat → Prop} {w W : World} {base : Nat} {v : Value} {cs : List Cell} (h : OwnCells w base v cs) (hk : Keeps G w W) (hd : ∀ b, v.ownBlock = some b → ¬ G b) : OwnCells W base v cs := by
  obtain ⟨h1, h2⟩ := h
  refine ⟨h1, ?_⟩
  rcases h2 with h2 | ⟨g, cap, cur, hv, hb', hg, hr⟩
  · exact .inl h2
  · exact .inr ⟨g, cap, cur, hv, hb', by rw [hk.block g (Array.getElem?_eq_some_iff.1 hg).1 (hd g (by rw [hv]; rfl))]; exact hg, hr⟩
theorem OwnCells.base {w : World} {base : Nat} {v : Value} {cs : List Cell} (h : OwnCells w base v cs) {g : Nat} (hg : v.ownBlock = some g) : base ≤ g ∧ g < w.heap.size := by
  rcases h.2 with ⟨rfl, _⟩ | ⟨g', cap, cur, rfl, hb, hg', _⟩
  · cases hg
  · cases hg; exact ⟨hb, (Array.getElem?_eq_some_iff.1 hg').1⟩

/-- The words of a row of lines: each line's cells lie in memory of their own. -/
def linesIn (F : Nat → Prop) (w : World) : List Value → List Ln → Prop
  | [], [] => True
  | a :: b :: xs, l :: ls => OwnCells w 0 a l.cells ∧ b = .bool l.soft ∧ (∀ g, a.ownBlock = some g → F g ∧ ∀ x ∈ xs, x.ownBlock ≠ some g) ∧ linesIn F w xs ls
  | _, _ => False
namespace linesIn
variable {F G : Nat → Prop} {w W : World}
theorem keeps (hk : Keeps G w W) (hd : ∀ b, F b → ¬ G b) : ∀ {xs : List Value} {ls : List Ln}, linesIn F w xs ls → linesIn F W xs ls
  | [], [], _ => trivial
  | a :: b :: xs, l :: ls, ⟨h1, h2, h3, h4⟩ => ⟨h1.keeps hk (fun b hb => hd b (h3 b hb).1), h2, h3, keeps hk hd h4⟩
  | [], _ :: _, h => h.elim
  | [_], [], h => h.elim
  | [_], _ :: _, h => h.elim
  | _ :: _ :: _, [], h => h.elim
theorem mono (hFG : ∀ b, b < w.heap.size → F b → G b) : ∀ {xs : List Value} {ls : List Ln}, linesIn F w xs ls → linesIn G w xs ls
  | [], [], _ => trivial
  | a :: b :: xs, l :: ls, ⟨h1, h2, h3, h4⟩ => ⟨h1, h2, fun g hg => ⟨hFG g (h1.base hg).2 (h3 g hg).1, (h3 g hg).2⟩, mono hFG h4⟩
  | [], _ :: _, h => h.elim
  | [_], [], h => h.elim
  | [_], _ :: _, h => h.elim
  | _ :: _ :: _, [], h => h.elim
theorem blocks : ∀ {xs : List Value} {ls : List Ln}, linesIn F w xs ls → ∀ x ∈ xs, ∀ g, x.ownBlock = some g → F g ∧ g < w.heap.size
  | [], [], _ => by intro x hx; cases hx
  | a :: b :: xs, l :: ls, ⟨h1, h2, h3, h4⟩ => by
    intro x hx g hg
    rcases List.mem_cons.1 hx with rfl | hx
    · exact ⟨(h3 g hg).1, (h1.base hg).2⟩
    · rcases List.mem_cons.1 hx with rfl | hx
      · rw [h2] at hg; cases hg
      · exact blocks h4 x hx g hg
  | [], _ :: _, h => h.elim
  | [_], [], h => h.elim
  | [_], _ :: _, h => h.elim
  | _ :: _ :: _, [], h => h.elim
theorem one : ∀ {xs : List Value} {ls : List Ln}, linesIn F w xs ls → ∀ x ∈ xs, x.oneCell' = true
  | [], [], _ => by intro x hx; cases hx
  | a :: b :: xs, l :: ls, ⟨h1, h2, h3, h4⟩ => by
    intro x hx
    rcases List.mem_cons.1 hx with rfl | hx
    · obtain ⟨_, _, rfl⟩ := h1.slice; rfl
    · rcases List.mem_cons.1 hx with rfl | hx
      · rw [h2]; rfl
      · exact one h4 x hx
  | [], _ :: _, h => h.elim
  | [_], [], h => h.elim
  | [_], _ :: _, h => h.elim
  | _ :: _ :: _, [], h => h.elim
theorem length : ∀ {xs : List Value} {ls : List Ln}, linesIn F w xs ls → xs.length = ls.length * 2
  | [], [], _ => rfl
  | a :: b :: xs, l :: ls, ⟨_, _, _, h4⟩ => by have := length h4; simp; omega
  | [], _ :: _, h => h.elim
  | [_], [], h => h.elim
  | [_], _ :: _, h => h.elim
  | _ :: _ :: _, [], h => h.elim
theorem append {a : Value} {l : Ln} (ha : OwnCells w 0 a l.cells) (hF : ∀ g, a.ownBlock = some g → F g) : ∀ {xs : List Value} {ls : List Ln}, linesIn F w xs ls → (∀ g, a.ownBlock = some g → ∀ x ∈ xs, x.ownBlock ≠ some g) → linesIn F w (xs ++ [a, .bool l.soft]) (ls ++ [l])
  | [], [], _, _ => ⟨ha, rfl, fun g hg => ⟨hF g hg, by simp⟩, trivial⟩
  | c :: b :: xs, k :: ls, ⟨h1, h2, h3, h4⟩, hn => ⟨h1, h2, fun g hg => ⟨(h3 g hg).1, fun x hx => by
      rcases List.mem_append.1 hx with hx | hx
      · exact (h3 g hg).2 x hx
      · simp at hx
        rcases hx with rfl | rfl
        · intro he; exact hn g he c (List.mem_cons_self ..) hg
        · intro he; cases he⟩, append ha hF h4 (fun g hg x hx => hn g hg x (List.mem_cons_of_mem _ (List.mem_cons_of_mem _ hx)))⟩
  | [], _ :: _, h, _ => h.elim
  | [_], [], h, _ => h.elim
  | [_], _ :: _, h, _ => h.elim
  | _ :: _ :: _, [], h, _ => h.elim
theorem get : ∀ {xs : List Value} {ls : List Ln}, linesIn F w xs ls → ∀ (i : Nat) (l : Ln), ls[i]? = some l → ∃ a, xs[i * 2]? = some a ∧ xs[i * 2 + 1]? = some (.bool l.soft) ∧ OwnCells w 0 a l.cells ∧ ∀ g, a.ownBlock = some g → F g
  | [], [], _, i, l, hl => by cases hl
  | a :: b :: xs, k :: ls, ⟨h1, h2, h3, h4⟩, 0, l, hl => by
    have : k = l := by simpa using hl
    subst this
    exact ⟨a, rfl, by simp [h2], h1, fun g hg => (h3 g hg).1⟩
  | a :: b :: xs, k :: ls, ⟨h1, h2, h3, h4⟩, i + 1, l, hl => by
    obtain ⟨c, e1, e2, e3, e4⟩ := get h4 i l (by simpa using hl)
    exact ⟨c, by rw [show (i + 1) * 2 = i * 2 + 2 by omega]; simpa using e1, by rw [show (i + 1) * 2 + 1 = i * 2 + 1 + 2 by omega]; simpa using e2, e3, e4⟩
  | [], _ :: _, h, _, _, _ => h.elim
  | [_], [], h, _, _, _ => h.elim
  | [_], _ :: _, h, _, _, _ => h.elim
  | _ :: _ :: _, [], h, _, _, _ => h.elim
theorem take : ∀ {xs : List Value} {ls : List Ln} (k : Nat), linesIn F w xs ls → linesIn F w (xs.take (k * 2)) (ls.take k)
  | xs, ls, 0, h => by simp [linesIn]
  | [], [], k + 1, _ => by simp [linesIn]
  | a :: b :: xs, l :: ls, k + 1, ⟨h1, h2, h3, h4⟩ => by
    rw [show (k + 1) * 2 = k * 2 + 1 + 1 by omega]
    simp only [List.take_succ_cons]
    exact ⟨h1, h2, fun g hg => ⟨(h3 g hg).1, fun x hx => (h3 g hg).2 x (List.mem_of_mem_take hx)⟩, take k h4⟩
  | [], _ :: _, _ + 1, h => h.elim
  | [_], [], _ + 1, h => h.elim
  | [_], _ :: _, _ + 1, h => h.elim
  | _ :: _ :: _, [], _ + 1, h => h.elim
theorem drop : ∀ {xs : List Value} {ls : List Ln} (k : Nat), linesIn F w xs ls → linesIn F w (xs.drop (k * 2)) (ls.drop k)
  | xs, ls, 0, h => by simpa using h
  | [], [], k + 1, _ => by simp [linesIn]
  | a :: b :: xs, l :: ls, k + 1, ⟨h1, h2, h3, h4⟩ => by
    rw [show (k + 1) * 2 = k * 2 + 1 + 1 by omega]
    simp only [List.drop_succ_cons]
    exact drop k h4
  | [], _ :: _, _ + 1, h => h.elim
  | [_], [], _ + 1, h => h.elim
  | [_], _ :: _, _ + 1, h => h.elim
  | _ :: _ :: _, [], _ + 1, h => h.elim
end linesIn

/-- A slice of lines in memory of its own. -/
def OwnL (F : Nat → Prop) (w : World) (v : Value) (ls : List Ln) : Prop :=
  ∃ xs, w.ownsRow 0 36 2 v ls.length xs ∧ (∀ g, v.ownBlock = some g → F g) ∧ linesIn (fun b => F b ∧ v.ownBlock ≠ some b) w xs ls
theorem row_keeps {G : Nat → Prop} {w W : World} {e : TypeId} {size : Nat} {v : Value} {n : Nat} {xs : List Value} (h : w.ownsRow 0 e size v n xs) (hk : Keeps G w W) (hd : ∀ b, v.ownBlock = some b → ¬ G b) : W.ownsRow 0 e size v n xs := by
  obtain ⟨h1, h2⟩ := h
  refine ⟨h1, ?_⟩
  rcases h2 with h2 | ⟨g, cap, cur, hv, hb', hg, hr⟩
  · exact .inl h2
  · exact .inr ⟨g, cap, cur, hv, hb', by rw [hk.block g (Array.getElem?_eq_some_iff.1 hg).1 (hd g (by rw [hv]; rfl))]; exact hg, hr⟩
theorem row_lt {w : World} {base : Nat} {e : TypeId} {size : Nat} {v : Value} {n : Nat} {xs : List Value} (h : w.ownsRow base e size v n xs) {g : Nat} (hg : v.ownBlock = some g) : g < w.heap.size := by
  rcases h.2 with ⟨rfl, _⟩ | ⟨g', cap, cur, rfl, hb, hg', _⟩
  · cases hg
  · cases hg; exact (Array.getElem?_eq_some_iff.1 hg').1
namespace OwnL
variable {F G : Nat → Prop} {w W : World} {v : Value} {ls : List Ln}
theorem slice (h : OwnL F w v ls) : ∃ a c, v = .slice a ls.length c := by
  obtain ⟨xs, h, _⟩ := h
  rcases h.2 with ⟨rfl, h2⟩ | ⟨g, cap, cur, rfl, _⟩
  · exact ⟨none, 0, by rw [h2]⟩
  · exact ⟨_, _, rfl⟩
theorem keeps (h : OwnL F w v ls) (hk : Keeps G w W) (hd : ∀ b, F b → ¬ G b) : OwnL F W v ls := by
  obtain ⟨xs, h1, h2, h3⟩ := h
  exact ⟨xs, row_keeps h1 hk (fun b hb => hd b (h2 b hb)), h2, h3.keeps hk (fun b hb => hd b hb.1)⟩
theorem sees (h : OwnL F w v ls) (hs : Sees w W) : OwnL F W v ls := h.keeps (Keeps.of_sees (F := fun _ => False) hs) (fun _ _ h => h)
theorem mono (h : OwnL F w v ls) (hFG : ∀ b, b < w.heap.size → F b → G b) : OwnL G w v ls := by
  obtain ⟨xs, h1, h2, h3⟩ := h
  exact ⟨xs, h1, fun g hg => hFG g (row_lt h1 hg) (h2 g hg), h3.mono (fun b hb h => ⟨hFG b hb h.1, h.2⟩)⟩
theorem nil (F : Nat → Prop) (w : World) : OwnL F w (.slice none 0 0) [] := ⟨[], ⟨rfl, .inl ⟨rfl, rfl⟩⟩, (by intro g hg; cases hg), trivial⟩
theorem rdl (h : OwnL F w v ls) : RdL F w v ls := by
  obtain ⟨xs, ⟨h1, h2⟩, hF, h3⟩ := h
  rcases h2 with ⟨rfl, h2⟩ | ⟨g, cap, cur, rfl, _, hg, hn, _, hsz, htk⟩
  · have : ls = [] := List.eq_nil_of_length_eq_zero h2
    subst this
    exact RdL.nil _ _
  · refine ⟨some ⟨g, 0, none⟩, cap, rfl, fun _ => ⟨g, 0, rfl, hF g rfl, fun i l hl => ?_⟩⟩
    obtain ⟨a, e1, e2, e3, e4⟩ := h3.get i l hl
    have at_ : ∀ j u, xs[j]? = some u → w.cell? ⟨g, 0 + j, none⟩ = some u := by
      intro j u hu
      rw [cell_of_row _ _ _ _ _ _ hg, Nat.zero_add]
      have hj := (List.getElem?_eq_some_iff.1 hu).1
      rw [← htk, List.getElem?_take, if_pos (by omega)] at hu
      rw [← hu]; simp
    refine ⟨a, at_ _ _ e1, by rw [Nat.add_assoc]; exact at_ _ _ e2, ?_⟩
    obtain ⟨ao, c, q1, q2⟩ := e3.rd
    refine ⟨ao, c, q1, fun hne => ?_⟩
    obtain ⟨b, o, q3, q4⟩ := q2 hne
    exact ⟨b, o, q3, (e4 b (by rw [q1, q3]; rfl)).1, q4⟩
end OwnL

/-- A page: its words, and its lines in memory of its own. -/
def Page (F : Nat → Prop) (w : World) (p : Nat) (most gone : Int) (ls : List Ln) : Prop :=
  F p ∧ ∃ sv, PgAt w p most gone sv ∧ OwnL (fun b => F b ∧ b ≠ p) w sv ls
namespace Page
variable {F G : Nat → Prop} {w W : World} {p : Nat} {most gone : Int} {ls : List Ln}
theorem keeps (h : Page F w p most gone ls) (hk : Keeps G w W) (hd : ∀ b, F b → ¬ G b) : Page F W p most gone ls := by
  obtain ⟨h1, sv, h2, h3⟩ := h
  refine ⟨h1, sv, ?_, h3.keeps hk (fun b hb => hd b hb.1)⟩
  unfold PgAt; rw [hk.block p h2.lt (hd p h1)]; exact h2
theorem sees (h : Page F w p most gone ls) (hs : Sees w W) : Page F W p most gone ls := h.keeps (Keeps.of_sees (F := fun _ => False) hs) (fun _ _ h => h)
theorem mono (h : Page F w p most gone ls) (hFG : ∀ b, b < w.heap.size → F b → G b) : Page G w p most gone ls := by
  obtain ⟨h1, sv, h2, h3⟩ := h
  exact ⟨hFG p h2.lt h1, sv, h2, h3.mono (fun b hb h => ⟨hFG b hb h.1, h.2⟩)⟩
theorem words (h : Page F w p most gone ls) : ∃ a c, PgAt w p most gone (.slice a ls.length c) := by
  obtain ⟨_, sv, h2, h3⟩ := h
  obtain ⟨a, c, rfl⟩ := h3.slice
  exact ⟨a, c, h2⟩
end Page
end Go.Proofs.YthjcnhgfagefjaaDoor
