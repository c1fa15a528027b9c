/- A page that a statement's own run made: the methods, each as one step on it. No condition. -/
import Derived.Test.YthjcnhgfagefjaaDoorGets
namespace Go.Proofs.YthjcnhgfagefjaaDoor
set_option linter.unusedVariables false
set_option linter.unusedSimpArgs false
open Go.RowKit

theorem lnOk_len {cs : List Cell} (h : lnOk cs = true) : cs.length ≤ 1000 := by
  unfold lnOk at h; rw [Bool.and_eq_true, decide_eq_true_eq] at h; exact h.1
/-- A page whose memory lies between what 'w1' had and M. -/
structure PgS (w1 : World) (M : Nat) (W : World) (p : Nat) (most gone : Int) (ls : List Ln) : Prop where
  see : Sees w1 W
  page : Page (fun b => w1.heap.size ≤ b ∧ b < M) W p most gone ls
  le : M ≤ W.heap.size
  most0 : 0 < most
  most1 : most ≤ 1024
  gone0 : 0 ≤ gone
  room : gone + ls.length ≤ most
  ok : ∀ l ∈ ls, lnOk l.cells = true
namespace PgS
variable {w1 W W' : World} {M p : Nat} {most gone : Int} {ls : List Ln}
theorem sees (h : PgS w1 M W p most gone ls) (hs : Sees W W') : PgS w1 M W' p most gone ls :=
  ⟨h.see.trans hs, h.page.sees hs, Nat.le_trans h.le hs.size, h.most0, h.most1, h.gone0, h.room, h.ok⟩
theorem up {M' : Nat} (h : PgS w1 M W p most gone ls) (h1 : M ≤ M') (h2 : M' ≤ W.heap.size) : PgS w1 M' W p most gone ls :=
  ⟨h.see, h.page.mono (fun b hb hF => ⟨hF.1, by omega⟩), h2, h.most0, h.most1, h.gone0, h.room, h.ok⟩
theorem top (h : PgS w1 M W p most gone ls) : PgS w1 W.heap.size W p most gone ls := h.up h.le (Nat.le_refl _)
theorem len (h : PgS w1 M W p most gone ls) : ls.length ≤ 1024 := by have := h.room; have := h.gone0; have := h.most1; omega
theorem nogone (h : PgS w1 M W p most gone ls) : gone ≤ 1024 := by have := h.room; have := h.most1; omega
theorem lenc (h : PgS w1 M W p most gone ls) : ∀ l ∈ ls, l.cells.length ≤ 1000000 := fun l hl => by have := lnOk_len (h.ok l hl); omega
theorem keep (h : PgS w1 M W p most gone ls) (hk : Keeps (fun b => w1.heap.size ≤ b ∧ b < M) W W') : Sees w1 W' :=
  ((Keeps.of_sees (F := fun b => w1.heap.size ≤ b ∧ b < M) h.see).trans hk).sees_end (fun b hb hF => by omega)

theorem push (h : PgS w1 M W p most gone ls) (ht : Tabs W) (G : Nat → Prop) (v : Value) (cs : List Cell) (soft : Bool) (hv : RdC G W v cs) (hG : ∀ b, G b → b < w1.heap.size ∨ M ≤ b) (hok : lnOk cs = true) (hr : gone + ls.length < most) :
    Calls Tryd.prog 53 #[.pointer (some ⟨p, 0, none⟩), .agg #[v, .bool soft]] W fun e w' => e = .returned (.int .i64 0) ∧ PgS w1 w'.heap.size w' p most gone (ls ++ [⟨cs, soft⟩]) ∧ Keeps (fun b => w1.heap.size ≤ b ∧ b < M) W w' := by
  refine (push_ok _ G p most gone ls v cs soft W ht h.page ⟨h.most1, h.gone0, hr⟩ hv (fun b hb hF => by have := hG b hb; omega) (by have := lnOk_len hok; omega) hok).mono ?_
  rintro e w' ⟨rfl, hp, hk⟩
  have hs1 := h.see.size
  refine ⟨rfl, ⟨h.keep hk, hp.mono (fun b hb hF => ⟨by rcases hF with hF | hF <;> omega, hb⟩), Nat.le_refl _, h.most0, h.most1, h.gone0, by simp; omega, ?_⟩, hk⟩
  intro l hl
  rcases List.mem_append.1 hl with hl | hl
  · exact h.ok l hl
  · simp at hl; subst hl; exact hok
theorem push_full (h : PgS w1 M W p most gone ls) (ht : Tabs W) (v : Value) (cs : List Cell) (soft : Bool) (hv : RdCells W v cs) (hok : lnOk cs = true) (hr : gone + ls.length = most) :
    Calls Tryd.prog 53 #[.pointer (some ⟨p, 0, none⟩), .agg #[v, .bool soft]] W fun e w' => e = .returned (.int .i64 7) ∧ Sees W w' := by
  obtain ⟨a, c, hp⟩ := h.page.words
  exact Go.Proofs.YthjcnhgfagefjaaDoor.push_full p most gone a ls.length c v cs soft W ht hp ⟨h.most0, h.most1, h.gone0, hr.symm⟩ hv (by have := lnOk_len hok; omega) hok
theorem push_bad (h : PgS w1 M W p most gone ls) (ht : Tabs W) (v : Value) (cs : List Cell) (soft : Bool) (hv : RdCells W v cs) (hn : cs.length ≤ 1000000) (hok : lnOk cs = false) :
    Calls Tryd.prog 53 #[.pointer (some ⟨p, 0, none⟩), .agg #[v, .bool soft]] W fun e w' => e = .returned (.int .i64 2) ∧ Sees W w' := by
  obtain ⟨a, c, hp⟩ := h.page.words
  exact Go.Proofs.YthjcnhgfagefjaaDoor.push_bad p most gone _ v cs soft W ht hp h.most0 hv hn hok
theorem drop (h : PgS w1 M W p most gone ls) (k : Nat) (hk : k ≤ ls.length) :
    Calls Tryd.prog 58 #[.pointer (some ⟨p, 0, none⟩), .int .i64 k] W fun e w' => e = .returned (.int .i64 0) ∧ PgS w1 w'.heap.size w' p most (gone + k) (ls.drop k) ∧ Keeps (fun b => w1.heap.size ≤ b ∧ b < M) W w' := by
  have hs1 := h.see.size
  have hr := h.room
  have h0 := h.gone0
  by_cases hlt : k < ls.length
  · refine (drop_some _ p most gone ls k W h.page ⟨h.most0, h.most1, h.gone0, h.nogone⟩ hlt h.len).mono ?_
    rintro e w' ⟨rfl, hp, hk2⟩
    refine ⟨rfl, ⟨h.keep hk2, hp.mono (fun b hb hF => ⟨by rcases hF with hF | hF <;> omega, hb⟩), Nat.le_refl _, h.most0, h.most1, by omega, by rw [List.length_drop]; omega, fun l hl => h.ok l (List.mem_of_mem_drop hl)⟩, hk2⟩
  · obtain rfl : k = ls.length := by omega
    refine (drop_all _ p most gone ls W h.page ⟨h.most0, h.most1, h.gone0, h.nogone⟩ h.len).mono ?_
    rintro e w' ⟨rfl, hp, hk2⟩
    refine ⟨rfl, ⟨h.keep hk2, ?_, Nat.le_refl _, h.most0, h.most1, by omega, by rw [List.length_drop]; omega, fun l hl => h.ok l (List.mem_of_mem_drop hl)⟩, hk2⟩
    rw [List.drop_length]
    exact hp.mono (fun b hb hF => ⟨hF.1, hb⟩)
theorem drop_range (h : PgS w1 M W p most gone ls) (i : Int) (hi : i < 0 ∨ (ls.length : Int) < i) :
    Calls Tryd.prog 58 #[.pointer (some ⟨p, 0, none⟩), .int .i64 i] W fun e w' => e = .returned (.int .i64 3) ∧ Sees W w' := by
  obtain ⟨a, c, hp⟩ := h.page.words
  refine Go.Proofs.YthjcnhgfagefjaaDoor.drop_range p most gone a ls.length c i W hp h.most0 ?_
  by_cases h0 : i < 0
  · exact .inl (decide_eq_true h0)
  · exact .inr ⟨decide_eq_false h0, decide_eq_true (by omega)⟩
theorem pop (l : Ln) (h : PgS w1 M W p most gone (ls ++ [l])) :
    Calls Tryd.prog 57 #[.pointer (some ⟨p, 0, none⟩)] W fun e w' => ∃ v', e = .returned (.tuple #[.agg #[v', .bool l.soft], .int .i64 0]) ∧ OwnCells w' 0 v' l.cells ∧ (∀ g, v'.ownBlock = some g → w1.heap.size ≤ g ∧ g < M) ∧
      Page (fun b => (w1.heap.size ≤ b ∧ b < M) ∧ v'.ownBlock ≠ some b) w' p most gone ls ∧ PgS w1 M w' p most gone ls ∧ Keeps (fun b => b = p) W w' := by
  have hr := h.room
  have hl := h.len
  rw [List.length_append, List.length_cons, List.length_nil] at hr hl
  refine (pop_ok _ p most gone ls l W h.page h.most0 (by omega)).mono ?_
  rintro e w' ⟨v', rfl, h1, h2, h3, h4⟩
  have hpF := h.page.1
  refine ⟨v', rfl, h1, fun g hg => (h2 g hg).1, h3, ⟨h.keep (h4.mono (fun b _ e => by subst e; exact hpF)), h3.mono (fun b _ hF => hF.1), Nat.le_trans h.le h4.size, h.most0, h.most1, h.gone0, by omega, fun l hl => h.ok l (List.mem_append_left _ hl)⟩, h4⟩
theorem pop_none (h : PgS w1 M W p most gone []) :
    Calls Tryd.prog 57 #[.pointer (some ⟨p, 0, none⟩)] W fun e w' => e = .returned (.tuple #[.agg #[.slice none 0 0, .bool false], .int .i64 9]) ∧ Sees W w' := by
  obtain ⟨a, c, hp⟩ := h.page.words
  exact Go.Proofs.YthjcnhgfagefjaaDoor.pop_none p most gone a c W hp h.most0
theorem get (h : PgS w1 M W p most gone ls) (k : Nat) (l : Ln) (hk : ls[k]? = some l) :
    Calls Tryd.prog 55 #[.pointer (some ⟨p, 0, none⟩), .int .i64 k] W fun e w' => ∃ v', e = .returned (.tuple #[.agg #[v', .bool l.soft], .int .i64 0]) ∧ OwnCells w' W.heap.size v' l.cells ∧ Sees W w' :=
  get_ok _ p most gone ls k l W h.page h.most0 hk (by have := h.len; omega) (h.lenc l (List.mem_iff_getElem?.2 ⟨k, hk⟩))
theorem get_range (h : PgS w1 M W p most gone ls) (i : Int) (hi : i < 0 ∨ (ls.length : Int) ≤ i) :
    Calls Tryd.prog 55 #[.pointer (some ⟨p, 0, none⟩), .int .i64 i] W fun e w' => e = .returned (.tuple #[.agg #[.slice none 0 0, .bool false], .int .i64 3]) ∧ Sees W w' := by
  obtain ⟨a, c, hp⟩ := h.page.words
  refine Go.Proofs.YthjcnhgfagefjaaDoor.get_range p most gone a ls.length c i W hp h.most0 ?_
  by_cases h0 : i < 0
  · exact .inl (decide_eq_true h0)
  · exact .inr ⟨decide_eq_false h0, decide_eq_true (by omega)⟩
theorem lines (h : PgS w1 M W p most gone ls) :
    Calls Tryd.prog 64 #[.pointer (some ⟨p, 0, none⟩)] W fun e w' => ∃ v', e = .returned v' ∧ OwnL (fun b => W.heap.size ≤ b) w' v' ls ∧ Sees W w' :=
  lines_ok _ p most gone ls W h.page h.most0 h.len h.lenc
theorem pglen (h : PgS w1 M W p most gone ls) : Calls Tryd.prog 54 #[.pointer (some ⟨p, 0, none⟩)] W fun e w' => e = .returned (.int .i64 (ls.length : Int)) ∧ Sees W w' := by
  obtain ⟨a, c, hp⟩ := h.page.words
  exact len_at W p most gone a ls.length c hp h.most0
theorem pgcap (h : PgS w1 M W p most gone ls) : Calls Tryd.prog 65 #[.pointer (some ⟨p, 0, none⟩)] W fun e w' => e = .returned (.int .i64 most) ∧ Sees W w' := by
  obtain ⟨a, c, hp⟩ := h.page.words
  exact cap_at W p most gone _ hp h.most0
theorem pggone (h : PgS w1 M W p most gone ls) : Calls Tryd.prog 66 #[.pointer (some ⟨p, 0, none⟩)] W fun e w' => e = .returned (.int .i64 gone) ∧ Sees W w' := by
  obtain ⟨a, c, hp⟩ := h.page.words
  exact gone_at W p most gone _ hp h.most0
theorem pgroom (h : PgS w1 M W p most gone ls) : Calls Tryd.prog 51 #[.pointer (some ⟨p, 0, none⟩)] W fun e w' => e = .returned (.int .i64 (most - gone - (ls.length : Int))) ∧ Sees W w' := by
  obtain ⟨a, c, hp⟩ := h.page.words
  exact room_at W p most gone a ls.length c hp h.most0 h.most1 h.gone0 h.nogone h.len
theorem roomIs (h : PgS w1 M W p most gone ls) (r : Int) (hr : most - gone - (ls.length : Int) = r) : Calls Tryd.prog 51 #[.pointer (some ⟨p, 0, none⟩)] W fun e w' => e = .returned (.int .i64 r) ∧ Sees W w' := hr ▸ h.pgroom
theorem goneIs (h : PgS w1 M W p most gone ls) (r : Int) (hr : gone = r) : Calls Tryd.prog 66 #[.pointer (some ⟨p, 0, none⟩)] W fun e w' => e = .returned (.int .i64 r) ∧ Sees W w' := hr ▸ h.pggone
theorem lenIs (h : PgS w1 M W p most gone ls) (r : Int) (hr : (ls.length : Int) = r) : Calls Tryd.prog 54 #[.pointer (some ⟨p, 0, none⟩)] W fun e w' => e = .returned (.int .i64 r) ∧ Sees W w' := hr ▸ h.pglen
theorem set (h : PgS w1 M W p most gone ls) (ht : Tabs W) (G : Nat → Prop) (j : Nat) (hj : j < ls.length) (v : Value) (cs : List Cell) (soft : Bool) (hv : RdC G W v cs) (hG : ∀ b, G b → b < w1.heap.size ∨ M ≤ b) (hok : lnOk cs = true) :
    Calls Tryd.prog 45 #[.pointer (some ⟨p, 0, none⟩), .int .i64 j, .agg #[v, .bool soft]] W fun e w' => e = .returned (.int .i64 0) ∧ PgS w1 w'.heap.size w' p most gone (ls.set j ⟨cs, soft⟩) ∧ Keeps (fun b => w1.heap.size ≤ b ∧ b < M) W w' := by
  refine (set_ok _ G p most gone ls j v cs soft W ht h.page h.most0 hj (by have := h.len; omega) hv (fun b hb hF => by have := hG b hb; omega) (by have := lnOk_len hok; omega) hok).mono ?_
  rintro e w' ⟨rfl, hp, hk⟩
  have hs1 := h.see.size
  refine ⟨rfl, ⟨h.keep hk, hp.mono (fun b hb hF => ⟨by rcases hF with hF | hF <;> omega, hb⟩), Nat.le_refl _, h.most0, h.most1, h.gone0, by rw [List.length_set]; exact h.room, ?_⟩, hk⟩
  intro l hl
  rcases List.mem_or_eq_of_mem_set hl with hl | rfl
  · exact h.ok l hl
  · exact hok
theorem set_range (h : PgS w1 M W p most gone ls) (ht : Tabs W) (i : Int) (hi : i < 0 ∨ (ls.length : Int) ≤ i) (v : Value) (cs : List Cell) (soft : Bool) (hv : RdCells W v cs) (hok : lnOk cs = true) :
    Calls Tryd.prog 45 #[.pointer (some ⟨p, 0, none⟩), .int .i64 i, .agg #[v, .bool soft]] W fun e w' => e = .returned (.int .i64 3) ∧ Sees W w' := by
  obtain ⟨a, c, hp⟩ := h.page.words
  refine Go.Proofs.YthjcnhgfagefjaaDoor.set_range p most gone i a ls.length c v cs soft W ht hp h.most0 hv (by have := lnOk_len hok; omega) hok ?_
  by_cases h0 : i < 0
  · exact .inl (decide_eq_true h0)
  · exact .inr ⟨decide_eq_false h0, decide_eq_true (by omega)⟩
theorem set_bad (h : PgS w1 M W p most gone ls) (ht : Tabs W) (i : Int) (v : Value) (cs : List Cell) (soft : Bool) (hv : RdCells W v cs) (hn : cs.length ≤ 1000000) (hok : lnOk cs = false) :
    Calls Tryd.prog 45 #[.pointer (some ⟨p, 0, none⟩), .int .i64 i, .agg #[v, .bool soft]] W fun e w' => e = .returned (.int .i64 2) ∧ Sees W w' := by
  obtain ⟨a, c, hp⟩ := h.page.words
  exact Go.Proofs.YthjcnhgfagefjaaDoor.set_bad p most gone i a ls.length c v cs soft W ht hp h.most0 hv hn hok
end PgS
/-- Lines that stand in a block. -/
theorem rdl_row {W : World} {F : Nat → Prop} {b cap : Nat} {t : TypeId} (rows : List (Value × Ln)) (hrow : W.heap[b]? = some (.cells (rows.flatMap fun r => [r.1, .bool r.2.soft]).toArray t (0, 0))) (hF : F b) (hc : ∀ r ∈ rows, RdC F W r.1 r.2.cells) :
    RdL F W (.slice (some ⟨b, 0, none⟩) rows.length cap) (rows.map (·.2)) := by
  refine ⟨some ⟨b, 0, none⟩, cap, by simp, fun _ => ⟨b, 0, rfl, hF, fun i l hl => ?_⟩⟩
  have key : ∀ (rows : List (Value × Ln)) (i : Nat) (r : Value × Ln), rows[i]? = some r → (rows.flatMap fun r => [r.1, .bool r.2.soft])[i * 2]? = some r.1 ∧ (rows.flatMap fun r => [r.1, .bool r.2.soft])[i * 2 + 1]? = some (.bool r.2.soft) := by
    intro rows
    induction rows with
    | nil => intro i r h; cases h
    | cons x xs ih =>
      intro i r h
      cases i with
      | zero => cases h; exact ⟨rfl, rfl⟩
      | succ i =>
        have := ih i r (by simpa using h)
        rw [List.flatMap_cons, show (i + 1) * 2 = i * 2 + 2 by omega]
        exact this
  rw [List.getElem?_map] at hl
  cases hr : rows[i]? with
  | none => rw [hr] at hl; cases hl
  | some r =>
    rw [hr] at hl
    cases hl
    obtain ⟨k1, k2⟩ := key rows i r hr
    refine ⟨r.1, ?_, ?_, hc r (List.mem_iff_getElem?.2 ⟨i, hr⟩)⟩
    · rw [cell_of_row _ _ _ _ _ _ hrow, Nat.zero_add, List.getElem?_toArray]; exact k1
    · rw [cell_of_row _ _ _ _ _ _ hrow, Nat.zero_add, List.getElem?_toArray]; exact k2
theorem all_true (F G : Nat → Prop) (v u : Value) (xs ys : List Ln) (w : World) (ha : RdL F w v xs) (hb : RdL G w u ys) (hn : xs.length ≤ 1000000) (hnc : ∀ l ∈ xs, l.cells.length ≤ 1000000) (he : xs = ys) :
    Calls Tryd.prog 36 #[v, u] w fun e w' => e = .returned (.bool true) ∧ Sees w w' := by
  have h := all_any F G v u xs ys w ha hb hn hnc
  rw [decide_eq_true he] at h
  exact h
theorem new_pg (n : Int) (w : World) (h1 : 1 ≤ n) (h2 : n ≤ 1024) :
    Calls Tryd.prog 52 #[.int .i64 n] w fun e w' => e = .returned (.tuple #[.pointer (some ⟨w.heap.size, 0, none⟩), .int .i64 0]) ∧ PgS w w'.heap.size w' w.heap.size n 0 [] := by
  refine (new_ok n w (decide_eq_false (by omega)) (decide_eq_false (by omega))).mono ?_
  rintro e w' ⟨rfl, hp, hs⟩
  exact ⟨rfl, hs, hp.mono (fun b hb h => ⟨h, hb⟩), Nat.le_refl _, by omega, h2, Int.le_refl _, by simp; omega, fun l hl => by cases hl⟩
end Go.Proofs.YthjcnhgfagefjaaDoor
