/- A page with whatever footprint; rows of lines taken apart. No condition. -/
import Derived.Test.YthjcnhgfagefjaaDoorKnown
namespace Go.Proofs.YthjcnhgfagefjaaDoor
set_option linter.unusedVariables false
set_option linter.unusedSimpArgs false
open Go.RowKit

/-- A page whose memory is F, all of it newer than 'w1'. -/
structure PgF (w1 : World) (F : Nat → Prop) (W : World) (p : Nat) (most gone : Int) (ls : List Ln) : Prop where
  see : Sees w1 W
  page : Page F W p most gone ls
  low : ∀ b, F b → w1.heap.size ≤ b
  most0 : 0 < most
  most1 : most ≤ 1024
  gone0 : 0 ≤ gone
  room : gone + ls.length ≤ most
  ok : ∀ l ∈ ls, lnOk l.cells = true
namespace PgF
variable {w1 W W' : World} {F F' G : Nat → Prop} {p : Nat} {most gone : Int} {ls : List Ln}
theorem sees (h : PgF w1 F W p most gone ls) (hs : Sees W W') : PgF w1 F W' p most gone ls :=
  ⟨h.see.trans hs, h.page.sees hs, h.low, h.most0, h.most1, h.gone0, h.room, h.ok⟩
theorem toS (h : PgF w1 F W p most gone ls) : PgS w1 W.heap.size W p most gone ls :=
  ⟨h.see, h.page.mono (fun b hb hF => ⟨h.low b hF, hb⟩), Nat.le_refl _, h.most0, h.most1, h.gone0, h.room, h.ok⟩
theorem mono (h : PgF w1 F W p most gone ls) (hF : ∀ b, b < W.heap.size → F b → F' b) (hl : ∀ b, F' b → w1.heap.size ≤ b) : PgF w1 F' W p most gone ls :=
  ⟨h.see, h.page.mono hF, hl, h.most0, h.most1, h.gone0, h.room, h.ok⟩
/-- Only what is there. -/
theorem cut (h : PgF w1 F W p most gone ls) : PgF w1 (fun b => F b ∧ b < W.heap.size) W p most gone ls := h.mono (fun _ hb h => ⟨h, hb⟩) (fun b hb => h.low b hb.1)
theorem keep (h : PgF w1 F W p most gone ls) (hk : Keeps F W W') : Sees w1 W' :=
  ((Keeps.of_sees (F := F) h.see).trans hk).sees_end (fun b hb hF => by have := h.low b hF; omega)
theorem of_new (n : Int) (h : PgS W W'.heap.size W' p most gone ls) : PgF W (fun b => W.heap.size ≤ b ∧ b < W'.heap.size) W' p most gone ls :=
  ⟨h.see, h.page, fun b hb => hb.1, h.most0, h.most1, h.gone0, h.room, h.ok⟩
theorem push (h : PgF w1 F W p most gone ls) (ht : Tabs W) (v : Value) (cs : List Cell) (soft : Bool) (hv : RdC G W v cs) (hG : ∀ b, G b → ¬ F b) (hok : lnOk cs = true) (hr : gone + ls.length < most) :
    Calls Tryd.prog 53 #[.pointer (some ⟨p, 0, none⟩), .agg #[v, .bool soft]] W fun e w' => e = .returned (.int .i64 0) ∧ PgF w1 (fun b => F b ∨ W.heap.size ≤ b) w' p most gone (ls ++ [⟨cs, soft⟩]) ∧ Keeps F W w' := by
  refine (push_ok F G p most gone ls v cs soft W ht h.page ⟨h.most1, h.gone0, hr⟩ hv hG (by have := lnOk_len hok; omega) hok).mono ?_
  rintro e w' ⟨rfl, hp, hk⟩
  have hs1 := h.see.size
  refine ⟨rfl, ⟨h.keep hk, hp, fun b hb => by rcases hb with hb | hb; exact h.low b hb; omega, h.most0, h.most1, h.gone0, by simp; omega, ?_⟩, hk⟩
  intro l hl
  rcases List.mem_append.1 hl with hl | hl
  · exact h.ok l hl
  · simp at hl; subst hl; exact hok
theorem drop (h : PgF w1 F W p most gone ls) (k : Nat) (hk : k ≤ ls.length) :
    Calls Tryd.prog 58 #[.pointer (some ⟨p, 0, none⟩), .int .i64 k] W fun e w' => e = .returned (.int .i64 0) ∧ PgF w1 (fun b => F b ∨ W.heap.size ≤ b) w' p most (gone + k) (ls.drop k) ∧ Keeps F W w' := by
  have hs1 := h.see.size
  have hr := h.room
  have h0 := h.gone0
  by_cases hlt : k < ls.length
  · refine (drop_some F p most gone ls k W h.page ⟨h.most0, h.most1, h.gone0, h.toS.nogone⟩ hlt h.toS.len).mono ?_
    rintro e w' ⟨rfl, hp, hk2⟩
    exact ⟨rfl, ⟨h.keep hk2, hp, fun b hb => by rcases hb with hb | hb; exact h.low b hb; omega, h.most0, h.most1, by omega, by rw [List.length_drop]; omega, fun l hl => h.ok l (List.mem_of_mem_drop hl)⟩, hk2⟩
  · obtain rfl : k = ls.length := by omega
    refine (drop_all F p most gone ls W h.page ⟨h.most0, h.most1, h.gone0, h.toS.nogone⟩ h.toS.len).mono ?_
    rintro e w' ⟨rfl, hp, hk2⟩
    refine ⟨rfl, ⟨h.keep hk2, ?_, fun b hb => by rcases hb with hb | hb; exact h.low b hb; omega, h.most0, h.most1, by omega, by rw [List.length_drop]; omega, fun l hl => h.ok l (List.mem_of_mem_drop hl)⟩, hk2⟩
    rw [List.drop_length]
    exact hp.mono (fun b hb hF => .inl hF)
theorem pop (l : Ln) (h : PgF w1 F W p most gone (ls ++ [l])) :
    Calls Tryd.prog 57 #[.pointer (some ⟨p, 0, none⟩)] W fun e w' => ∃ v', e = .returned (.tuple #[.agg #[v', .bool l.soft], .int .i64 0]) ∧ OwnCells w' 0 v' l.cells ∧ (∀ g, v'.ownBlock = some g → F g ∧ g < W.heap.size) ∧
      PgF w1 (fun b => F b ∧ v'.ownBlock ≠ some b) w' p most gone ls ∧ Keeps (fun b => b = p) W w' := by
  have hr := h.room
  have hl := h.toS.len
  rw [List.length_append, List.length_cons, List.length_nil] at hr hl
  refine (pop_ok F p most gone ls l W h.page h.most0 (by omega)).mono ?_
  rintro e w' ⟨v', rfl, h1, h2, h3, h4⟩
  have hpF := h.page.1
  exact ⟨v', rfl, h1, h2, ⟨h.keep (h4.mono (fun b _ e => by subst e; exact hpF)), h3, fun b hb => h.low b hb.1, h.most0, h.most1, h.gone0, by omega, fun l hl => h.ok l (List.mem_append_left _ hl)⟩, h4⟩
theorem set (h : PgF w1 F W p most gone ls) (ht : Tabs W) (j : Nat) (hj : j < ls.length) (v : Value) (cs : List Cell) (soft : Bool) (hv : RdC G W v cs) (hG : ∀ b, G b → ¬ F b) (hok : lnOk cs = true) :
    Calls Tryd.prog 45 #[.pointer (some ⟨p, 0, none⟩), .int .i64 j, .agg #[v, .bool soft]] W fun e w' => e = .returned (.int .i64 0) ∧ PgF w1 (fun b => F b ∨ W.heap.size ≤ b) w' p most gone (ls.set j ⟨cs, soft⟩) ∧ Keeps F W w' := by
  refine (set_ok F G p most gone ls j v cs soft W ht h.page h.most0 hj (by have := h.toS.len; omega) hv hG (by have := lnOk_len hok; omega) hok).mono ?_
  rintro e w' ⟨rfl, hp, hk⟩
  have hs1 := h.see.size
  refine ⟨rfl, ⟨h.keep hk, hp, fun b hb => by rcases hb with hb | hb; exact h.low b hb; omega, h.most0, h.most1, h.gone0, by rw [List.length_set]; exact h.room, ?_⟩, hk⟩
  intro l hl
  rcases List.mem_or_eq_of_mem_set hl with hl | rfl
  · exact h.ok l hl
  · exact hok
end PgF

namespace RdL
variable {F : Nat → Prop} {w : World}
/-- Lines taken away at the front. -/
theorem dropAt {b o n cap : Nat} {ls : List Ln} (h : RdL F w (.slice (some ⟨b, o, none⟩) n cap) ls) (k c : Nat) : RdL F w (.slice (some ⟨b, o + k * 2, none⟩) (n - k) c) (ls.drop k) := by
  obtain ⟨ao, cp, e, hh⟩ := h
  cases e
  refine ⟨_, c, by rw [List.length_drop], fun hne => ?_⟩
  obtain ⟨b', o', e2, hF, hl⟩ := hh (by intro e; subst e; exact hne (by simp))
  cases e2
  refine ⟨b, o + k * 2, rfl, hF, fun i l hi => ?_⟩
  rw [List.getElem?_drop] at hi
  have := hl (k + i) l hi
  rw [show o + (k + i) * 2 = o + k * 2 + i * 2 by omega] at this
  exact this
theorem dropNil {v : Value} {ls : List Ln} (h : RdL F w v ls) (k : Nat) (hk : ls.length ≤ k) (ao : Option Addr) (c : Nat) : RdL F w (.slice ao 0 c) (ls.drop k) := by
  rw [List.drop_eq_nil_of_le hk]
  exact ⟨ao, c, rfl, fun h => absurd rfl h⟩
theorem cutAt {ao : Option Addr} {n cap : Nat} {ls : List Ln} (h : RdL F w (.slice ao n cap) ls) (k : Nat) (hk : k ≤ ls.length) (c : Nat) : RdL F w (.slice (Option.map (fun x => x.add (k * 2)) ao) (n - k) c) (ls.drop k) := by
  obtain ⟨ao', cp, e, hh⟩ := h
  cases e
  refine ⟨_, c, by rw [List.length_drop], fun hne => ?_⟩
  obtain ⟨b, o, e2, hF, hl⟩ := hh (by intro e; subst e; exact hne (by simp))
  subst e2
  refine ⟨b, o + k * 2, ?_, hF, fun i l hi => ?_⟩
  · simp only [Option.map_some, Addr.add]
    split
    · rename_i h0; simp [h0]
    · rfl
  · rw [List.getElem?_drop] at hi
    have := hl (k + i) l hi
    rw [show o + (k + i) * 2 = o + k * 2 + i * 2 by omega] at this
    exact this
theorem takeAt {ao : Option Addr} {n cap : Nat} {ls : List Ln} (h : RdL F w (.slice ao n cap) ls) (k : Nat) (hk : k ≤ ls.length) (c : Nat) : RdL F w (.slice ao k c) (ls.take k) := by
  obtain ⟨ao', cp, e, hh⟩ := h
  cases e
  refine ⟨ao, c, by rw [List.length_take, Nat.min_eq_left hk], fun hne => ?_⟩
  obtain ⟨b', o', e2, hF, hl⟩ := hh (by intro e; subst e; exact hne (by simp))
  refine ⟨b', o', e2, hF, fun i l hi => ?_⟩
  rw [List.getElem?_take] at hi
  split at hi
  · exact hl i l hi
  · cases hi
theorem len {ao : Option Addr} {n cap : Nat} {ls : List Ln} (h : RdL F w (.slice ao n cap) ls) : n = ls.length := by
  obtain ⟨_, _, e, _⟩ := h; cases e; rfl
/-- A line more, in new memory: the old ones are copied. -/
theorem two {b cap : Nat} {t : TypeId} {xs : List Value} {ls : List Ln} {v : Value} {soft : Bool} {cs : List Cell} (hrow : ∃ cur, w.heap[b]? = some (.cells cur t (0, 0)) ∧ cur.toList.take ((ls.length + 1) * 2) = xs ++ [v, .bool soft]) (hx : xs.length = ls.length * 2) (hF : F b)
    (hl : ∀ (i : Nat) l, ls[i]? = some l → ∃ sv, xs[i * 2]? = some sv ∧ xs[i * 2 + 1]? = some (.bool l.soft) ∧ RdC F w sv l.cells) (hv : RdC F w v cs) : RdL F w (.slice (some ⟨b, 0, none⟩) (ls.length + 1) cap) (ls ++ [⟨cs, soft⟩]) := by
  obtain ⟨cur, hc, htk⟩ := hrow
  have at_ : ∀ (j : Nat) u, (xs ++ [v, .bool soft])[j]? = some u → w.cell? ⟨b, 0 + j, none⟩ = some u := by
    intro j u hu
    rw [cell_of_row _ _ _ _ _ _ hc, Nat.zero_add]
    have hj := (List.getElem?_eq_some_iff.1 hu).1
    rw [← htk, List.getElem?_take, if_pos (by simp at hj; omega)] at hu
    rw [← hu]; simp
  refine ⟨some ⟨b, 0, none⟩, cap, by simp, fun _ => ⟨b, 0, rfl, hF, fun i l hi => ?_⟩⟩
  by_cases h1 : i < ls.length
  · rw [List.getElem?_append_left h1] at hi
    obtain ⟨sv, e1, e2, e3⟩ := hl i l hi
    refine ⟨sv, at_ _ _ ?_, ?_, e3⟩
    · rw [List.getElem?_append_left (by omega)]; exact e1
    · rw [Nat.add_assoc]; exact at_ _ _ (by rw [List.getElem?_append_left (by omega)]; exact e2)
  · have h2 : i = ls.length := by
      have := (List.getElem?_eq_some_iff.1 hi).1
      simp at this; omega
    subst h2
    rw [List.getElem?_append_right (Nat.le_refl _), Nat.sub_self] at hi
    cases hi
    refine ⟨v, at_ _ _ ?_, ?_, hv⟩
    · rw [List.getElem?_append_right (by omega), hx, Nat.sub_self]; rfl
    · rw [Nat.add_assoc]; exact at_ _ _ (by rw [List.getElem?_append_right (by omega), hx, show ls.length * 2 + 1 - ls.length * 2 = 1 by omega]; rfl)
end RdL

/-- Bytes that came in. -/
def RdBs (w : World) (v : Value) (bs : List Int) : Prop :=
  ∃ ao cap, v = .slice ao bs.length cap ∧ ∀ (i : Nat) z, bs[i]? = some z → ∃ b o, ao = some ⟨b, o, none⟩ ∧ w.cell? ⟨b, o + i, none⟩ = some (.int .u8 z) ∧ 0 ≤ z ∧ z ≤ 255
theorem RdBs.sees {w W : World} {v : Value} {bs : List Int} (h : RdBs w v bs) (hs : Sees w W) : RdBs W v bs := by
  obtain ⟨ao, cap, h1, h2⟩ := h
  refine ⟨ao, cap, h1, fun i z hi => ?_⟩
  obtain ⟨b, o, e1, e2, e3⟩ := h2 i z hi
  exact ⟨b, o, e1, hs.cell e2, e3⟩
end Go.Proofs.YthjcnhgfagefjaaDoor
