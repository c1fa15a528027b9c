/- The reference of layer 8: its pages as rows, and its ring in memory; Next, copy, evict. The reference of layer 8: Next, copy, evict. The reference of layer 8: evict. The reference of layer 8: at, Get, Between, Clear, Limited. No condition. -/
import Derived.Test.YthjcnhgfagefjaaDoorRiU
namespace Go.Proofs.YthjcnhgfagefjaaDoor
set_option linter.unusedVariables false
set_option linter.unusedSimpArgs false
open Go.RowKit

/-- A page of the reference: how many lines are gone, and how many are there. -/
def gpEl : El (Int × Nat) where
  ty := 92
  n := 2
  n0 := by decide
  rel _ _ vs x := vs = [.int .i64 x.1, .int .i64 (x.2 : Int)]
  own _ _ vs x := vs = [.int .i64 x.1, .int .i64 (x.2 : Int)]
  len := by rintro F w vs x rfl; rfl
  one := by rintro F w vs x rfl v hv; simp at hv; rcases hv with rfl | rfl <;> rfl
  keeps h _ _ := h
  mono h _ := h
  own_rel h := h
  own_keeps h _ _ := h
  own_mono h _ := h
theorem typedGp : El.Typed Tryd.prog gpEl 31 := El.typed_of (z := .agg #[.int .i64 0, .int .i64 0]) (bytes := 16) Tryd.underlying31 (by kernel_rfl) rfl (by decide)
theorem gpNe : gpEl.ty ≠ lnEl.ty := by decide

/-- A slice of pages that may be written. -/
def GRow (F : Nat → Prop) (W : World) (v : Value) (g : List (Int × Nat)) : Prop :=
  ∃ a c, v = .slice a g.length c ∧ g.length ≤ c ∧ (g ≠ [] → ∃ b o cur, a = some ⟨b, o, none⟩ ∧ F b ∧ W.heap[b]? = some (.cells cur 92 (0, 0)) ∧
    ∀ (i : Nat) x, g[i]? = some x → cur[o + i * 2]? = some (.int .i64 x.1) ∧ cur[o + i * 2 + 1]? = some (.int .i64 (x.2 : Int)))
theorem GRow.of_row {base : Nat} {G : Nat → Prop} {W : World} {v : Value} {g : List (Int × Nat)} (h : gpEl.Row base G W v g) : GRow (fun b => base ≤ b) W v g := by
  obtain ⟨vals, ⟨hl, hrow⟩, hrel⟩ := h
  rcases hrow with ⟨rfl, h0⟩ | ⟨b, cap, cur, rfl, hb, hg, hc1, hc2, hsz, htk⟩
  · have e : g = [] := List.eq_nil_of_length_eq_zero h0
    subst e
    exact ⟨none, 0, rfl, Nat.le_refl _, fun h => absurd rfl h⟩
  · refine ⟨_, cap, rfl, hc1, fun _ => ⟨b, 0, cur, rfl, hb, hg, fun i x hx => ?_⟩⟩
    have hi := (List.getElem?_eq_some_iff.1 hx).1
    have e : (vals.drop (i * 2)).take 2 = [.int .i64 x.1, .int .i64 (x.2 : Int)] := hrel.2 i x hx
    have hv : ∀ j, j < g.length * 2 → vals[j]? = cur[j]? := fun j hj => by
      rw [← htk, List.getElem?_take, if_pos (show j < g.length * gpEl.n from hj)]; simp
    have e0 : ((vals.drop (i * 2)).take 2)[0]? = some (.int .i64 x.1) := by rw [e]; rfl
    have e1 : ((vals.drop (i * 2)).take 2)[1]? = some (.int .i64 (x.2 : Int)) := by rw [e]; rfl
    rw [List.getElem?_take, if_pos (by omega), List.getElem?_drop] at e0 e1
    rw [hv _ (by omega)] at e0 e1
    exact ⟨by rw [Nat.zero_add]; exact e0, by rw [Nat.zero_add]; exact e1⟩
namespace GRow
variable {F X : Nat → Prop} {W W' : World} {v : Value} {g : List (Int × Nat)}
theorem keeps (h : GRow F W v g) (hk : Keeps X W W') (hd : ∀ b, F b → ¬ X b) : GRow F W' v g := by
  obtain ⟨a, c, e, hc, hh⟩ := h
  refine ⟨a, c, e, hc, fun h0 => ?_⟩
  obtain ⟨b, o, cur, e, hF, hg, hcs⟩ := hh h0
  exact ⟨b, o, cur, e, hF, by rw [hk.block _ (Array.getElem?_eq_some_iff.1 hg).1 (hd b hF)]; exact hg, hcs⟩
theorem sees (h : GRow F W v g) (hs : Sees W W') : GRow F W' v g := h.keeps (Keeps.of_sees (F := fun _ => False) hs) (fun _ _ h => h)
theorem mono (h : GRow F W v g) (hd : ∀ b, b < W.heap.size → F b → X b) : GRow X W v g := by
  obtain ⟨a, c, e, hc, hh⟩ := h
  refine ⟨a, c, e, hc, fun h0 => ?_⟩
  obtain ⟨b, o, cur, e, hF, hg, hcs⟩ := hh h0
  exact ⟨b, o, cur, e, hd b (Array.getElem?_eq_some_iff.1 hg).1 hF, hg, hcs⟩
theorem rd (h : GRow F W v g) : gpEl.Rd F W v g := by
  obtain ⟨a, c, rfl, hc, hh⟩ := h
  refine ⟨a, c, rfl, hc, fun h0 => ?_⟩
  obtain ⟨b, o, cur, rfl, hF, hg, hcs⟩ := hh h0
  refine ⟨b, o, rfl, hF, fun i x hx => ⟨_, rfl, fun j u hu => ?_⟩⟩
  obtain ⟨h1, h2⟩ := hcs i x hx
  rw [cell_of_row _ _ _ _ _ _ hg]
  match j, hu with
  | 0, hu => cases hu; exact h1
  | 1, hu => cases hu; exact h2
theorem slice (h : GRow F W v g) : ∃ a c, v = .slice a g.length c ∧ g.length ≤ c := by obtain ⟨a, c, e, hc, _⟩ := h; exact ⟨a, c, e, hc⟩
/-- A page at a place, and the rows when one of its words is turned. -/
theorem at_ {a : Option Addr} {n c : Nat} (h : GRow F W (.slice a n c) g) {i : Nat} {x : Int × Nat} (hx : g[i]? = some x) : ∃ b o, a = some ⟨b, o, none⟩ ∧ F b ∧ b < W.heap.size ∧ n = g.length ∧ W.cell? ⟨b, o + i * 2, none⟩ = some (.int .i64 x.1) ∧ W.cell? ⟨b, o + i * 2 + 1, none⟩ = some (.int .i64 (x.2 : Int)) ∧ (∀ j, W.frozen? ⟨b, j, none⟩ = false) ∧
    (∀ y : Int, GRow F (W.setCell ⟨b, o + i * 2, none⟩ (.int .i64 y)) (.slice a n c) (g.set i (y, x.2))) ∧ (∀ y : Nat, GRow F (W.setCell ⟨b, o + i * 2 + 1, none⟩ (.int .i64 (y : Int))) (.slice a n c) (g.set i (x.1, y))) := by
  obtain ⟨a, c, e, hc, hh⟩ := h
  cases e
  have hi := (List.getElem?_eq_some_iff.1 hx).1
  obtain ⟨b, o, cur, rfl, hF, hg, hcs⟩ := hh (by intro e; subst e; cases hx)
  obtain ⟨h1, h2⟩ := hcs i x hx
  have s1 := (Array.getElem?_eq_some_iff.1 h1).1
  have s2 := (Array.getElem?_eq_some_iff.1 h2).1
  refine ⟨b, o, rfl, hF, (Array.getElem?_eq_some_iff.1 hg).1, rfl, by rw [cell_of_row _ _ _ _ _ _ hg]; exact h1, by rw [cell_of_row _ _ _ _ _ _ hg]; exact h2, fun j => frozen_of_row _ _ _ _ _ hg, fun y => ?_, fun y => ?_⟩
  · refine ⟨_, c, by rw [List.length_set], by rw [List.length_set]; exact hc, fun _ => ⟨b, o, _, rfl, hF, heap_setCell_same _ _ _ _ _ _ hg, fun j z hz => ?_⟩⟩
    by_cases hij : i = j
    · subst hij
      rw [List.getElem?_set_self hi] at hz
      cases hz
      exact ⟨by rw [Array.getElem?_setIfInBounds_self_of_lt s1], by rw [Array.getElem?_setIfInBounds_ne (by omega)]; exact h2⟩
    · rw [List.getElem?_set_ne hij] at hz
      obtain ⟨k1, k2⟩ := hcs j z hz
      exact ⟨by rw [Array.getElem?_setIfInBounds_ne (by omega)]; exact k1, by rw [Array.getElem?_setIfInBounds_ne (by omega)]; exact k2⟩
  · refine ⟨_, c, by rw [List.length_set], by rw [List.length_set]; exact hc, fun _ => ⟨b, o, _, rfl, hF, heap_setCell_same _ _ _ _ _ _ hg, fun j z hz => ?_⟩⟩
    by_cases hij : i = j
    · subst hij
      rw [List.getElem?_set_self hi] at hz
      cases hz
      exact ⟨by rw [Array.getElem?_setIfInBounds_ne (by omega)]; exact h1, by rw [Array.getElem?_setIfInBounds_self_of_lt s2]⟩
    · rw [List.getElem?_set_ne hij] at hz
      obtain ⟨k1, k2⟩ := hcs j z hz
      exact ⟨by rw [Array.getElem?_setIfInBounds_ne (by omega)]; exact k1, by rw [Array.getElem?_setIfInBounds_ne (by omega)]; exact k2⟩
end GRow
/-- Pages without the first one. -/
theorem gp_from (a : Option Addr) (n c : Nat) (x : Int × Nat) (g : List (Int × Nat)) {F : Nat → Prop} {w : World} (h : GRow F w (.slice a n c) (x :: g)) : ∃ a' c', (∀ W, (Instr.sliceAt 31 (.slice a n c) (some (.int .i64 1)) none none).run Tryd.prog W = .ok (.slice a' g.length c') W) ∧
    ∀ (F : Nat → Prop) (W : World), GRow F W (.slice a n c) (x :: g) → GRow F W (.slice a' g.length c') g := by
  obtain ⟨a, c, e, hc, hh⟩ := h
  cases e
  obtain ⟨b, o, _, rfl, _, _, _⟩ := hh (by simp)
  simp only [List.length_cons] at hc
  have hx : ¬ ((g.length : Int) + 1 < 1) := by omega
  by_cases h : c = 1
  · subst h
    have hg : g = [] := List.eq_nil_of_length_eq_zero (by omega)
    subst hg
    exact ⟨some ⟨b, o, none⟩, 0, fun W => by go_simp, fun F W hr => ⟨_, _, rfl, Nat.le_refl _, fun h => absurd rfl h⟩⟩
  · refine ⟨some ⟨b, o + 1 * 2, none⟩, c - 1, fun W => by go_simp, fun F W hr => ⟨_, _, rfl, by omega, fun _ => ?_⟩⟩
    obtain ⟨a, c, e, _, hh⟩ := hr
    cases e
    obtain ⟨b, o, cur, e, hF, hg, hcs⟩ := hh (by simp)
    cases e
    refine ⟨b, o + 1 * 2, cur, rfl, hF, hg, fun i y hy => ?_⟩
    have := hcs (i + 1) y (by simpa using hy)
    rw [show o + (i + 1) * 2 = o + 1 * 2 + i * 2 by omega] at this
    exact this
/-- The first pages. -/
theorem gp_to (a : Option Addr) (n c : Nat) (g : List (Int × Nat)) (k : Nat) (hk : k ≤ g.length) (h0 : g ≠ []) {F : Nat → Prop} {w : World} (h : GRow F w (.slice a n c) g) : (∀ W, (Instr.sliceAt 31 (.slice a n c) none (some (.int .i64 (k : Int))) none).run Tryd.prog W = .ok (.slice a k c) W) ∧
    ∀ (F : Nat → Prop) (W : World), GRow F W (.slice a n c) g → GRow F W (.slice a k c) (g.take k) := by
  obtain ⟨a, c, e, hc, hh⟩ := h
  cases e
  obtain ⟨b, o, _, rfl, _, _, _⟩ := hh h0
  have hck : ¬ c < k := by omega
  refine ⟨fun W => by go_simp, fun F W hr => ?_⟩
  have hkl : (g.take k).length = k := by rw [List.length_take]; omega
  refine ⟨some ⟨b, o, none⟩, c, by rw [hkl], by omega, fun _ => ?_⟩
  obtain ⟨a, c, e, _, hh⟩ := hr
  cases e
  obtain ⟨b, o, cur, e, hF, hg, hcs⟩ := hh h0
  cases e
  refine ⟨b, o, cur, rfl, hF, hg, fun i y hy => ?_⟩
  rw [List.getElem?_take] at hy
  split at hy
  · exact hcs i y hy
  · cases hy

/-- Lines cut at the front. -/
theorem cut_from {G : Nat → Prop} {w : World} {a : Option Addr} {n c : Nat} {ls : List Ln} (hv : lnEl.Rd G w (.slice a n c) ls) (k : Nat) (hk : k ≤ n) :
    ∃ a2 c2, (∀ W, (Instr.sliceAt 30 (.slice a n c) (some (.int .i64 (k : Int))) none none).run Tryd.prog W = .ok (.slice a2 (n - k) c2) W) ∧ (∀ (F : Nat → Prop) (W : World), lnEl.Rd F W (.slice a n c) ls → lnEl.Rd F W (.slice a2 (n - k) c2) (ls.drop k)) := by
  have hnl := hv.len
  have hvx : n ≤ c := by obtain ⟨_, _, e, h, _⟩ := hv; cases e; omega
  by_cases hls : ls = []
  · subst hls
    obtain rfl : n = 0 := hnl
    obtain rfl : k = 0 := by omega
    cases a with
    | none => exact ⟨none, c, fun W => by go_simp, fun F W _ => El.Rd.empty _ _ _ _⟩
    | some x =>
      by_cases hc0 : c = 0
      · subst hc0
        exact ⟨some x, 0, fun W => by go_simp, fun F W _ => El.Rd.empty _ _ _ _⟩
      · exact ⟨some (x.add 0), c, fun W => by go_simp, fun F W _ => El.Rd.empty _ _ _ _⟩
  · obtain ⟨hsp, hne⟩ := rd_spot hv hls
    obtain ⟨a', h1, h2⟩ := lns_from a n c k hk hvx hsp (fun h => absurd h hne)
    exact ⟨a', _, h1, fun F W h => h2 F W ls h⟩
/-- Lines cut at the end. -/
theorem cut_to {G : Nat → Prop} {w : World} {a : Option Addr} {n c : Nat} {ls : List Ln} (hv : lnEl.Rd G w (.slice a n c) ls) (k : Nat) (hk : k ≤ n) :
    (∀ W, (Instr.sliceAt 30 (.slice a n c) none (some (.int .i64 (k : Int))) none).run Tryd.prog W = .ok (.slice a k c) W) ∧ (∀ (F : Nat → Prop) (W : World), lnEl.Rd F W (.slice a n c) ls → lnEl.Rd F W (.slice a k c) (ls.take k)) := by
  have hnl := hv.len
  have hvx : n ≤ c := by obtain ⟨_, _, e, h, _⟩ := hv; cases e; omega
  by_cases hls : ls = []
  · subst hls
    obtain rfl : n = 0 := hnl
    obtain rfl : k = 0 := by omega
    have hc : ¬ ((c : Int) < 0) := by omega
    refine ⟨fun W => ?_, fun F W _ => El.Rd.empty _ _ _ _⟩
    cases a <;> go_simp
  · obtain ⟨hsp, _⟩ := rd_spot hv hls
    obtain ⟨h1, h2⟩ := lns_to a n c k hk hvx hsp
    exact ⟨h1, fun F W h => h2 F W ls h⟩


/-- The reference's ring in memory. -/
def RrAt (W : World) (b : Nat) (m p f : Int) (vl vp : Value) : Prop := W.heap[b]? = some (.cells #[.int .i64 m, .int .i64 p, .int .i64 f, vl, vp] 33 (0, 0))
/-- The reference's ring as a value. -/
abbrev rrV (m p f : Int) (vl vp : Value) : Value := .agg #[.int .i64 m, .int .i64 p, .int .i64 f, vl, vp]
namespace RrAt
variable {W W' : World} {b : Nat} {m p f : Int} {vl vp : Value}
theorem lt (h : RrAt W b m p f vl vp) : b < W.heap.size := (Array.getElem?_eq_some_iff.1 h).1
theorem sees (h : RrAt W b m p f vl vp) (hs : Sees W W') : RrAt W' b m p f vl vp := by
  unfold RrAt; rw [hs.block _ (Array.getElem?_eq_some_iff.1 h).1]; exact h
theorem keeps {F : Nat → Prop} (h : RrAt W b m p f vl vp) (hk : Keeps F W W') (hF : ¬ F b) : RrAt W' b m p f vl vp := by
  unfold RrAt; rw [hk.block _ (Array.getElem?_eq_some_iff.1 h).1 hF]; exact h
theorem new {n : Nat} (hn : n = W.heap.size) : RrAt (W.alloc (.cells #[.int .i64 m, .int .i64 p, .int .i64 f, vl, vp] 33)) n m p f vl vp := by subst hn; exact heap_alloc_new W _
theorem alloc (h : RrAt W b m p f vl vp) (o : Obj) : RrAt (W.alloc o) b m p f vl vp := h.sees ((Sees.refl W).alloc o)
theorem c (h : RrAt W b m p f vl vp) : W.cell? ⟨b, 0, none⟩ = some (.int .i64 m) ∧ W.cell? ⟨b, 1, none⟩ = some (.int .i64 p) ∧ W.cell? ⟨b, 2, none⟩ = some (.int .i64 f) ∧ W.cell? ⟨b, 3, none⟩ = some vl ∧ W.cell? ⟨b, 4, none⟩ = some vp := by
  rw [cell_of_row _ _ _ _ _ _ h, cell_of_row _ _ _ _ _ _ h, cell_of_row _ _ _ _ _ _ h, cell_of_row _ _ _ _ _ _ h, cell_of_row _ _ _ _ _ _ h]; exact ⟨rfl, rfl, rfl, rfl, rfl⟩
theorem fr (h : RrAt W b m p f vl vp) : ∀ i, W.frozen? ⟨b, i, none⟩ = false := fun i => frozen_of_row W b i _ _ h
theorem set0 (h : RrAt W b m p f vl vp) (x : Int) : RrAt (W.setCell ⟨b, 0, none⟩ (.int .i64 x)) b x p f vl vp := heap_setCell_same W b 0 _ _ _ h
theorem set2 (h : RrAt W b m p f vl vp) (x : Int) : RrAt (W.setCell ⟨b, 2, none⟩ (.int .i64 x)) b m p x vl vp := heap_setCell_same W b 2 _ _ _ h
theorem set3 (h : RrAt W b m p f vl vp) (x : Value) : RrAt (W.setCell ⟨b, 3, none⟩ x) b m p f x vp := heap_setCell_same W b 3 _ _ _ h
theorem set4 (h : RrAt W b m p f vl vp) (x : Value) : RrAt (W.setCell ⟨b, 4, none⟩ x) b m p f vl x := heap_setCell_same W b 4 _ _ _ h
theorem set5 (h : RrAt W b m p f vl vp) (m' p' f' : Int) (vl' vp' : Value) : RrAt (((((W.setCell ⟨b, 0, none⟩ (.int .i64 m')).setCell ⟨b, 1, none⟩ (.int .i64 p')).setCell ⟨b, 2, none⟩ (.int .i64 f')).setCell ⟨b, 3, none⟩ vl').setCell ⟨b, 4, none⟩ vp') b m' p' f' vl' vp' :=
  heap_setCell_same _ _ _ _ _ _ (heap_setCell_same _ _ _ _ _ _ (heap_setCell_same _ _ _ _ _ _ (heap_setCell_same _ _ _ _ _ _ (heap_setCell_same _ _ _ _ _ _ h))))
end RrAt
/-- What is kept by five stores into one block. -/
theorem keeps5 (W : World) (b : Nat) (x0 x1 x2 x3 x4 : Value) : Keeps (fun c => c = b) W (((((W.setCell ⟨b, 0, none⟩ x0).setCell ⟨b, 1, none⟩ x1).setCell ⟨b, 2, none⟩ x2).setCell ⟨b, 3, none⟩ x3).setCell ⟨b, 4, none⟩ x4) :=
  (((((Keeps.refl (fun c => c = b) W).setCell (p := ⟨b, 0, none⟩) (fun _ => rfl) _).setCell (p := ⟨b, 1, none⟩) (fun _ => rfl) _).setCell (p := ⟨b, 2, none⟩) (fun _ => rfl) _).setCell (p := ⟨b, 3, none⟩) (fun _ => rfl) _).setCell (p := ⟨b, 4, none⟩) (fun _ => rfl) _
theorem keeps2 (W : World) (b : Nat) (x0 x1 : Value) : Keeps (fun c => c = b) W ((W.setCell ⟨b, 0, none⟩ x0).setCell ⟨b, 1, none⟩ x1) :=
  ((Keeps.refl (fun c => c = b) W).setCell (p := ⟨b, 0, none⟩) (fun _ => rfl) _).setCell (p := ⟨b, 1, none⟩) (fun _ => rfl) _
/-- The reference's ring is stored into its variable. -/
theorem RrAt.store {W : World} {b : Nat} {m p f : Int} {vl vp : Value} (h : RrAt W b m p f vl vp) (m' p' f' : Int) (a : Option Addr) (n c : Nat) (ap : Option Addr) (np cp : Nat) :
    ∃ W9, (Instr.storeAt 33 (.pointer (some ⟨b, 0, none⟩)) (rrV m' p' f' (.slice a n c) (.slice ap np cp))).run Tryd.prog W = .ok () W9 ∧ Keeps (fun x => x = b) W W9 ∧ RrAt W9 b m' p' f' (.slice a n c) (.slice ap np cp) :=
  ⟨W.setRow b #[.int .i64 m', .int .i64 p', .int .i64 f', .slice a n c, .slice ap np cp], run_storeAt_row (P := Tryd.prog) (W := W) 33 b _ 33 [.int .i64 m', .int .i64 p', .int .i64 f', .slice a n c, .slice ap np cp] (fun _ => by kernel_rfl) h rfl (by intro v hv; simp only [List.mem_cons, List.not_mem_nil, or_false] at hv; rcases hv with rfl | rfl | rfl | rfl | rfl <;> rfl),
    ⟨rfl, rfl, rfl, by simp [World.setRow], fun c hc hne => setRow_other W _ c _ hne⟩, setRow_heap _ _ _ _ _ (0, 0) h⟩
theorem keeps1 (W : World) (b i : Nat) (x : Value) : Keeps (fun c => c = b) W (W.setCell ⟨b, i, none⟩ x) := (Keeps.refl (fun c => c = b) W).setCell (p := ⟨b, i, none⟩) (fun _ => rfl) _
/-- What may be told apart: a ring of the reference is read. -/
structure RrRd (G : Nat → Prop) (W : World) (vl vp : Value) (ls : List Ln) (g : List (Int × Nat)) : Prop where
  l : lnEl.Rd G W vl ls
  p : gpEl.Rd G W vp g
theorem RrRd.sees {G : Nat → Prop} {W W' : World} {vl vp : Value} {ls : List Ln} {g : List (Int × Nat)} (h : RrRd G W vl vp ls g) (hs : Sees W W') : RrRd G W' vl vp ls g := ⟨h.l.sees hs, h.p.sees hs⟩
theorem RrRd.keeps {G F : Nat → Prop} {W W' : World} {vl vp : Value} {ls : List Ln} {g : List (Int × Nat)} (h : RrRd G W vl vp ls g) (hk : Keeps F W W') (hd : ∀ b, G b → ¬ F b) : RrRd G W' vl vp ls g := ⟨h.l.keeps hk hd, h.p.keeps hk hd⟩
theorem RrRd.mono {G F : Nat → Prop} {W : World} {vl vp : Value} {ls : List Ln} {g : List (Int × Nat)} (h : RrRd G W vl vp ls g) (hd : ∀ b, b < W.heap.size → G b → F b) : RrRd F W vl vp ls g := ⟨h.l.mono hd, h.p.mono hd⟩
/-- What is read, with what is new. -/
abbrev wid (G : Nat → Prop) (w : World) : Nat → Prop := fun b => (G b ∧ b < w.heap.size) ∨ w.heap.size ≤ b

/-- Pages that may be there. -/
def GOk (g : List (Int × Nat)) : Prop := ∀ q ∈ g, 1 ≤ q.2 ∧ 0 ≤ q.1 ∧ q.1 + q.2 ≤ 1024
theorem GOk.tail {x : Int × Nat} {g : List (Int × Nat)} (h : GOk (x :: g)) : GOk g := fun q hq => h q (List.mem_cons_of_mem _ hq)
theorem GOk.dropG : ∀ {g : List (Int × Nat)} (k : Nat), GOk g → GOk (dropG k g)
  | [], k, h => by simpa [Go.Proofs.YthjcnhgfagefjaaDoor.dropG] using h
  | p :: ps, k, h => by
    have ih := GOk.dropG (g := ps) (k - p.2) h.tail
    have hp := h p (List.mem_cons_self ..)
    unfold Go.Proofs.YthjcnhgfagefjaaDoor.dropG
    split
    · exact h
    · split
      · intro q hq
        rcases List.mem_cons.1 hq with rfl | hq
        · exact ⟨by simp only []; omega, by simp only []; omega, by simp only []; omega⟩
        · exact h q (List.mem_cons_of_mem _ hq)
      · exact ih
theorem sumG_cons (p : Int × Nat) (g : List (Int × Nat)) : sumG (p :: g) = p.2 + sumG g := rfl
theorem sumG_dropG : ∀ (g : List (Int × Nat)) (k : Nat), sumG (dropG k g) = sumG g - k
  | [], k => by simp [dropG, sumG]
  | p :: ps, k => by
    have ih := sumG_dropG ps (k - p.2)
    unfold dropG
    rw [sumG_cons]
    split
    · rename_i h; subst h; rw [sumG_cons]; omega
    · split
      · rw [sumG_cons]; simp only []; omega
      · rw [ih]; omega
/-- One line less. -/
def stepG : List (Int × Nat) → List (Int × Nat)
  | [] => []
  | x :: g => if x.2 ≤ 1 then g else (x.1 + 1, x.2 - 1) :: g
theorem dropG_succ : ∀ (g : List (Int × Nat)) (k : Nat), GOk g → dropG (k + 1) g = stepG (dropG k g)
  | [], k, _ => by simp [dropG, stepG]
  | p :: ps, k, h => by
    have hp := h p (List.mem_cons_self ..)
    have ih := dropG_succ ps (k - p.2) h.tail
    rcases Nat.lt_trichotomy (k + 1) p.2 with h1 | h1 | h1
    · have e1 : dropG (k + 1) (p :: ps) = (p.1 + ((k + 1 : Nat) : Int), p.2 - (k + 1)) :: ps := by unfold dropG; rw [if_neg (by omega), if_pos h1]
      have e2 : dropG k (p :: ps) = (p.1 + (k : Int), p.2 - k) :: ps := by
        unfold dropG
        split
        · rename_i h; subst h; simp
        · rw [if_pos (by omega)]
      rw [e1, e2, stepG]
      simp only []
      rw [if_neg (by omega)]
      congr 1
      refine Prod.ext (by simp only []; omega) (by simp only []; omega)
    · have e1 : dropG (k + 1) (p :: ps) = ps := by unfold dropG; rw [if_neg (by omega), if_neg (by omega), h1, Nat.sub_self]; exact dropG_zero ps
      have e2 : dropG k (p :: ps) = (p.1 + (k : Int), p.2 - k) :: ps := by
        unfold dropG
        split
        · rename_i h; subst h; simp
        · rw [if_pos (by omega)]
      rw [e1, e2, stepG]
      simp only []
      rw [if_pos (by omega)]
    · have e1 : dropG (k + 1) (p :: ps) = dropG (k - p.2 + 1) ps := by
        rw [show k - p.2 + 1 = k + 1 - p.2 by omega]
        conv => lhs; unfold dropG
        rw [if_neg (by omega), if_neg (by omega)]
      have e2 : dropG k (p :: ps) = dropG (k - p.2) ps := by
        conv => lhs; unfold dropG
        rw [if_neg (by omega), if_neg (by omega)]
      rw [e1, e2, ih]
theorem GOk.pushG {page : Int} (h1 : 1 ≤ page) (h2 : page ≤ 1024) : ∀ {g : List (Int × Nat)}, GOk g → (∀ q ∈ g, q.1 + q.2 ≤ page) → GOk (pushG page g)
  | [], _, _ => by
    intro q hq
    simp [Go.Proofs.YthjcnhgfagefjaaDoor.pushG] at hq
    subst hq
    exact ⟨by simp, by simp, by simp⟩
  | [x], h, hp => by
    have hx := h x (by simp)
    have hpx := hp x (by simp)
    unfold Go.Proofs.YthjcnhgfagefjaaDoor.pushG
    split
    · intro q hq
      simp at hq
      rcases hq with rfl | rfl
      · exact hx
      · exact ⟨by simp, by simp, by simp⟩
    · rename_i hne
      intro q hq
      simp at hq
      subst hq
      exact ⟨by simp only []; omega, by simp only []; omega, by simp only []; omega⟩
  | x :: y :: g, h, hp => by
    have ih := GOk.pushG h1 h2 (g := y :: g) h.tail (fun q hq => hp q (List.mem_cons_of_mem _ hq))
    unfold Go.Proofs.YthjcnhgfagefjaaDoor.pushG
    intro q hq
    rcases List.mem_cons.1 hq with rfl | hq
    · exact h q (List.mem_cons_self ..)
    · exact ih q hq
/-- The pages of a ring. -/
theorem RgF.gok {w1 W : World} {F : Nat → Prop} {r : Nat} {most page first : Int} {ls : List Ln} {g : List (Int × Nat)} (h : RgF w1 F W r most page first ls g) : GOk g ∧ (∀ q ∈ g, q.1 + q.2 ≤ page) ∧ sumG g = ls.length := by
  obtain ⟨d, hm, hd, _⟩ := h
  have hs := sum_gl d.ps
  rw [hd.gl, hd.lines] at hs
  have key : ∀ q ∈ g, 1 ≤ q.2 ∧ 0 ≤ q.1 ∧ q.1 + q.2 ≤ page ∧ page ≤ 1024 := by
    intro q hq
    rw [← hd.gl] at hq
    obtain ⟨x, hx, rfl⟩ := List.mem_map.1 hq
    obtain ⟨h1, h2⟩ := hd.ok.pgs x hx
    have h3 := h1.gone0
    have h4 := h1.room
    have h5 := hd.ok.page1
    have h6 : 1 ≤ x.ls.length := by cases hh : x.ls with | nil => exact absurd hh h2 | cons _ _ => simp
    rw [hd.page] at h4 h5
    exact ⟨h6, h3, h4, h5⟩
  exact ⟨fun q hq => ⟨(key q hq).1, (key q hq).2.1, by have := (key q hq).2.2; omega⟩, fun q hq => (key q hq).2.2.1, hs⟩
end Go.Proofs.YthjcnhgfagefjaaDoor

namespace Go.Proofs.YthjcnhgfagefjaaDoor
set_option linter.unusedVariables false
set_option linter.unusedSimpArgs false
open Go.RowKit

theorem gpRow_any {base : Nat} {G G' : Nat → Prop} {W : World} {v : Value} {g : List (Int × Nat)} (h : gpEl.Row base G W v g) : gpEl.Row base G' W v g := by
  obtain ⟨vals, h1, h2, h3⟩ := h
  exact ⟨vals, h1, h2, fun i x hx => h3 i x hx⟩
theorem refNext08 (m p f k : Int) (a ap : Option Addr) (n c np cp : Nat) (w : World) (h0 : 0 ≤ f) (h1 : f ≤ 2000000000) (h2 : n ≤ 1000000000) (hk : k = f + n) :
    Calls Tryd.prog 26 #[rrV m p f (.slice a n c) (.slice ap np cp)] w fun e w' => e = .returned (.int .i64 k) ∧ Sees w w' := by
  have hw := Sees.refl w
  have g0 : IntKind.i64.wrap (f + (n : Int)) = k := by rw [hk]; exact IntWalk.i64_in _ (by omega)
  clear h0 h1 h2 hk
  go_enter Tryd.func26, Tryd.ntmps26
  go_wp2
  go_ret
  exact ⟨by simp, hw.alloc _⟩

set_option maxRecDepth 100000 in
set_option maxHeartbeats 2000000 in
theorem refCopy08 (G : Nat → Prop) (m p f : Int) (vl vp : Value) (ls : List Ln) (g : List (Int × Nat)) (w : World) (hl : ls.length ≤ 10000000) (hg : g.length ≤ 10000000) (h : RrRd G w vl vp ls g) :
    Calls Tryd.prog 47 #[rrV m p f vl vp] w fun e w' => ∃ vl' vp' M, e = .returned (rrV m p f vl' vp') ∧ lnEl.Row w.heap.size (fun b => G b ∧ b < w.heap.size) w' vl' ls ∧ w.heap.size ≤ M ∧ (∀ b, vl'.ownBlock = some b → b < M) ∧ gpEl.Row M G w' vp' g ∧ M ≤ w'.heap.size ∧ Sees w w' := by
  obtain ⟨a, c, rfl, _⟩ := h.l.slice'
  obtain ⟨ap, cp, rfl, _⟩ := h.p.slice'
  have HL := Lib.hid (h.l.mono (G := fun b => G b ∧ b < w.heap.size) (fun b hb h => ⟨h, hb⟩))
  have HP := Lib.hid h.p
  obtain ⟨n, hn⟩ : ∃ n, n = ls.length := ⟨_, rfl⟩
  obtain ⟨np, hnp⟩ : ∃ np, np = g.length := ⟨_, rfl⟩
  rw [← hn] at HL hl ⊢
  rw [← hnp] at HP hg ⊢
  have Hn := Lib.hid hn
  have Hnp := Lib.hid hnp
  have HlL : Hid (([] : List Ln).length + ls.length ≤ 100000000) := Lib.hid (by rw [List.length_nil, ← hn]; omega)
  have HgL : Hid (([] : List (Int × Nat)).length + g.length ≤ 100000000) := Lib.hid (by rw [List.length_nil, ← hnp]; omega)
  clear h hn hnp
  go_enter Tryd.func47, Tryd.ntmps47
  go_upto_region 1 with fail
  refine wp_world (fun w1 hw1 => ?_)
  have A1 : RrAt w1 w.heap.size m p f (.slice a n c) (.slice ap np cp) := by subst hw1; exact (RrAt.new rfl).alloc _
  have A2 : RrAt w1 (w.heap.size + 1) 0 0 0 (.slice none 0 0) (.slice none 0 0) := by subst hw1; exact RrAt.new (by simp)
  have S1 : Sees w w1 := by subst hw1; exact ((Sees.refl w).alloc _).alloc _
  have hz1 : w1.heap.size = w.heap.size + 2 := by subst hw1; simp
  clear hw1
  obtain ⟨x0, x1, x2, x3, x4⟩ := A1.c
  have fx := A1.fr
  have HA1 := Lib.hid A1
  have HA2 := Lib.hid A2
  have HS1 := Lib.hid S1
  have HZ1 := Lib.hid hz1
  clear A1 A2 S1 hz1
  go_upto_region 2 with (at_builtin; refine El.wpList_append_row (G := fun b => G b ∧ b < w.heap.size) (base := w1.heap.size) typedLn rfl (.const (.slice none 0 0)) (.tmp 4) rfl (by go_simp) (El.Row.nil _ _ _) (.slice a n c) (by go_simp) ls (HL.out.sees HS1.out) (fun _ _ e => by cases e) HlL.out (Nat.le_refl _) ?_; intro v2 w2 hr2 hk2 _; rw [List.nil_append] at hr2; obtain ⟨a2, c2, hv2, _⟩ := hr2.slice; rw [← Hn.out] at hv2; subst hv2; have HR2 := Lib.hid hr2; have HS2 := Lib.hid (hk2.sees_end (fun b hb e => by cases e)); have HA12 := Lib.hid (HA1.out.sees HS2.out); have HA22 := Lib.hid (HA2.out.sees HS2.out); clear hr2 hk2 x0 x1 x2 x3 x4 fx; obtain ⟨x0, x1, x2, x3, x4⟩ := HA12.out.c; have fx := HA12.out.fr)
  refine wp_world (fun w3 hw3 => ?_)
  have B1 : RrAt w3 w.heap.size m p f (.slice a2 n c2) (.slice ap np cp) := by subst hw3; exact HA12.out.set3 _
  have K3 : Keeps (fun b => b = w.heap.size) w2 w3 := by subst hw3; exact keeps1 _ _ _ _
  clear hw3 x0 x1 x2 x3 x4 fx
  have hz2 := HS2.out.size
  have hz3 := K3.size
  have hz1 := HZ1.out
  have B2 := Lib.hid (HA22.out.keeps K3 (by omega))
  have R3 := Lib.hid (HR2.out.keeps K3 (fun b hb e => by have := (HR2.out.base_le hb).1; omega) (fun b hb e => by have := hb.2; omega))
  have K03 : Hid (Sees w w3) := Lib.hid (((Keeps.of_sees (F := fun _ => False) (HS1.out.trans HS2.out)).trans' K3 (fun b hb e => by omega)).sees_end (fun _ _ h => h))
  have P3 := Lib.hid (HP.out.sees K03.out)
  have HM : Hid (∀ b, Value.ownBlock (.slice a2 n c2) = some b → b < w3.heap.size) := Lib.hid (fun b hb => by have := (HR2.out.base_le hb).2; omega)
  have hM := Lib.hid (show w.heap.size + 2 ≤ w3.heap.size by omega)
  have HB1 := Lib.hid B1
  obtain ⟨x0, x1, x2, x3, x4⟩ := B1.c
  have fx := B1.fr
  clear B1 K3 HA1 HA2 HS1 HR2 HS2 HA12 HA22 hz1 hz2 hz3
  go_upto_region 3 with (at_builtin; refine El.wpList_append_row (G := G) (base := w3.heap.size) typedGp rfl (.const (.slice none 0 0)) (.tmp 8) rfl (by go_simp) (El.Row.nil _ _ _) (.slice ap np cp) (by go_simp) g P3.out (fun _ _ e => by cases e) HgL.out (Nat.le_refl _) ?_; intro v4 w4 hr4 hk4 _; rw [List.nil_append] at hr4; obtain ⟨a4, c4, hv4, _⟩ := hr4.slice; rw [← Hnp.out] at hv4; subst hv4; have HR4 := Lib.hid hr4; have HS4 := Lib.hid (hk4.sees_end (fun b hb e => by cases e)); have HB14 := Lib.hid (HB1.out.sees HS4.out); clear hr4 hk4 x0 x1 x2 x3 x4 fx; obtain ⟨x0, x1, x2, x3, x4⟩ := HB14.out.c; have fx := HB14.out.fr)
  refine wp_world (fun w5 hw5 => ?_)
  have C1 : RrAt w5 w.heap.size m p f (.slice a2 n c2) (.slice a4 np c4) := by subst hw5; exact HB14.out.set4 _
  have K5 : Keeps (fun b => b = w.heap.size) w4 w5 := by subst hw5; exact keeps1 _ _ _ _
  clear hw5 x0 x1 x2 x3 x4 fx
  have C2 := (B2.out.sees HS4.out).keeps K5 (by omega)
  have R5 := Lib.hid ((R3.out.sees HS4.out).keeps K5 (fun b hb e => by have := (R3.out.base_le hb).1; have := HZ1.out; have := hM.out; have e : b = w.heap.size := e; subst e; omega) (fun b hb e => by have := hb.2; omega))
  have G5 := Lib.hid ((gpRow_any (G' := fun _ => False) HR4.out).keeps K5 (fun b hb e => by have := (HR4.out.base_le hb).1; have := hM.out; omega) (fun b hb => hb.elim))
  have HZ5 := Lib.hid (show w3.heap.size ≤ w5.heap.size by have := HS4.out.size; have := K5.size; omega)
  have K05 : Hid (Sees w w5) := Lib.hid (((Keeps.of_sees (F := fun _ => False) (K03.out.trans HS4.out)).trans' K5 (fun b hb e => by omega)).sees_end (fun _ _ h => h))
  obtain ⟨x0, x1, x2, x3, x4⟩ := C1.c
  have fy := C2.fr
  obtain ⟨y0, y1, y2, y3, y4⟩ := C2.c
  have HC2 := Lib.hid C2
  clear C1 C2 K5 HB1 HB14 B2 HR4 HS4 P3 K03
  go_wp2_with fail
  have E := HC2.out.set5 m p f (.slice a2 n c2) (.slice a4 np c4)
  obtain ⟨z0, z1, z2, z3, z4⟩ := E.c
  have KE := keeps5 w5 (w.heap.size + 1) (.int .i64 m) (.int .i64 p) (.int .i64 f) (.slice a2 n c2) (.slice a4 np c4)
  refine bodyPost_ret_by (v := rrV m p f (.slice a2 n c2) (.slice a4 np c4)) (by simp [results, Tryd.results47, go_sem, z0, z1, z2, z3, z4]) rfl ⟨_, _, w3.heap.size, rfl, ?_, by have := hM.out; omega, HM.out, ?_, by have := HZ5.out; have := KE.size; omega, ?_⟩
  · exact (R5.out.keeps KE (fun b hb e => by have := (R5.out.base_le hb).1; have := HZ1.out; have := hM.out; have e : b = w.heap.size + 1 := e; subst e; omega) (fun b hb e => by have := hb.2; omega)).mono (fun b _ h => h) (by have := HZ1.out; omega)
  · exact gpRow_any (G5.out.keeps KE (fun b hb e => by have := (G5.out.base_le hb).1; have := hM.out; have e : b = w.heap.size + 1 := e; subst e; omega) (fun b hb => hb.elim))
  · exact ((Keeps.of_sees (F := fun _ => False) K05.out).trans' KE (fun b hb e => by omega)).sees_end (fun _ _ h => h)
end Go.Proofs.YthjcnhgfagefjaaDoor

namespace Go.Proofs.YthjcnhgfagefjaaDoor
set_option linter.unusedVariables false
set_option linter.unusedSimpArgs false
open Go.RowKit

/-- What stands before a round of evict. -/
structure EvI (w : World) (G : Nat → Prop) (m p f : Int) (ls : List Ln) (g : List (Int × Nat)) (n M : Nat) (j : Nat) (al : Option Addr) (cl : Nat) (ap : Option Addr) (np cp : Nat) (W : World) : Prop where
  box : RrAt W w.heap.size m p (f + j) (.slice al (n - j) cl) (.slice ap np cp)
  out : RrAt W (w.heap.size + 1) 0 0 0 (.slice none 0 0) (.slice none 0 0)
  l : lnEl.Rd (fun b => (G b ∧ b < w.heap.size) ∨ (w.heap.size + 2 ≤ b ∧ b < M)) W (.slice al (n - j) cl) (ls.drop j)
  p : GRow (fun b => M ≤ b) W (.slice ap np cp) (dropG j g)
  s : Sees w W
/-- The first line's number in a ring of the reference (a loop's measure). -/
def rrFirst (W : World) (b : Nat) : Int := match W.cell? ⟨b, 2, none⟩ with | some v => intOf v | none => 0
theorem RrAt.first {W : World} {b : Nat} {m p f : Int} {vl vp : Value} (h : RrAt W b m p f vl vp) : rrFirst W b = f := by unfold rrFirst; rw [h.c.2.2.1]; rfl

theorem dropG_head {g : List (Int × Nat)} {k : Nat} (hg : GOk g) (hk : k < sumG g) : ∃ x t, dropG k g = x :: t ∧ 1 ≤ x.2 ∧ 0 ≤ x.1 ∧ x.1 + x.2 ≤ 1024 := by
  have h1 := sumG_dropG g k
  have h2 := hg.dropG k
  cases e : dropG k g with
  | nil => rw [e, show sumG ([] : List (Int × Nat)) = 0 from rfl] at h1; omega
  | cons x t =>
    rw [e] at h2
    have := h2 x (List.mem_cons_self ..)
    exact ⟨x, t, rfl, this.1, this.2.1, this.2.2⟩

set_option maxRecDepth 100000 in
set_option maxHeartbeats 4000000 in
theorem refEvict08 (G : Nat → Prop) (m p f : Int) (vl vp : Value) (ls : List Ln) (g : List (Int × Nat)) (w : World) (h0 : 0 ≤ m) (h1 : m ≤ 1048576) (hf : 0 ≤ f) (hf1 : f ≤ 1000000001) (hl : ls.length ≤ 10000000) (hg : GOk g) (hs : sumG g = ls.length) (hgl : g.length ≤ 10000000) (h : RrRd G w vl vp ls g) (k : Nat) (hk : k = ls.length - m.toNat) :
    Calls Tryd.prog 48 #[rrV m p f vl vp] w fun e w' => ∃ vl' vp', e = .returned (rrV m p (f + k) vl' vp') ∧ RrRd (wid G w) w' vl' vp' (ls.drop k) (dropG k g) ∧ Sees w w' := by
  obtain ⟨a, c, rfl, _⟩ := h.l.slice'
  obtain ⟨ap, cp, rfl, _⟩ := h.p.slice'
  have H := Lib.hid (h.mono (F := fun b => G b ∧ b < w.heap.size) (fun b hb h => ⟨h, hb⟩))
  obtain ⟨n, hn⟩ : ∃ n, n = ls.length := ⟨_, rfl⟩
  obtain ⟨np, hnp⟩ : ∃ np, np = g.length := ⟨_, rfl⟩
  rw [← hn] at H hk hs ⊢
  rw [← hnp] at H ⊢
  have Hn := Lib.hid hn
  have Hnp := Lib.hid hnp
  have Hg := Lib.hid hg
  have Hs := Lib.hid hs
  have Hl := Lib.hid hl
  have Hgl := Lib.hid hgl
  have hn1 : n ≤ 10000000 := by omega
  clear h hn hnp hg hs hl hgl
  go_enter Tryd.func48, Tryd.ntmps48
  go_wp2_with fail
  refine calls_world (fun w1 hw1 => ?_)
  have A1 : RrAt w1 w.heap.size m p f (.slice a n c) (.slice ap np cp) := by subst hw1; exact (RrAt.new rfl).alloc _
  have A2 : RrAt w1 (w.heap.size + 1) 0 0 0 (.slice none 0 0) (.slice none 0 0) := by subst hw1; exact RrAt.new (by simp)
  have S1 : Sees w w1 := by subst hw1; exact ((Sees.refl w).alloc _).alloc _
  have hz1 : w1.heap.size = w.heap.size + 2 := by subst hw1; simp
  clear hw1
  refine (refCopy08 (fun b => G b ∧ b < w.heap.size) m p f _ _ ls g w1 Hl.out Hgl.out (H.out.sees S1)).mono ?_
  rintro e w2 ⟨vl2, vp2, M, rfl, hr, hM, hMl, hgr0, _, hs2⟩
  have hgr := GRow.of_row hgr0
  clear hgr0
  obtain ⟨a2, c2, rfl, _⟩ := hr.slice
  obtain ⟨ap2, cp2, rfl, _⟩ := hgr.slice
  rw [← Hn.out] at hr ⊢
  rw [← Hnp.out] at hgr ⊢
  have B1 := A1.sees hs2
  have HB1 := Lib.hid B1
  have HB2 := Lib.hid (A2.sees hs2)
  have HR : Hid (lnEl.Rd (fun b => (G b ∧ b < w.heap.size) ∨ (w.heap.size + 2 ≤ b ∧ b < M)) w2 (.slice a2 n c2) ls) := Lib.hid (by
    obtain ⟨vals, r1, r2⟩ := hr
    have hb := fun g (hg : Value.ownBlock (.slice a2 n c2) = some g) => (El.rowLt r1 hg).1
    rw [Hn.out] at hb r1 ⊢
    exact El.rowRd r1 (fun g hg => .inr ⟨by have := hb g hg; omega, hMl g hg⟩) (r2.mono (fun b _ h => .inl h.1)))
  have HGR := Lib.hid hgr
  have HM := Lib.hid (show w.heap.size + 2 ≤ M by omega)
  have HS2 := Lib.hid (S1.trans hs2)
  obtain ⟨x0, x1, x2, x3, x4⟩ := B1.c
  have fx := B1.fr
  clear A1 A2 S1 hz1 hr hgr hs2 B1 hM H hMl
  go_wp2_with fail
  go_loopw [5] (fun _ W => ∃ (j : Nat) (al : Option Addr) (cl : Nat) (ap : Option Addr) (np cp : Nat), j ≤ k ∧ EvI w G m p f ls g n M j al cl ap np cp W) (fun _ W => (f + k - rrFirst W w.heap.size).toNat)
  case atStart =>
    have hE := HB1.out.set5 m p f (.slice a2 n c2) (.slice ap2 np cp2)
    have KE := keeps5 w2 w.heap.size (.int .i64 m) (.int .i64 p) (.int .i64 f) (.slice a2 n c2) (.slice ap2 np cp2)
    refine ⟨0, a2, c2, ap2, np, cp2, Nat.zero_le _, ?_, ?_, ?_, ?_, ?_⟩
    · rw [show f + ((0 : Nat) : Int) = f by omega, Nat.sub_zero]; exact hE
    · exact HB2.out.keeps KE (by omega)
    · rw [Nat.sub_zero, List.drop_zero]; exact HR.out.keeps KE (fun b hb e => by have e : b = w.heap.size := e; subst e; rcases hb with h | h <;> omega)
    · rw [dropG_zero]; exact HGR.out.keeps KE (fun b hb e => by have e : b = w.heap.size := e; have := HM.out; omega)
    · exact ((Keeps.of_sees (F := fun _ => False) HS2.out).trans' KE (fun b hb e => by have e : b = w.heap.size := e; omega)).sees_end (fun _ _ h => h)
  case round =>
    obtain ⟨j, al, cl, ap, np, cp, hj, hE⟩ := hrel
    have hmeas := hE.box.first
    have Hmeas := Lib.hid hmeas
    obtain ⟨fj, hfj⟩ : ∃ fj : Int, fj = f + j := ⟨_, rfl⟩
    obtain ⟨q, hq⟩ : ∃ q, q = n - j := ⟨_, rfl⟩
    have B1 := hE.box
    rw [← hfj, ← hq] at B1
    obtain ⟨x0, x1, x2, x3, x4⟩ := B1.c
    have fx := B1.fr
    have HE := Lib.hid hE
    have HB1' := Lib.hid B1
    have Hfj := Lib.hid hfj
    have Hq := Lib.hid hq
    clear hE hmeas B1
    by_cases hjk : j = k
    · have t1 : decide ((q : Int) > m) = false := decide_eq_false (by omega)
      have t1' : decide (m < (q : Int)) = false := t1
      have Hjk := Lib.hid hjk
      have Y2 := Lib.hid HE.out.out
      obtain ⟨y0, y1, y2, y3, y4⟩ := Y2.out.c
      have fy := Y2.out.fr
      clear hj hjk hfj hq HB1 HB2 HR HGR HS2 hk
      go_wp2
      have E := Y2.out.set5 m p fj (.slice al q cl) (.slice ap np cp)
      obtain ⟨z0, z1, z2, z3, z4⟩ := E.c
      have KE := keeps5 wr (w.heap.size + 1) (.int .i64 m) (.int .i64 p) (.int .i64 fj) (.slice al q cl) (.slice ap np cp)
      refine bodyPost_ret_by (v := rrV m p fj (.slice al q cl) (.slice ap np cp)) (by simp [results, Tryd.results48, go_sem, z0, z1, z2, z3, z4]) rfl ⟨_, _, by rw [Hfj.out, Hjk.out], ⟨?_, ?_⟩, ?_⟩
      · have r := HE.out.l
        rw [← Hq.out, Hjk.out] at r
        exact (r.keeps KE (fun b hb e => by have e : b = w.heap.size + 1 := e; subst e; rcases hb with h | h <;> omega)).mono (fun b _ h => by rcases h with h | h; exact .inl h; exact .inr (by omega))
      · have r := HE.out.p
        rw [Hjk.out] at r
        exact (r.keeps KE (fun b hb e => by have e : b = w.heap.size + 1 := e; subst e; have := HM.out; omega)).rd.mono (fun b _ h => .inr (by have := HM.out; omega))
      · exact ((Keeps.of_sees (F := fun _ => False) HE.out.s).trans' KE (fun b hb e => by have e : b = w.heap.size + 1 := e; subst e; omega)).sees_end (fun _ _ h => h)
    · have t1 : decide ((q : Int) > m) = true := decide_eq_true (by omega)
      have t1' : decide (m < (q : Int)) = true := t1
      have hq1 : 1 ≤ q := by omega
      have hlr := HE.out.l
      rw [← hq] at hlr
      obtain ⟨a3, c3, h3, h3r⟩ := cut_from hlr 1 hq1
      have H3 := Lib.hid h3
      have H3r := Lib.hid (h3r _ _ hlr)
      obtain ⟨x, t, hxt, hx1, hx2, hx3⟩ := dropG_head Hg.out (show j < sumG g by rw [Hs.out]; omega)
      have hpr := HE.out.p
      rw [hxt] at hpr
      obtain ⟨b, o, rfl, hbF, hbz, hnp, y0, y1, fy, hs0, hs1⟩ := hpr.at_ (i := 0) rfl
      have HPR := Lib.hid hpr
      have Hxt := Lib.hid hxt
      have g1 : IntKind.i64.wrap (fj + 1) = fj + 1 := IntWalk.i64_in _ (by omega)
      have g2 : IntKind.i64.wrap (x.1 + 1) = x.1 + 1 := IntWalk.i64_in _ (by omega)
      obtain ⟨xn, hxn⟩ : ∃ xn : Nat, xn = x.2 - 1 := ⟨_, rfl⟩
      have g3 : IntKind.i64.wrap ((x.2 : Int) - 1) = (xn : Int) := by rw [IntWalk.i64_in _ (by omega)]; omega
      have Hxn := Lib.hid hxn
      have Hx := Lib.hid (And.intro hx1 (And.intro hx2 hx3))
      have hbB : ¬ b = w.heap.size := by have : M ≤ b := hbF; have := HM.out; omega
      have hbB1 : ¬ b = w.heap.size + 1 := by have : M ≤ b := hbF; have := HM.out; omega
      have HbF := Lib.hid hbF
      have hnp1 : 0 < np := by rw [hnp]; simp
      clear h3 h3r hlr hpr hxt hxn hx1 hx2 hx3 hs0 hs1 hbF hbz HB1 HB2 HR HGR HS2
      rw [Nat.zero_mul, Nat.add_zero] at y0 y1
      obtain ⟨q1, hq1'⟩ : ∃ q1, q1 = q - 1 := ⟨_, rfl⟩
      have Hq1 := Lib.hid hq1'
      rw [← hq1'] at H3 H3r
      clear hq1' hfj hq
      go_upto_region 4 with (refine wpList_val rfl (exec_fromL (a := .slice al q cl) (b := .int .i64 1) rfl (by go_simp) (by go_simp) (H3.out _)) (fun K hK => ?_); go_simp; refine hK _ _ ?_; clear hK K)
      refine wp_world (fun w3 hw3 => ?_)
      have C1 : RrAt w3 w.heap.size m p fj (.slice a3 q1 c3) (.slice (some ⟨b, o, none⟩) np cp) := by subst hw3; exact HB1'.out.set3 _
      have K3 : Keeps (fun b => b = w.heap.size) wr w3 := by subst hw3; exact keeps1 _ _ _ _
      clear hw3 x0 x1 x2 x3 x4 fx y0 y1 fy
      obtain ⟨x0, x1, x2, x3, x4⟩ := C1.c
      have fx := C1.fr
      go_upto_region 5 with fail
      refine wp_world (fun w4 hw4 => ?_)
      have C4 : RrAt w4 w.heap.size m p (fj + 1) (.slice a3 q1 c3) (.slice (some ⟨b, o, none⟩) np cp) := by subst hw4; exact C1.set2 _
      have K4 : Keeps (fun b => b = w.heap.size) wr w4 := by subst hw4; exact K3.trans' (keeps1 _ _ _ _) (fun b hb e => e)
      clear hw4 x0 x1 x2 x3 x4 fx C1 K3
      obtain ⟨x0, x1, x2, x3, x4⟩ := C4.c
      have P4 := HPR.out.keeps K4 (fun b hb e => by have e : b = w.heap.size := e; subst e; have := HM.out; omega)
      obtain ⟨b', o', eb, hbF', hbz', _, y0, y1, fy, hs0, _⟩ := P4.at_ (i := 0) rfl
      cases eb
      rw [Nat.zero_mul, Nat.add_zero] at y0 y1 hs0
      have HS0 := Lib.hid hs0
      clear hs0
      go_upto_region 6 with fail
      refine wp_world (fun w5 hw5 => ?_)
      have P5 : GRow (fun b => M ≤ b) w5 (.slice (some ⟨b, o, none⟩) np cp) ((x.1 + 1, x.2) :: t) := by subst hw5; exact HS0.out _
      have K5 : Keeps (fun c => c = b) w4 w5 := by subst hw5; exact keeps1 _ _ _ _
      have C5 := C4.keeps K5 (fun e => hbB e.symm)
      clear hw5 x0 x1 x2 x3 x4 y0 y1 fy HS0
      obtain ⟨x0, x1, x2, x3, x4⟩ := C5.c
      obtain ⟨b', o', eb, hbF', hbz', _, y0, y1, fy, _, hs1⟩ := P5.at_ (i := 0) rfl
      cases eb
      rw [Nat.zero_mul, Nat.add_zero] at y0 y1 hs1
      simp only [] at y1
      have HS1 := Lib.hid hs1
      clear hs1
      go_upto_region 7 with fail
      refine wp_world (fun w6 hw6 => ?_)
      have P6 : GRow (fun b => M ≤ b) w6 (.slice (some ⟨b, o, none⟩) np cp) ((x.1 + 1, xn) :: t) := by subst hw6; exact HS1.out _
      have K6 : Keeps (fun c => c = w.heap.size ∨ c = b) wr w6 := by subst hw6; exact (((K4.mono (fun _ _ h => .inl h)).trans (K5.mono (fun _ _ h => .inr h))).trans ((keeps1 _ b _ _).mono (fun _ _ h => .inr h)))
      have C6 : RrAt w6 w.heap.size m p (fj + 1) (.slice a3 q1 c3) (.slice (some ⟨b, o, none⟩) np cp) := by subst hw6; exact C5.keeps (keeps1 _ _ _ _) (fun e => hbB e.symm)
      have HP5 := P5
      clear hw6 x0 x1 x2 x3 x4 y0 y1 fy HS1 K4 K5 C4 C5 P4 P5 HP5
      obtain ⟨x0, x1, x2, x3, x4⟩ := C6.c
      have fx := C6.fr
      obtain ⟨b', o', eb, hbF', hbz', _, y0, y1, fy, _, _⟩ := P6.at_ (i := 0) rfl
      cases eb
      rw [Nat.zero_mul, Nat.add_zero] at y0 y1
      simp only [] at y1
      have HC6 := Lib.hid C6
      have HP6 := Lib.hid P6
      have HK6 := Lib.hid K6
      clear C6 P6 K6 hbF' hbz'
      have HT := Lib.hid (dropG_succ g j Hg.out)
      have hst := HT.out
      rw [Hxt.out] at hst
      have Hst := Lib.hid hst
      clear HT hst
      have Hj := Lib.hid hj
      have Hkk := Lib.hid hk
      by_cases hx0 : xn = 0
      · obtain ⟨a7, c7, h7, h7r⟩ := gp_from _ _ _ _ _ HP6.out
        have H7 := Lib.hid h7
        have H7r := Lib.hid (h7r _ _ HP6.out)
        obtain ⟨tn, htn⟩ : ∃ tn, tn = t.length := ⟨_, rfl⟩
        rw [← htn] at H7 H7r
        have Htn := Lib.hid htn
        subst hx0
        clear h7 h7r htn hj hk
        go_wp2_with (refine wpList_val rfl (exec_fromL (a := .slice (some ⟨b, o, none⟩) np cp) (b := .int .i64 1) rfl (by go_simp) (by go_simp) (H7.out _)) (fun K hK => ?_); go_simp; refine hK _ _ ?_; clear hK K)
        have hE := HC6.out.set4 (.slice a7 tn c7)
        have KE := HK6.out.trans ((keeps1 w6 w.heap.size 4 (.slice a7 tn c7)).mono (fun _ _ h => .inl h))
        have hgt : dropG (j + 1) g = t := by rw [Hst.out, stepG, if_pos (by have := Hxn.out; omega)]
        refine ⟨⟨j + 1, a3, c3, a7, tn, c7, by have := Hj.out; omega, ?_, ?_, ?_, ?_, ?_⟩, ?_⟩
        · rw [show f + ((j + 1 : Nat) : Int) = fj + 1 by rw [Hfj.out]; omega, show n - (j + 1) = q1 by rw [Hq1.out, Hq.out]; omega]; exact hE
        · exact HE.out.out.keeps KE (fun e => by rcases e with e | e; omega; exact hbB1 e.symm)
        · rw [show n - (j + 1) = q1 by rw [Hq1.out, Hq.out]; omega, ← List.drop_drop]
          exact H3r.out.keeps KE (fun c hc e => by have := HbF.out; have := HM.out; have hb2 : M ≤ b := HbF.out; rcases e with e | e <;> rcases hc with h | h <;> omega)
        · rw [hgt]; exact H7r.out.keeps (keeps1 w6 w.heap.size 4 (.slice a7 tn c7)) (fun c hc e => by have e : c = w.heap.size := e; have := HM.out; omega)
        · exact ((Keeps.of_sees (F := fun _ => False) HE.out.s).trans' KE (fun c hc e => by have hb2 : M ≤ b := HbF.out; have := HM.out; rcases e with e | e <;> omega)).sees_end (fun _ _ h => h)
        · rw [hE.first, Hmeas.out, Hfj.out]; have := Hj.out; omega
      · have hx0' : ((xn : Int) == 0) = false := by rw [beq_eq_false_iff_ne]; omega
        clear hj hk
        go_wp2
        have hgt : dropG (j + 1) g = (x.1 + 1, xn) :: t := by rw [Hst.out, stepG, if_neg (by have := Hxn.out; omega), Hxn.out]
        refine ⟨⟨j + 1, a3, c3, some ⟨b, o, none⟩, np, cp, by have := Hj.out; omega, ?_, ?_, ?_, ?_, ?_⟩, ?_⟩
        · rw [show f + ((j + 1 : Nat) : Int) = fj + 1 by rw [Hfj.out]; omega, show n - (j + 1) = q1 by rw [Hq1.out, Hq.out]; omega]; exact HC6.out
        · exact HE.out.out.keeps HK6.out (fun e => by rcases e with e | e; omega; exact hbB1 e.symm)
        · rw [show n - (j + 1) = q1 by rw [Hq1.out, Hq.out]; omega, ← List.drop_drop]
          exact H3r.out.keeps HK6.out (fun c hc e => by have := HM.out; have hb2 : M ≤ b := HbF.out; rcases e with e | e <;> rcases hc with h | h <;> omega)
        · rw [hgt]; exact HP6.out
        · exact ((Keeps.of_sees (F := fun _ => False) HE.out.s).trans' HK6.out (fun c hc e => by have hb2 : M ≤ b := HbF.out; have := HM.out; rcases e with e | e <;> omega)).sees_end (fun _ _ h => h)
        · rw [HC6.out.first, Hmeas.out, Hfj.out]; have := Hj.out; omega
end Go.Proofs.YthjcnhgfagefjaaDoor

namespace Go.Proofs.YthjcnhgfagefjaaDoor
set_option linter.unusedVariables false
set_option linter.unusedSimpArgs false
open Go.RowKit

/-- What a ring is, seen from outside: bounds. -/
structure B8 (mo pg fi : Int) (ls : List Ln) (g : List (Int × Nat)) : Prop where
  mo0 : 0 ≤ mo
  mo1 : mo ≤ 1048576
  pg0 : 1 ≤ pg
  pg1 : pg ≤ 1024
  fi0 : 0 ≤ fi
  fi1 : fi + ls.length ≤ 1000000000
  len : ls.length ≤ 1048576
  lim : (ls.length : Int) ≤ mo
  gok : GOk g
  gpg : ∀ q ∈ g, q.1 + q.2 ≤ pg
  sum : sumG g = ls.length
  lok : ∀ l ∈ ls, lnOk l.cells = true
theorem RgF.b8 {w1 W : World} {F : Nat → Prop} {r : Nat} {mo pg fi : Int} {ls : List Ln} {g : List (Int × Nat)} (h : RgF w1 F W r mo pg fi ls g) : B8 mo pg fi ls g := by
  obtain ⟨h1, h2, h3⟩ := h.gok
  obtain ⟨k1, k2, k3, k4, k5, k6, k7, k8⟩ := h.facts
  exact ⟨k1, k2, k3, k4, k5, k6, k8, k7, h1, h2, h3, h.lnok⟩
theorem glen : ∀ {g : List (Int × Nat)}, GOk g → g.length ≤ sumG g
  | [], _ => Nat.zero_le _
  | x :: g, h => by
    have ih := glen h.tail
    have := (h x (List.mem_cons_self ..)).1
    rw [sumG_cons, List.length_cons]; omega
theorem B8.glen {mo pg fi : Int} {ls : List Ln} {g : List (Int × Nat)} (h : B8 mo pg fi ls g) : g.length ≤ 1048576 := by
  have h1 := Go.Proofs.YthjcnhgfagefjaaDoor.glen h.gok
  have h2 := h.sum
  have h3 := h.len
  omega
/-- The error of a number. -/
def errA (fi : Int) (n : Nat) (x : Int) : Int := if x < 0 ∨ fi + n ≤ x then 3 else if x < fi then 14 else 0
theorem errA_cases (fi : Int) (n : Nat) (x : Int) : ((x < 0 ∨ fi + n ≤ x) ∧ errA fi n x = 3) ∨ ((0 ≤ x ∧ x < fi + n) ∧ x < fi ∧ errA fi n x = 14) ∨ ((0 ≤ x ∧ fi ≤ x ∧ x < fi + n) ∧ errA fi n x = 0) := by
  unfold errA
  by_cases h1 : x < 0 ∨ fi + n ≤ x
  · exact .inl ⟨h1, if_pos h1⟩
  · rw [if_neg h1]
    by_cases h2 : x < fi
    · exact .inr (.inl ⟨by omega, h2, if_pos h2⟩)
    · exact .inr (.inr ⟨by omega, if_neg h2⟩)
theorem refAt08 (m p fi x : Int) (a ap : Option Addr) (n c np cp : Nat) (w : World) (h0 : 0 ≤ fi) (h1 : fi ≤ 1000000000) (h2 : n ≤ 1000000000) (er : Int) (he : errA fi n x = er) :
    Calls Tryd.prog 37 #[rrV m p fi (.slice a n c) (.slice ap np cp), .int .i64 x] w fun e w' => e = .returned (.int .i64 er) ∧ Sees w w' := by
  have K := Lib.hid (fun W => refNext08 m p fi (fi + n) a ap n c np cp W h0 (by omega) h2 rfl)
  obtain ⟨N, hN⟩ : ∃ N, N = fi + (n : Int) := ⟨_, rfl⟩
  have hc := errA_cases fi n x
  rw [he] at hc
  rw [← hN] at K hc
  clear he hN h0 h1 h2
  by_cases t0 : x < 0
  · have d0 : decide (x < 0) = true := decide_eq_true t0
    have he : er = 3 := by omega
    clear hc t0
    go_enter Tryd.func37, Tryd.ntmps37
    have hw := Sees.refl w
    go_wp2
    go_ret
    exact ⟨by rw [he]; rfl, hw.alloc _⟩
  · have d0 : decide (x < 0) = false := decide_eq_false t0
    go_enter Tryd.func37, Tryd.ntmps37
    go_wp2_with fail
    refine calls_world (fun w1 hw1 => ?_)
    have A1 : RrAt w1 w.heap.size m p fi (.slice a n c) (.slice ap np cp) := by subst hw1; exact RrAt.new rfl
    have S1 : Sees w w1 := by subst hw1; exact (Sees.refl w).alloc _
    clear hw1
    refine (K.out w1).mono ?_
    rintro e w2 ⟨rfl, hs⟩
    obtain ⟨x0, x1, x2, x3, x4⟩ := (A1.sees hs).c
    have S2 := Lib.hid (S1.trans hs)
    clear S1 hs A1
    by_cases t1 : x ≥ N
    · have d1 : decide (x ≥ N) = true := decide_eq_true t1
      have d1' : decide (N ≤ x) = true := d1
      have he : er = 3 := by omega
      clear hc t1 t0
      go_wp2
      go_ret
      exact ⟨by rw [he]; rfl, S2.out⟩
    · have d1 : decide (x ≥ N) = false := decide_eq_false t1
      have d1' : decide (N ≤ x) = false := d1
      by_cases t2 : x < fi
      · have d2 : decide (x < fi) = true := decide_eq_true t2
        have he : er = 14 := by omega
        clear hc t1 t2 t0
        go_wp2
        go_ret
        exact ⟨by rw [he]; rfl, S2.out⟩
      · have d2 : decide (x < fi) = false := decide_eq_false t2
        have he : er = 0 := by omega
        clear hc t1 t2 t0
        go_wp2
        go_ret
        exact ⟨by rw [he]; rfl, S2.out⟩
/-- The line with a number. -/
def getD8 (fi : Int) (ls : List Ln) (x : Int) : Ln := if errA fi ls.length x = 0 then (ls[(x - fi).toNat]?).getD ⟨[], false⟩ else ⟨[], false⟩
set_option maxHeartbeats 1000000 in
theorem refGet08 (G : Nat → Prop) (m p fi x : Int) (vl vp : Value) (ls : List Ln) (g : List (Int × Nat)) (w : World) (h0 : 0 ≤ fi) (h1 : fi ≤ 1000000000) (h2 : ls.length ≤ 1000000000) (hx : -9223372036854775808 ≤ x ∧ x ≤ 9223372036854775807) (h : RrRd G w vl vp ls g) :
    Calls Tryd.prog 10 #[rrV m p fi vl vp, .int .i64 x] w fun e w' => ∃ v', e = .returned (.tuple #[.agg #[v', .bool (getD8 fi ls x).soft], .int .i64 (errA fi ls.length x)]) ∧ cellEl.Rd G w' v' (getD8 fi ls x).cells ∧ Sees w w' := by
  obtain ⟨a, c, rfl, _⟩ := h.l.slice'
  obtain ⟨ap, cp, rfl, _⟩ := h.p.slice'
  obtain ⟨n, hn⟩ : ∃ n, n = ls.length := ⟨_, rfl⟩
  obtain ⟨np, hnp⟩ : ∃ np, np = g.length := ⟨_, rfl⟩
  have hL := h.l
  rw [← hn] at hL h2 ⊢
  rw [← hnp]
  have HL := Lib.hid hL
  obtain ⟨er, her⟩ : ∃ er, er = errA fi n x := ⟨_, rfl⟩
  have K := Lib.hid (fun W => refAt08 m p fi x a ap n c np cp W h0 h1 h2 er her.symm)
  have hcs := errA_cases fi n x
  have hG : getD8 fi ls x = if er = 0 then (ls[(x - fi).toNat]?).getD ⟨[], false⟩ else ⟨[], false⟩ := by rw [her, hn]; rfl
  rw [← her] at hcs ⊢
  have Hn := Lib.hid hn
  clear her h hL hn hnp
  by_cases hz : er = 0
  · subst hz
    have hr : 0 ≤ x ∧ fi ≤ x ∧ x < fi + n := by rcases hcs with ⟨_, e⟩ | ⟨_, _, e⟩ | ⟨e, _⟩; cases e; cases e; exact e
    rw [if_pos rfl] at hG
    obtain ⟨i, hi⟩ : ∃ i : Nat, i = (x - fi).toNat := ⟨_, rfl⟩
    have hin : i < n := by omega
    have gw : IntKind.i64.wrap (x - fi) = (i : Int) := by rw [IntWalk.i64_in _ (by omega)]; omega
    obtain ⟨b, o, l, al, ml, rfl, _, hl, hlm, y0, y1, y2⟩ := HL.out.line hin
    rw [← hi, hl, Option.getD_some] at hG
    rw [hG]
    have Y2 := Lib.hid y2
    have Y01 := Lib.hid (And.intro y0 y1)
    obtain ⟨ml2, hml2⟩ : ∃ q, q = l.cells.length := ⟨_, rfl⟩
    have d1 : ¬ (i : Int) < 0 := by omega
    clear y0 y1 y2 hl hcs hG hi hr
    go_enter Tryd.func10, Tryd.ntmps10
    go_wp2_with fail
    refine calls_world (fun w1 hw1 => ?_)
    have A1 : RrAt w1 w.heap.size m p fi (.slice (some ⟨b, o, none⟩) n c) (.slice ap np cp) := by subst hw1; exact (RrAt.new rfl).alloc _
    have A2 : LnAt w1 (w.heap.size + 1) (.slice none 0 0) false := by subst hw1; exact LnAt.new (by simp)
    have S1 : Sees w w1 := by subst hw1; exact ((Sees.refl w).alloc _).alloc _
    clear hw1
    refine (K.out w1).mono ?_
    rintro e w2 ⟨rfl, hs⟩
    obtain ⟨x0, x1, x2, x3, x4⟩ := (A1.sees hs).c
    have B2 := A2.sees hs
    obtain ⟨z0, z1⟩ := B2.c
    have fz := B2.fr
    have HB2 := Lib.hid B2
    have S2 := Lib.hid (S1.trans hs)
    have y0 := S2.out.cell Y01.out.1
    have y1 := S2.out.cell Y01.out.2
    clear S1 hs A1 A2 B2
    go_wp2
    have KE : Keeps (fun b => b = w.heap.size + 1) w2 ((w2.setCell ⟨w.heap.size + 1, 0, none⟩ (.slice al l.cells.length ml)).setCell ⟨w.heap.size + 1, 1, none⟩ (.bool l.soft)) := keeps2 _ _ _ _
    have E : LnAt ((w2.setCell ⟨w.heap.size + 1, 0, none⟩ (.slice al l.cells.length ml)).setCell ⟨w.heap.size + 1, 1, none⟩ (.bool l.soft)) (w.heap.size + 1) (.slice al l.cells.length ml) l.soft := heap_setCell_same _ _ _ _ _ _ (heap_setCell_same _ _ _ _ _ _ HB2.out)
    obtain ⟨u0, u1⟩ := E.c
    have hS := ((Keeps.of_sees (F := fun _ => False) S2.out).trans' KE (fun c hc e => by have e : c = w.heap.size + 1 := e; omega)).sees_end (fun _ _ h => h)
    exact bodyPost_ret_by (v := .tuple #[.agg #[.slice al l.cells.length ml, .bool l.soft], .int .i64 0]) (by simp [results, Tryd.results10, go_sem, u0, u1]) rfl ⟨_, rfl, Y2.out.sees hS, hS⟩
  · rw [if_neg hz] at hG
    rw [hG]
    have hne : (er == 0) = false := beq_eq_false_iff_ne.2 hz
    have hne2 : (er != 0) = true := by rw [bne, hne]; rfl
    clear hcs hG hz
    go_enter Tryd.func10, Tryd.ntmps10
    go_wp2_with fail
    refine calls_world (fun w1 hw1 => ?_)
    have A2 : LnAt w1 (w.heap.size + 1) (.slice none 0 0) false := by subst hw1; exact LnAt.new (by simp)
    have S1 : Sees w w1 := by subst hw1; exact ((Sees.refl w).alloc _).alloc _
    clear hw1
    refine (K.out w1).mono ?_
    rintro e w2 ⟨rfl, hs⟩
    have B2 := A2.sees hs
    obtain ⟨z0, z1⟩ := B2.c
    have fz := B2.fr
    have HB2 := Lib.hid B2
    have S2 := Lib.hid (S1.trans hs)
    clear S1 hs A2 B2
    go_wp2
    have KE : Keeps (fun b => b = w.heap.size + 1) w2 ((w2.setCell ⟨w.heap.size + 1, 0, none⟩ (.slice none 0 0)).setCell ⟨w.heap.size + 1, 1, none⟩ (.bool false)) := keeps2 _ _ _ _
    have E : LnAt ((w2.setCell ⟨w.heap.size + 1, 0, none⟩ (.slice none 0 0)).setCell ⟨w.heap.size + 1, 1, none⟩ (.bool false)) (w.heap.size + 1) (.slice none 0 0) false := heap_setCell_same _ _ _ _ _ _ (heap_setCell_same _ _ _ _ _ _ HB2.out)
    obtain ⟨u0, u1⟩ := E.c
    have hS := ((Keeps.of_sees (F := fun _ => False) S2.out).trans' KE (fun c hc e => by have e : c = w.heap.size + 1 := e; omega)).sees_end (fun _ _ h => h)
    exact bodyPost_ret_by (v := .tuple #[.agg #[.slice none 0 0, .bool false], .int .i64 er]) (by simp [results, Tryd.results10, go_sem, u0, u1]) rfl ⟨_, rfl, El.Rd.nil _ _, hS⟩
/-- The error of two numbers. -/
def errB (fi : Int) (n : Nat) (x y : Int) : Int := if x < 0 ∨ y < x ∨ fi + n < y then 3 else if x < fi then 14 else 0
theorem errB_cases (fi : Int) (n : Nat) (x y : Int) : ((x < 0 ∨ y < x ∨ fi + n < y) ∧ errB fi n x y = 3) ∨ ((0 ≤ x ∧ x ≤ y ∧ y ≤ fi + n) ∧ x < fi ∧ errB fi n x y = 14) ∨ ((0 ≤ x ∧ fi ≤ x ∧ x ≤ y ∧ y ≤ fi + n) ∧ errB fi n x y = 0) := by
  unfold errB
  by_cases h1 : x < 0 ∨ y < x ∨ fi + n < y
  · exact .inl ⟨h1, if_pos h1⟩
  · rw [if_neg h1]
    by_cases h2 : x < fi
    · exact .inr (.inl ⟨by omega, h2, if_pos h2⟩)
    · exact .inr (.inr ⟨by omega, if_neg h2⟩)
/-- The lines from a number on, up to another one. -/
def segD8 (fi : Int) (ls : List Ln) (x y : Int) : List Ln := if errB fi ls.length x y = 0 then seg (x - fi).toNat (y - fi).toNat ls else []
theorem exec_midL {P : Program} {ρ : Operand → Value} {o : Oper} {t : TypeId} {x lo hi : Operand} {a b c v : Value} {W W' : World} (ho : o.op = .slice t x (some lo) (some hi) none) (hx : ρ x = a) (hlo : ρ lo = b) (hhi : ρ hi = c)
    (h : (Instr.sliceAt t a (some b) (some c) none).run P W = .ok v W') : (execOp ρ o).run P W = .ok (.value v) W' := by
  unfold execOp
  rw [ho]
  simp only [hx, hlo, hhi, Option.map_some, Option.map_none, Sem.run_bind, h, Result.andThen_ok]
  rfl
theorem lns_mid (a : Option Addr) (n c k q : Nat) (hk : k ≤ q) (hq : q ≤ n) (hc : n ≤ c) (hs : ∀ x, a = some x → x.spot = none) (ha : a = none → n = 0) : ∃ a', (∀ W, (Instr.sliceAt 30 (.slice a n c) (some (.int .i64 (k : Int))) (some (.int .i64 (q : Int))) none).run Tryd.prog W = .ok (.slice a' (q - k) (c - k)) W) ∧
    ∀ (F : Nat → Prop) (W : World) (xs : List Ln), lnEl.Rd F W (.slice a n c) xs → lnEl.Rd F W (.slice a' (q - k) (c - k)) ((xs.take q).drop k) := by
  have hqc : q ≤ c := by omega
  have hck : ¬ c < q := by omega
  have hqk : ¬ q < k := by omega
  cases a with
  | none =>
    obtain rfl := ha rfl
    obtain rfl : q = 0 := by omega
    obtain rfl : k = 0 := by omega
    exact ⟨none, fun W => by go_simp, fun F W xs h => by
      have hl := h.len
      rw [List.take_zero, List.drop_nil]
      exact El.Rd.empty _ _ _ _⟩
  | some x =>
    obtain ⟨b, o, sp⟩ := x
    have := hs _ rfl
    simp only at this
    subst this
    by_cases h : c = k
    · subst h
      obtain rfl : q = c := by omega
      exact ⟨some ⟨b, o, none⟩, fun W => by go_simp, fun F W xs hr => by
        have hl := hr.len
        rw [List.drop_of_length_le (by rw [List.length_take]; omega), Nat.sub_self]
        exact El.Rd.empty _ _ _ _⟩
    · exact ⟨some ⟨b, o + k * 2, none⟩, fun W => by go_simp, fun F W xs hr => by
        have hl := hr.len
        have h2 := hr.take q (by omega) c (by omega)
        exact h2.drop k (by rw [List.length_take]; omega) (c - k) (by omega)⟩
set_option maxHeartbeats 1000000 in
theorem refBetween08 (G : Nat → Prop) (m p fi x y : Int) (vl vp : Value) (ls : List Ln) (g : List (Int × Nat)) (w : World) (h0 : 0 ≤ fi) (h1 : fi ≤ 1000000000) (h2 : ls.length ≤ 1000000000) (h : RrRd G w vl vp ls g) :
    Calls Tryd.prog 11 #[rrV m p fi vl vp, .int .i64 x, .int .i64 y] w fun e w' => ∃ v', e = .returned (.tuple #[v', .int .i64 (errB fi ls.length x y)]) ∧ lnEl.Rd G w' v' (segD8 fi ls x y) ∧ Sees w w' := by
  obtain ⟨a, c, rfl, hac⟩ := h.l.slice'
  obtain ⟨ap, cp, rfl, _⟩ := h.p.slice'
  obtain ⟨n, hn⟩ : ∃ n, n = ls.length := ⟨_, rfl⟩
  obtain ⟨np, hnp⟩ : ∃ np, np = g.length := ⟨_, rfl⟩
  have hL := h.l
  rw [← hn] at hL h2 hac ⊢
  rw [← hnp]
  have HL := Lib.hid hL
  obtain ⟨er, her⟩ : ∃ er, er = errB fi n x y := ⟨_, rfl⟩
  have K := Lib.hid (fun W => refNext08 m p fi (fi + n) a ap n c np cp W h0 (by omega) h2 rfl)
  have hcs := errB_cases fi n x y
  have hG : segD8 fi ls x y = if er = 0 then seg (x - fi).toNat (y - fi).toNat ls else [] := by rw [her, hn]; rfl
  rw [← her] at hcs ⊢
  obtain ⟨S, hS⟩ : ∃ S, S = segD8 fi ls x y := ⟨_, rfl⟩
  rw [← hS] at hG ⊢
  clear hS
  have Hn := Lib.hid hn
  obtain ⟨N, hN⟩ : ∃ N, N = fi + (n : Int) := ⟨_, rfl⟩
  rw [← hN] at K hcs
  have HG := Lib.hid hG
  clear her h hn hnp hG
  have hw := Sees.refl w
  by_cases t0 : x < 0
  · have d0 : decide (x < 0) = true := decide_eq_true t0
    have he : er = 3 := by omega
    have HG0 := HG.out
    rw [he, if_neg (by decide)] at HG0
    have HE := Lib.hid he
    have HZ0 := Lib.hid HG0
    clear hcs t0 hN HG he HG0
    go_enter Tryd.func11, Tryd.ntmps11
    go_wp2
    rw [HE.out, HZ0.out]
    exact bodyPost_ret_by (v := .tuple #[.slice none 0 0, .int .i64 3]) (by simp [results, Tryd.results11, go_sem]) rfl ⟨_, rfl, El.Rd.nil _ _, hw.alloc _⟩
  · have d0 : decide (x < 0) = false := decide_eq_false t0
    by_cases t1 : x > y
    · have d1 : decide (x > y) = true := decide_eq_true t1
      have d1' : decide (y < x) = true := d1
      have he : er = 3 := by omega
      have HG0 := HG.out
      rw [he, if_neg (by decide)] at HG0
      have HE := Lib.hid he
      have HZ0 := Lib.hid HG0
      clear hcs t0 t1 hN HG he HG0
      go_enter Tryd.func11, Tryd.ntmps11
      go_wp2
      rw [HE.out, HZ0.out]
      exact bodyPost_ret_by (v := .tuple #[.slice none 0 0, .int .i64 3]) (by simp [results, Tryd.results11, go_sem]) rfl ⟨_, rfl, El.Rd.nil _ _, hw.alloc _⟩
    · have d1 : decide (x > y) = false := decide_eq_false t1
      have d1' : decide (y < x) = false := d1
      go_enter Tryd.func11, Tryd.ntmps11
      go_wp2_with fail
      refine calls_world (fun w1 hw1 => ?_)
      have A1 : RrAt w1 w.heap.size m p fi (.slice a n c) (.slice ap np cp) := by subst hw1; exact RrAt.new rfl
      have S1 : Sees w w1 := by subst hw1; exact (Sees.refl w).alloc _
      clear hw1
      refine (K.out w1).mono ?_
      rintro e w2 ⟨rfl, hs⟩
      obtain ⟨x0, x1, x2, x3, x4⟩ := (A1.sees hs).c
      have S2 := Lib.hid (S1.trans hs)
      clear S1 hs A1 hw
      by_cases t2 : y > N
      · have d2 : decide (y > N) = true := decide_eq_true t2
        have d2' : decide (N < y) = true := d2
        have he : er = 3 := by omega
        have HG0 := HG.out
        rw [he, if_neg (by decide)] at HG0
        have HE := Lib.hid he
        have HZ0 := Lib.hid HG0
        clear hcs t0 t1 t2 hN HG he HG0
        go_wp2
        rw [HE.out, HZ0.out]
        exact bodyPost_ret_by (v := .tuple #[.slice none 0 0, .int .i64 3]) (by simp [results, Tryd.results11, go_sem]) rfl ⟨_, rfl, El.Rd.nil _ _, S2.out⟩
      · have d2 : decide (y > N) = false := decide_eq_false t2
        have d2' : decide (N < y) = false := d2
        by_cases t3 : x < fi
        · have d3 : decide (x < fi) = true := decide_eq_true t3
          have he : er = 14 := by omega
          have HG0 := HG.out
          rw [he, if_neg (by decide)] at HG0
          have HE := Lib.hid he
          have HZ0 := Lib.hid HG0
          clear hcs t0 t1 t2 t3 hN HG he HG0
          go_wp2
          rw [HE.out, HZ0.out]
          exact bodyPost_ret_by (v := .tuple #[.slice none 0 0, .int .i64 14]) (by simp [results, Tryd.results11, go_sem]) rfl ⟨_, rfl, El.Rd.nil _ _, S2.out⟩
        · have d3 : decide (x < fi) = false := decide_eq_false t3
          have he : er = 0 := by omega
          have HG0 := HG.out
          rw [he, if_pos rfl] at HG0
          obtain ⟨k, hk⟩ : ∃ k : Nat, k = (x - fi).toNat := ⟨_, rfl⟩
          obtain ⟨q, hq⟩ : ∃ q : Nat, q = (y - fi).toNat := ⟨_, rfl⟩
          rw [← hk, ← hq] at HG0
          have hkq : k ≤ q := by omega
          have hqn : q ≤ n := by omega
          have gk : IntKind.i64.wrap (x - fi) = (k : Int) := by rw [IntWalk.i64_in _ (by omega)]; omega
          have gq : IntKind.i64.wrap (y - fi) = (q : Int) := by rw [IntWalk.i64_in _ (by omega)]; omega
          have hls : a = none → n = 0 := by
            intro ha
            subst ha
            by_cases hl0 : ls = []
            · rw [Hn.out, hl0]; rfl
            · exact absurd rfl (rd_spot HL.out hl0).2
          have Gk := Lib.hid gk
          have Gq := Lib.hid gq
          clear hk hq gk gq
          have hsp : ∃ a' c', (∀ W, (Instr.sliceAt 30 (.slice a n c) (some (.int .i64 (k : Int))) (some (.int .i64 (q : Int))) none).run Tryd.prog W = .ok (.slice a' (q - k) c') W) ∧
              ∀ (F : Nat → Prop) (W : World), lnEl.Rd F W (.slice a n c) ls → lnEl.Rd F W (.slice a' (q - k) c') (seg k q ls) := by
            by_cases hl0 : ls = []
            · have hn0 : n = 0 := by rw [Hn.out, hl0]; rfl
              subst hn0
              obtain rfl : q = 0 := by omega
              obtain rfl : k = 0 := by omega
              cases a with
              | none => exact ⟨none, c, fun W => by go_simp, fun F W h => by rw [hl0]; exact El.Rd.empty _ _ _ _⟩
              | some z =>
                by_cases hc0 : c = 0
                · subst hc0
                  exact ⟨some z, 0, fun W => by go_simp, fun F W h => by rw [hl0]; exact El.Rd.empty _ _ _ _⟩
                · exact ⟨some (z.add 0), c, fun W => by go_simp, fun F W h => by rw [hl0]; exact El.Rd.empty _ _ _ _⟩
            · obtain ⟨a', h1, h2⟩ := lns_mid a n c k q hkq hqn hac (rd_spot HL.out hl0).1 hls
              exact ⟨a', _, h1, fun F W h => h2 F W ls h⟩
          obtain ⟨a5, c5, h5, h5r⟩ := hsp
          have H5 := Lib.hid h5
          have H5r := Lib.hid h5r
          have gk := Gk.out
          have gq := Gq.out
          have HE := Lib.hid he
          have HZ0 := Lib.hid HG0
          clear hcs t0 t1 t2 t3 hN he HG0 HG h5 h5r hls
          go_wp2_with (refine wpList_val rfl (exec_midL (a := .slice a n c) (b := .int .i64 k) (c := .int .i64 q) rfl (by go_simp) (by go_simp) (by go_simp) (H5.out _)) (fun K hK => ?_); go_simp; refine hK _ _ ?_; clear hK K)
          rw [HE.out, HZ0.out]
          exact bodyPost_ret_by (v := .tuple #[.slice a5 (q - k) c5, .int .i64 0]) (by simp [results, Tryd.results11, go_sem]) rfl ⟨_, rfl, H5r.out _ _ (HL.out.sees S2.out), S2.out⟩
theorem refClear08 (m p fi k : Int) (a ap : Option Addr) (n c np cp : Nat) (w : World) (h0 : 0 ≤ fi) (h1 : fi ≤ 1000000000) (h2 : n ≤ 1000000000) (hk : k = fi + n) :
    Calls Tryd.prog 31 #[rrV m p fi (.slice a n c) (.slice ap np cp)] w fun e w' => e = .returned (rrV m p k (.slice none 0 0) (.slice none 0 0)) ∧ Sees w w' := by
  have K := Lib.hid (fun W => refNext08 m p fi k a ap n c np cp W h0 (by omega) h2 hk)
  clear h0 h1 h2 hk
  go_enter Tryd.func31, Tryd.ntmps31
  go_wp2_with fail
  refine wp_world (fun w1 hw1 => ?_)
  have A1 : RrAt w1 w.heap.size m p fi (.slice a n c) (.slice ap np cp) := by subst hw1; exact (RrAt.new rfl).alloc _
  have A2 : RrAt w1 (w.heap.size + 1) 0 0 0 (.slice none 0 0) (.slice none 0 0) := by subst hw1; exact RrAt.new (by simp)
  have S1 : Sees w w1 := by subst hw1; exact ((Sees.refl w).alloc _).alloc _
  clear hw1
  refine wpH_go (fun b => b = w.heap.size + 1) 8 (by kernel_rfl) (by kernel_rfl) (by rfl) (fun hB w4 hs4 => ?_)
  have S4 := Lib.hid (S1.trans hs4)
  have D1 := Lib.hid (A1.sees hs4)
  have D2 := Lib.hid (A2.sees hs4)
  clear A1 A2 hs4 S1
  have hS0 : Keeps (fun b => b = w.heap.size + 1) w4 w4 := Keeps.refl _ w4
  refine wpH_take (i := 0) (v := .pointer (some ⟨w.heap.size, 0, none⟩)) hB (by rfl) (by kernel_rfl) (fun _ _ _ _ _ h => h) (by rfl) hS0 (fun W hI => by clear hI; go_simp) ?_; (try simp only [Act.put, List.setIfInBounds_toArray, List.set_cons_zero, List.set_cons_succ])
  refine wpH_take (i := 1) (v := .int .i64 m) hB (by rfl) (by kernel_rfl) (fun _ _ _ _ _ h => h) (by rfl) hS0 (fun W hI => by have q := (D1.out.keeps hI (by omega)).c; obtain ⟨q0, q1, q2, q3, q4⟩ := q; go_simp) ?_; (try simp only [Act.put, List.setIfInBounds_toArray, List.set_cons_zero, List.set_cons_succ])
  refine wpH_take (i := 2) (v := .pointer (some ⟨w.heap.size, 1, none⟩)) hB (by rfl) (by kernel_rfl) (fun _ _ _ _ _ h => h) (by rfl) hS0 (fun W hI => by clear hI; go_simp) ?_; (try simp only [Act.put, List.setIfInBounds_toArray, List.set_cons_zero, List.set_cons_succ])
  refine wpH_take (i := 3) (v := .int .i64 p) hB (by rfl) (by kernel_rfl) (fun _ _ _ _ _ h => h) (by rfl) hS0 (fun W hI => by have q := (D1.out.keeps hI (by omega)).c; obtain ⟨q0, q1, q2, q3, q4⟩ := q; go_simp) ?_; (try simp only [Act.put, List.setIfInBounds_toArray, List.set_cons_zero, List.set_cons_succ])
  refine wpH_take (i := 4) (v := rrV m p fi (.slice a n c) (.slice ap np cp)) hB (by rfl) (by kernel_rfl) (fun _ _ _ _ _ h => h) (by rfl) hS0 (fun W hI => by have q := (D1.out.keeps hI (by omega)).c; obtain ⟨q0, q1, q2, q3, q4⟩ := q; go_simp) ?_; (try simp only [Act.put, List.setIfInBounds_toArray, List.set_cons_zero, List.set_cons_succ])
  refine wpH_one (i := 5) (by kernel_rfl) (wpOp_enter (fn := 26) (args := #[rrV m p fi (.slice a n c) (.slice ap np cp)]) (by rfl) (by rfl) (by go_simp) ((K.out w4).mono ?_))
  rintro e w5 ⟨rfl, hs5⟩
  refine ⟨_, rfl, Keeps.of_sees hs5, ?_⟩
  (try simp only [Act.put, List.setIfInBounds_toArray, List.set_cons_zero, List.set_cons_succ])
  refine wpH_one (i := 6) (by kernel_rfl) (wpOp_val (v := rrV m p k (.slice none 0 0) (.slice none 0 0)) (w' := w5) (by rfl) (wanted_none (by rfl) _) (by go_simp) ⟨Keeps.of_sees hs5, ?_⟩)
  (try simp only [Act.put, List.setIfInBounds_toArray, List.set_cons_zero, List.set_cons_succ])
  obtain ⟨w9, hst9, hk9, D9⟩ := (D2.out.sees hs5).store m p k none 0 0 none 0 0
  have hk49 : Keeps (fun b => b = w.heap.size + 1) w4 w9 := (Keeps.of_sees hs5).trans hk9
  refine wpH_one (i := 7) (by kernel_rfl) (wpOp_skip (w' := w9) (by rfl) (wanted_none (by rfl) _) (exec_store (a := .pointer (some ⟨w.heap.size + 1, 0, none⟩)) (v := rrV m p k (.slice none 0 0) (.slice none 0 0)) rfl (by go_simp) (by go_simp) hst9) ⟨hk49, ?_⟩)
  (try simp only [Act.put, List.setIfInBounds_toArray, List.set_cons_zero, List.set_cons_succ])
  refine wpH_end (by kernel_rfl) ?_
  obtain ⟨z0, z1, z2, z3, z4⟩ := D9.c
  have Hk49 := Lib.hid hk49
  clear hst9 hk9 hk49
  go_wp2
  exact bodyPost_ret_by (v := rrV m p k (.slice none 0 0) (.slice none 0 0)) (by simp [results, Tryd.results31, go_sem, z0, z1, z2, z3, z4]) rfl ⟨rfl, ((Keeps.of_sees (F := fun _ => False) S4.out).trans' Hk49.out (fun b hb e => by have e : b = w.heap.size + 1 := e; omega)).sees_end (fun _ _ h => h)⟩
/-- Another limit. -/
theorem refLimitArg08 (m p fi x : Int) (a ap : Option Addr) (n c np cp : Nat) (w : World) (hx : x < 0 ∨ 1048576 < x) :
    Calls Tryd.prog 30 #[rrV m p fi (.slice a n c) (.slice ap np cp), .int .i64 x] w fun e w' => e = .returned (.tuple #[rrV m p fi (.slice a n c) (.slice ap np cp), .int .i64 2]) ∧ Sees w w' := by
  have hw := Sees.refl w
  have ways : decide (x < 0) = true ∨ (decide (x < 0) = false ∧ decide (x > 1048576) = true ∧ decide (1048576 < x) = true) := by
    by_cases h : x < 0
    · exact .inl (decide_eq_true h)
    · exact .inr ⟨decide_eq_false h, decide_eq_true (by omega), decide_eq_true (by omega)⟩
  clear hx
  rcases ways with d0 | ⟨d0, d1, d1'⟩
  all_goals
    go_enter Tryd.func30, Tryd.ntmps30
    go_upto_region 2 with fail
    refine wp_world (fun w1 hw1 => ?_)
    have A1 : RrAt w1 w.heap.size m p fi (.slice a n c) (.slice ap np cp) := by subst hw1; exact (RrAt.new rfl).alloc _
    have A2 : RrAt w1 (w.heap.size + 1) 0 0 0 (.slice none 0 0) (.slice none 0 0) := by subst hw1; exact RrAt.new (by simp)
    have S1 : Sees w w1 := by subst hw1; exact ((Sees.refl w).alloc _).alloc _
    clear hw1
    obtain ⟨x0, x1, x2, x3, x4⟩ := A1.c
    obtain ⟨y0, y1, y2, y3, y4⟩ := A2.c
    have fy := A2.fr
    have HA2 := Lib.hid A2
    have HS1 := Lib.hid S1
    clear A1 A2 S1
    go_wp2
    have E := HA2.out.set5 m p fi (.slice a n c) (.slice ap np cp)
    have KE := keeps5 w1 (w.heap.size + 1) (.int .i64 m) (.int .i64 p) (.int .i64 fi) (.slice a n c) (.slice ap np cp)
    obtain ⟨z0, z1, z2, z3, z4⟩ := E.c
    exact bodyPost_ret_by (v := .tuple #[rrV m p fi (.slice a n c) (.slice ap np cp), .int .i64 2]) (by simp [results, Tryd.results30, go_sem, z0, z1, z2, z3, z4]) rfl ⟨rfl, ((Keeps.of_sees (F := fun _ => False) HS1.out).trans' KE (fun b hb e => by have e : b = w.heap.size + 1 := e; omega)).sees_end (fun _ _ h => h)⟩
set_option maxHeartbeats 1000000 in
theorem refLimit08 (G : Nat → Prop) (m p fi x : Int) (vl vp : Value) (ls : List Ln) (g : List (Int × Nat)) (w : World) (hb : B8 m p fi ls g) (h0 : 0 ≤ x) (h1 : x ≤ 1048576) (h : RrRd G w vl vp ls g) (k : Nat) (hk : k = ls.length - x.toNat) :
    Calls Tryd.prog 30 #[rrV m p fi vl vp, .int .i64 x] w fun e w' => ∃ vl' vp', e = .returned (.tuple #[rrV x p (fi + k) vl' vp', .int .i64 0]) ∧ RrRd (wid G w) w' vl' vp' (ls.drop k) (dropG k g) ∧ Sees w w' := by
  obtain ⟨a, c, rfl, _⟩ := h.l.slice'
  obtain ⟨ap, cp, rfl, _⟩ := h.p.slice'
  have H := Lib.hid (h.mono (F := fun b => G b ∧ b < w.heap.size) (fun b hb h => ⟨h, hb⟩))
  have HB := Lib.hid hb
  have HX := Lib.hid (And.intro h0 h1)
  have HK := Lib.hid hk
  obtain ⟨n, hn⟩ : ∃ n, n = ls.length := ⟨_, rfl⟩
  obtain ⟨np, hnp⟩ : ∃ np, np = g.length := ⟨_, rfl⟩
  rw [← hn] at H ⊢
  rw [← hnp] at H ⊢
  have Hn := Lib.hid hn
  have Hnp := Lib.hid hnp
  have d0 : decide (x < 0) = false := decide_eq_false (by omega)
  have d1 : decide (x > 1048576) = false := decide_eq_false (by omega)
  have d1' : decide (1048576 < x) = false := d1
  clear h hb h0 h1 hk hn hnp
  go_enter Tryd.func30, Tryd.ntmps30
  go_upto_region 3 with fail
  refine wp_world (fun w1 hw1 => ?_)
  have A1 : RrAt w1 w.heap.size m p fi (.slice a n c) (.slice ap np cp) := by subst hw1; exact (RrAt.new rfl).alloc _
  have A2 : RrAt w1 (w.heap.size + 1) 0 0 0 (.slice none 0 0) (.slice none 0 0) := by subst hw1; exact RrAt.new (by simp)
  have S1 : Sees w w1 := by subst hw1; exact ((Sees.refl w).alloc _).alloc _
  have hz1 : w1.heap.size = w.heap.size + 2 := by subst hw1; simp
  clear hw1
  obtain ⟨x0, x1, x2, x3, x4⟩ := A1.c
  have fx := A1.fr
  go_upto_region 4 with fail
  refine wp_world (fun w2 hw2 => ?_)
  have B1 : RrAt w2 w.heap.size x p fi (.slice a n c) (.slice ap np cp) := by subst hw2; exact A1.set0 _
  have K2 : Keeps (fun b => b = w.heap.size) w1 w2 := by subst hw2; exact keeps1 _ _ _ _
  have B2 := A2.keeps K2 (by omega)
  have S2 : Sees w w2 := ((Keeps.of_sees (F := fun _ => False) S1).trans' K2 (fun b hb e => by have e : b = w.heap.size := e; omega)).sees_end (fun _ _ h => h)
  have hz2 : w.heap.size + 2 ≤ w2.heap.size := by have := K2.size; omega
  clear hw2 x0 x1 x2 x3 x4 fx A1 A2 K2 S1 hz1
  obtain ⟨x0, x1, x2, x3, x4⟩ := B1.c
  go_wp2_with fail
  refine (refEvict08 (fun b => G b ∧ b < w.heap.size) x p fi _ _ ls g w2 HX.out.1 HX.out.2 HB.out.fi0 (by have := HB.out.fi1; omega) (by have := HB.out.len; omega) HB.out.gok HB.out.sum (by have := HB.out.glen; omega) (H.out.sees S2) k HK.out).mono ?_
  rintro e w3 ⟨vl3, vp3, rfl, hr3, hs3⟩
  obtain ⟨a3, c3, rfl, _⟩ := hr3.l.slice'
  obtain ⟨ap3, cp3, rfl, _⟩ := hr3.p.slice'
  obtain ⟨n3, hn3⟩ : ∃ n, n = (ls.drop k).length := ⟨_, rfl⟩
  obtain ⟨np3, hnp3⟩ : ∃ n, n = (dropG k g).length := ⟨_, rfl⟩
  rw [← hn3, ← hnp3] at hr3 ⊢
  have C2 := B2.sees hs3
  obtain ⟨y0, y1, y2, y3, y4⟩ := C2.c
  have fy := C2.fr
  have HC2 := Lib.hid C2
  have HR3 := Lib.hid hr3
  have S3 := Lib.hid (S2.trans hs3)
  have HZ := Lib.hid hz2
  clear hn3 hnp3 hr3 C2 B1 B2 x0 x1 x2 x3 x4 S2 hs3 hz2
  go_wp2_with fail
  have E := HC2.out.set5 x p (fi + k) (.slice a3 n3 c3) (.slice ap3 np3 cp3)
  have KE := keeps5 w3 (w.heap.size + 1) (.int .i64 x) (.int .i64 p) (.int .i64 (fi + k)) (.slice a3 n3 c3) (.slice ap3 np3 cp3)
  obtain ⟨z0, z1, z2, z3, z4⟩ := E.c
  refine bodyPost_ret_by (v := .tuple #[rrV x p (fi + k) (.slice a3 n3 c3) (.slice ap3 np3 cp3), .int .i64 0]) (by simp [results, Tryd.results30, go_sem, z0, z1, z2, z3, z4]) rfl ⟨_, _, rfl, ?_, ((Keeps.of_sees (F := fun _ => False) S3.out).trans' KE (fun b hb e => by have e : b = w.heap.size + 1 := e; omega)).sees_end (fun _ _ h => h)⟩
  exact (HR3.out.keeps KE (fun b hb e => by have e : b = w.heap.size + 1 := e; have := HZ.out; rcases hb with h | h; (have := h.1.2; omega); omega)).mono (fun b _ h => by have := HZ.out; rcases h with h | h; exact .inl h.1; exact .inr (by omega))
end Go.Proofs.YthjcnhgfagefjaaDoor
